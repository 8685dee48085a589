/- A part of the proofs of this claim: what functions of the program answer on an abstract machine, and plain laws. No condition. -/
import Derived.Test.YtgigjokffalgkaaGreatA4
import Derived.Test.YtgigjokffalgkaaGreatA2
import Derived.IntWalk
import Derived.KernelRfl
import Derived.WideKeyArr2
import Derived.RowKit
set_option linter.unusedVariables false
set_option linter.unusedSimpArgs false
set_option linter.unusedSectionVars false
namespace Go.V
open Go.Ab
open Option renaming some->C,none->O
open Bool renaming true->Za,false->Zb
open Decidable renaming decide->Zc
section
open List renaming getElem?_eq_getElem -> aB, nodup_nil -> aD, getElem?_eq_none -> bB, mem_cons_self -> bD
theorem bL4 : ∀{m:List (Option Src)},bL3 m=Za->∀(i:Nat) (x:Option Src),m[i]?=C x->∃k,x=C ⟨k,O⟩
 |[],_,i,x,h=>by simp at h
 |none::_,h,_,_,_=>by cases h
 |some ⟨k,C n⟩::_,h,_,_,_=>by cases h
 |some ⟨k,O⟩::r,h,0,x,hx=>by simp at hx;exact⟨k,hx.symm⟩
 |some ⟨k,O⟩::r,h,i+1,x,hx=>bL4 (m:=r) h i x (by simpa using hx)
theorem aY6 : ∀{os:List OSk} {i j:Nat},j∈tC os i↔∃p o,os[p]?=C o/\o.ro=Zb/\j=i+p
 |[],i,j=>by simp[tC]
 |o::os,i,j=>by
  simp only[tC];have ih:= @aY6 os (i+1) j;constructor
  .intro h;cases hr:o.ro with
   |true=>
    rw[hr,zC]at h;obtain⟨p,o',h1,h2,h3⟩:=ih.1 h;exact⟨p+1,o',by simpa using h1,h2,by omega⟩
   |false=>
    rw[hr,zD]at h;rcases List.mem_cons.1 h with h|h
    .exact⟨0,o,rfl,hr,by omega⟩
    .obtain⟨p,o',h1,h2,h3⟩:=ih.1 h;exact⟨p+1,o',by simpa using h1,h2,by omega⟩
  .rintro⟨p,o',h1,h2,h3⟩;cases p with
   |zero=>
    simp at h1;subst h1;rw[h2,zD];exact List.mem_cons.2 (.inl (by omega))
   |succ p=>
    have:=ih.2 ⟨p,o',by simpa using h1,h2,by omega⟩;cases o.ro with
    |true=>exact this
    |false=>exact List.mem_cons_of_mem _ this
theorem bK2 : ∀{os:List OSk} {m:List (Option Src)} {i:Nat} {f:Nat->Nat},os.length=m.length->(∀(p:Nat) (x:Option Src),m[p]?=C x->∃k,x=C ⟨k,O⟩/\f (i+p)=k)->(tC os i).map f=kF os m
 |[],[],i,f,_,_=>rfl
 |[],_::_,_,_,h,_=>by simp at h
 |_::_,[],_,_,h,_=>by simp at h
 |o::os,x::m,i,f,h,hf=>by
  obtain⟨k,h1,h2⟩:=hf 0 x rfl;subst h1
  have ih:= @bK2 os m (i+1) f (by simpa using h) λp y hy=>by
   obtain⟨k',h3,h4⟩:=hf (p+1) y (by simpa using hy);exact⟨k',h3,by rw[<-h4];congr 1;omega⟩
  simp only[tC,kF];cases o.ro with
  |true=>exact ih
  |false=>
   simp only[zD,List.map_cons,ih];rw[Nat.add_zero]at h2;rw[h2]
theorem aB8 : ∀{os:List OSk} {m:List (Option Src)} {k:Nat},k∈kF os m->∃(i:Nat) (o:OSk) (x:Src),m[i]?=C (C x)/\os[i]?=C o/\o.ro=Zb/\x.k=k
 |[],[],k,h=>by simp[kF]at h
 |[],_::_,k,h=>by simp[kF]at h
 |_::_,[],k,h=>by simp[kF]at h
 |o::os,O::m,k,h=>by
  obtain⟨i,o',x,h1,h2,h3,h4⟩:=aB8 (os:=os) (m:=m) h;exact⟨i+1,o',x,by simpa using h1,by simpa using h2,h3,h4⟩
 |o::os,C x::m,k,h=>by
  simp only[kF]at h;cases hr:o.ro with
  |true=>
   rw[hr,zC]at h;obtain⟨i,o',x',h1,h2,h3,h4⟩:=aB8 (os:=os) (m:=m) h;exact⟨i+1,o',x',by simpa using h1,by simpa using h2,h3,h4⟩
  |false=>
   rw[hr,zD]at h;rcases List.mem_cons.1 h with h|h
   .exact⟨0,o,x,rfl,rfl,hr,h.symm⟩
   .obtain⟨i,o',x',h1,h2,h3,h4⟩:=aB8 (os:=os) (m:=m) h;exact⟨i+1,o',x',by simpa using h1,by simpa using h2,h3,h4⟩
theorem bv1 : ∀{m:List (Option Src)} {k:Nat},k∈nX m->∃(i:Nat) (x:Src),m[i]?=C (C x)/\x.k=k
 |[],k,h=>by simp[nX]at h
 |none::m,k,h=>by
  obtain⟨i,x,h1,h2⟩:=bv1 (m:=m) h;exact⟨i+1,x,by simpa using h1,h2⟩
 |some x::m,k,h=>by
  rcases List.mem_cons.1 h with h|h
  .exact⟨0,x,rfl,h.symm⟩
  .obtain⟨i,x',h1,h2⟩:=bv1 (m:=m) h;exact⟨i+1,x',by simpa using h1,h2⟩
theorem up : ∀{os:List OSk} {m:List (Option Src)},(nX m).Nodup->(kF os m).Nodup
 |[],[],_=>aD
 |[],_::_,_=>aD
 |_::_,[],_=>aD
 |o::os,O::m,h=>up (os:=os) (m:=m) h
 |o::os,C x::m,h=>by
  have h1:=List.nodup_cons.1 h;have ih:=up (os:=os) h1.2;simp only[kF];cases o.ro with
  |true=>exact ih
  |false=>
   refine List.nodup_cons.2 ⟨λh2=>h1.1 ?_,ih⟩;obtain⟨i,o',x',h3,_,_,h4⟩:=aB8 h2;rw[<-h4];exact yw h3
theorem cd2 {S:bz}{N:Nat}: ∀{os:List OSk} {i:Nat} {st st1:DSt},tz S N os i st=C st1->∀(p:Nat) (o:OSk) (x:Src),os[p]?=C o->o.ro=Za->st1.m[i+p]?=C (C x)->x.k∈st1.lent
 |[],i,st,st1,h,p,o,x,ho,_,_=>by simp at ho
 |o'::os,i,st,st1,h,p,o,x,ho,hr,hx=>by
  simp only[tz]at h;split at h
  .rename_i y hy;obtain⟨st2,h1,h2⟩:=bx h;cases p with
   |succ p=>exact cd2 h2 p o x (by simpa using ho) hr (by rw[<-hx];congr 1;omega)
   |zero=>
    simp at ho;subst ho;obtain⟨t1,t2⟩:=(aS4 h1).m;obtain⟨t3,t4⟩:=(ph h2).m
    have hx':st1.m[i]?=C y:=by
     rw[<-vR,t4,t2];exact aT8 (aT8 hy)
    rw[Nat.add_zero,hx']at hx;injection hx with hx
    subst hx;refine(ph h2).lent _ ?_;unfold cv2 at h1;split at h1
    .cases hr
    .rename_i hxx;injection hxx with hxx
     subst hxx;split at h1
     .rename_i es ro l k _ es' fz cs hb;simp only[OSk.ro]at hr;subst hr;cases hk:(Nat.beq es es'&&(Za|| !fz))with
      |false=>rw[hk]at h1;cases h1
      |true=>
       rw[hk,zC]at h1;exact(tA _ _ _ _ h1).lent _ bD
     .cases h1
    .rename_i hxx;cases hxx
    .rename_i hxx;injection hxx with hxx
     subst hxx;rename_i ro s cut _ _;simp only[OSk.ro]at hr;subst hr;cases hk:(Za|| !(bu S _).frozen)with
     |false=>rw[hk]at h1;cases h1
     |true=>
      rw[hk,zC]at h1;obtain⟨l,h3,h4⟩:=bx h1;injection h4 with h4
      subst h4;exact bD
    .cases h1
  .cases h
def mf (c:Ctx)(st:DSt)(bs:List Blk):Ctx:=⟨λi=>match st.m[i]? with
 |some x=>af8 c x
 |none=>O,bs,c.Y,λb=>c.mut b/\¬∃k,(k∈nX st.m∨k∈st.lent)/\(bu c.S k).dim≠O/\c.Z k=C b⟩
structure Entered (c c0:Ctx)(objs:List OSk)(st:DSt)(bs:List Blk):Prop where
 rel:ga c0
 sub: ∀i,(bu c0.S i).dim≠O->∃x,st.m[i]?=C x/\c0.Z i=af8 c x/\∀y,x=C y->(bu c.S y.k).dim≠O/\(y.cut=O->(bu c0.S i).dim=(bu c.S y.k).dim)/\((bu c0.S i).frozen=Zb->(bu c.S y.k).frozen=Zb)
 own: ∀b,c0.own b->c.own b
 fz: ∀(i:Nat) (o:OSk),objs[i]?=C o->o.ro=Za->(bu c0.S i).frozen=Za/\(bu c0.S i).dim≠O
 len:bs.length=objs.length/\st.m.length=objs.length
theorem enter {c:Ctx}{sk:yj}{vals vs:List VV}{as:List Value}{st:DSt}{fs bs:List Blk}(hR:ga c)(h0:sk.fix=[])(hd:nW c.S 0 [] sk vals=C st)(he:pj id sk st.ls=C (vs,fs,bs))(hf:F2 (VRel c) vals as):
  Entered c (mf c st bs) sk.free st bs/\F2 (VRel (mf c st bs)) vs as:=by
 obtain⟨ct0,vs0,fs0,bs0,p1,p2,p3⟩:=bJ7 (f:=id) hR hd hf;rw[he]at p1;injection p1 with p1
 injection p1 with q1 p1
 injection p1 with q2 q3
 subst q1;subst q2;subst q3;obtain⟨ap1,ap2⟩:=pi hd;have hnd:=pg ap1;rw[List.nil_append]at hnd ap2;obtain⟨y1,y2,y3⟩:=p3.get
 have sub: ∀i,(bu bs i).dim≠O->∃(x:Option Src) (o:OSk),st.m[i]?=C x/\sk.free[i]?=C o/\uq c ct0 o x (bu bs i):=by
  intro i hi;have hlt:=mJ hi;have hb:=aB hlt;have hm:i<st.m.length:=by rw[y1];exact hlt
  obtain⟨o,h1,h2⟩:=y3 i _ _ (aB hm) hb;rw[vu hb];exact⟨_,o,aB hm,h1,h2⟩
 have hmu: ∀i x,st.m[i]?=C x->(mf c st bs).Z i=af8 c x:=by
  intro i x hx
  show(match st.m[i]? with
   |some x=>af8 c x
   |none=>O)=_
  rw[hx]
 have src: ∀i,(bu bs i).frozen=Zb->∀b,(mf c st bs).Z i=C b->∃x,st.m[i]?=C (C x)/\(bu c.S x.k).frozen=Zb/\c.Z x.k=C b/\x.k∈kF sk.free st.m:=by
  intro i hz b hm;obtain⟨x,o,h1,h2,h3⟩:=sub i (mB hz);rw[hmu i x h1]at hm;rcases h3 with⟨_,h3⟩|⟨h3,h4⟩
  .rw[h3]at hz;cases hz
  .cases x with
   |none=>cases hm
   |some x=>
    obtain⟨k,cut⟩:=x;rw[h3]at hz;exact⟨_,h1,h4.1 hz,hm,aW3 h1 h2 hz⟩
 have src2: ∀i,(bu bs i).dim≠O->∀b,(mf c st bs).Z i=C b->∃x,st.m[i]?=C (C x)/\(bu c.S x.k).dim≠O/\c.Z x.k=C b:=by
  intro i hz b hm;obtain⟨x,o,h1,h2,h3⟩:=sub i hz;rw[hmu i x h1]at hm;rcases h3 with⟨_,h3⟩|⟨h3,h4⟩
  .rw[h3]at hz;exact(hz rfl).elim
  .cases x with
   |none=>cases hm
   |some x=>
    obtain⟨k,cut⟩:=x;obtain⟨_,d,h5,_⟩:=h4;exact⟨_,h1,by rw[h5];simp,hm⟩
 have hT:Tell c (mf c st bs) 0 id st:=by
  refine⟨⟨rfl,λb y hy hn=> ?_⟩,λj x hl=> ?_,λs hs hsd b hm=> ?_⟩
  .rintro(⟨i,h1,h2⟩|h)
   .obtain⟨x,_,h3,h4,_⟩:=src i h1 b h2;exact hn (.inl ⟨x.k,h3,h4⟩)
   .exact hn h.1
  .rcases hl with⟨h1,_⟩|⟨_,h2⟩
   .omega
   .rw[Nat.sub_zero,vR]at h2
    have hlt:j<bs.length:=by
     rw[<-y1];rcases Nat.lt_or_ge j st.m.length with h|h
     .exact h
     .rw[bB h]at h2;cases h2
    refine⟨hlt,λd' hd'=> ?_⟩;obtain⟨x',o,h1,h3,h4⟩:=sub j (by rw[show(bu bs j).dim=C d' from hd'];simp);rw[h2]at h1;injection h1 with h1
    subst h1;have hd'':(bu bs j).dim=C d':=hd';rcases h4 with⟨_,h4⟩|⟨h4,h5⟩
    .rw[h4]at hd'';cases hd''
    .cases x with
     |none=>
      obtain⟨_,s,h6⟩:=h5;rw[h6]at hd'';injection hd'' with hd''
      subst hd'';exact⟨by simp,hmu j _ h2⟩
     |some x=>
      obtain⟨k,cut⟩:=x;obtain⟨_,d,h6,h7,_⟩:=h5;refine⟨d,h6, ?_⟩;cases cut with
      |none=>
       simp only at h7;rw[h7]at hd'';injection hd'' with hd''
       subst hd'';exact⟨rfl,hmu j _ h2,rfl⟩
      |some n=>
       simp only at h7;rw[h7]at hd'';injection hd'' with hd''
       subst hd'';exact⟨rfl,hmu j _ h2,rfl⟩
  .rintro(⟨i,h1,h2⟩|h)
   .obtain⟨x,_,h3,h4,h5⟩:=src i h1 b h2;have:=hR.inj x.k s b h3 hsd h4 hm;rw[this]at h5;exact bu2 ap2 h5 hs
   .exact h.2 ⟨s, .inr hs,hsd,hm⟩
 obtain⟨vs1,fs1,bs1,r1,r2,r3,r4⟩:=aY4 hR hT hd hf;rw[he]at r1;injection r1 with r1
 injection r1 with e1 r1
 injection r1 with e2 e3
 subst e1;subst e2;subst e3;obtain⟨_,_,y4⟩:=r4.get;refine⟨⟨⟨hR.ok,λi i' b hz hdm hm hm'=> ?_,λi=> ?_,λi b hdm hm hb=> ?_,λb hb=> ?_⟩,λi hi=> ?_,λb hb=> ?_,λi o ho hr=> ?_,⟨y2.symm,by rw[y1,y2]⟩⟩,r2⟩
 .obtain⟨x,h1,h2,h3,_⟩:=src i hz b hm;obtain⟨x',h4,h5,h6⟩:=src2 i' hdm b hm';exact aT2 hnd h1 h4 (hR.inj _ _ b h2 h5 h3 h6)
 .by_cases hdm:(bu bs i).dim=O
  .intro d hd';rw[show(bu (mf c st bs).S i).dim=O from hdm]at hd';cases hd'
  .have hlt:=mJ hdm;have hb:=aB hlt;have hm:i<st.m.length:=by rw[y1];exact hlt
   obtain⟨o,h1,h2⟩:=y4 i _ _ (aB hm) hb;exact h2.blkRel (ct:=mf c st bs) hR rfl (vu hb) λ_=>hmu i _ (aB hm)
 .obtain⟨x',h4,h5,h6⟩:=src2 i hdm b hm;exact hb.2 ⟨x'.k, .inl (yw h4),h5,h6⟩
 .rcases hb.1 with⟨k,h1,h2⟩|h
  .cases hdd:(bu c.S k).dim with
   |none=>exact(mB h1 hdd).elim
   |some d=>
    obtain⟨y,_,_,hy,_⟩:=hR.block hdd h2;exact hR.ok b y hy
  .exact hR.fbl b h
 .obtain⟨x,o,h1,h2,h3⟩:=sub i hi;refine⟨x,h1,hmu i x h1,λy hy=> ?_⟩;subst hy;rcases h3 with⟨_,h3⟩|⟨h3,h4,d,h5,h6,_⟩
  .rw[show bu (mf c st bs).S i=bu bs i from rfl,h3]at hi;exact(hi rfl).elim
  .refine⟨by rw[h5];simp,λhc=> ?_,λhz=>h4 (by rw[<-h3];exact hz)⟩;rw[hc]at h6;rw[h5];exact h6
 .obtain⟨i,h1,h2⟩:=hb;obtain⟨x,_,h3,h4,_⟩:=src i h1 b h2;exact⟨x.k,h3,h4⟩
 .have hi:i<bs.length:=by
   rw[<-y2];rcases Nat.lt_or_ge i sk.free.length with h|h
   .exact h
   .rw[bB h]at ho;cases ho
  have hm:i<st.m.length:=by rw[y1];exact hi
  obtain⟨o',h1,h2⟩:=y3 i _ _ (aB hm) (aB hi);rw[ho]at h1;injection h1 with h1
  subst h1;rw[show bu (mf c st bs).S i=bu bs i from rfl,vu (aB hi)];rcases h2 with⟨h2,_⟩|⟨h2,h3⟩
  .subst h2;cases hr
  .refine⟨h2.trans hr, ?_⟩;cases hx:st.m[i]with
   |none=>rw[hx]at h3;obtain⟨h3,_⟩:=h3;rw[h3]at hr;cases hr
   |some x=>
    obtain⟨k,cut⟩:=x;rw[hx]at h3;obtain⟨_,d,_,h4,_⟩:=h3;cases cut with
    |none=>simp only at h4;rw[h4];simp
    |some n=>simp only at h4;rw[h4];simp
end
section
open List renaming getElem?_eq_getElem -> aB, getElem?_eq_none -> aD
open Nat renaming lt_or_ge -> bB, add_sub_cancel_left -> bD
theorem bK4 : ∀{l:List Nat} {S:bz} {k:Nat},k∈l->(bu (ap0 l S) k).frozen=Za
 |[],S,k,h=>by simp at h
 |a::l,S,k,h=>by
  simp only[ap0];by_cases hk:k∈l
  .exact bK4 hk
  .have:k=a:=by
    rcases List.mem_cons.1 h with h|h
    .exact h
    .exact(hk h).elim
   subst this;rcases(ue l (lH S k (bu S k).freeze)).2 k with h1|h1
   .rw[h1,xF];split
    .exact mY
    .rename_i hn;have: ¬k<S.length:=λe=>hn ⟨rfl,e⟩
     rw[vw (by omega)];rfl
   .rw[h1];exact mY
theorem cK4 {c c0 c':Ctx}{objs:List OSk}{sk:yj}{vals vs:List VV}{as:List Value}{st st':DSt}{fs bs bs0:List Blk}{Sf:bz}(hR:ga c)(h0:c0=mf c st bs0)(hE:Entered c c0 objs st bs0)(hle:Le c0 c')(hR':ga c')
  (hcut:bL3 st.m=Za) (hok:bk0 c.S (kF objs st.m)=Za) (hnd:(nX st.m).Nodup) (hlent: ∀(i:Nat) (o:OSk) (x:Src),objs[i]?=C o->o.ro=Za->st.m[i]?=C (C x)->x.k∈st.lent)
  (hro:sk.noRo=Za) (hd:nW c'.S objs.length (tC objs 0) sk vals=C st') (he:pj (vM st.m objs.length c.S.length) sk st'.ls=C (vs,fs,bs)) (hf:F2 (VRel c') vals as) (hS:vy (kF objs st.m) fs (ap0 st.lent c.S)=C Sf):
  ∃ct:Ctx,ct.Y=c'.Y/\ct.S=Sf++bs/\ct.fb=c.fb/\(∀k,k<c.S.length->ct.Z k=c.Z k)/\Le c ct/\ga ct/\F2 (VRel ct) vs as/\
   (∀k,k<c.S.length->k∉kF objs st.m->(bu c.S k).dim≠O->∀b y,c.Z k=C b->c.Y.m b=C y->ct.Y.m b=C y):=by
 have hY0:c0.Y=c.Y:=by rw[h0];rfl
 have hfb0: ∀b,c0.fb b↔(c.mut b/\¬∃k,(k∈nX st.m∨k∈st.lent)/\(bu c.S k).dim≠O/\c.Z k=C b):=by rw[h0];exact λb=>Iff.rfl
 have hS0:c0.S=bs0:=by rw[h0];rfl
 have hfb':c'.fb=c0.fb:=hle.fb;obtain⟨l1,l2⟩:=hE.len;obtain⟨s1,s2,s3,s4⟩:=kE hS;rw[(ue st.lent c.S).1]at s2 s4;have hfz:=ue st.lent c.S
 have pos: ∀i,i<objs.length->∃k,st.m[i]?=C (C ⟨k,O⟩)/\vM st.m objs.length c.S.length i=k:=by
  intro i hi;have hm:i<st.m.length:=by omega
  obtain⟨k,hk⟩:=bL4 hcut i _ (aB hm);have h1:st.m[i]?=C (C ⟨k,O⟩):=by rw[aB hm,hk]
  refine⟨k,h1, ?_⟩;unfold vM;rw[show Nat.blt i objs.length=Za from Nat.ble_eq_true_of_le hi,zC,vR,h1]
 have fmap:(tC objs 0).map (vM st.m objs.length c.S.length)=kF objs st.m:=by
  refine bK2 l2.symm λp x hx=> ?_
  have hp:p<objs.length:=by
   rw[<-l2];rcases bB p st.m.length with h|h
   .exact h
   .rw[aD h]at hx;cases hx
  obtain⟨k,h1,h2⟩:=pos p hp;rw[hx]at h1;injection h1 with h1
  exact⟨k,h1,by rw[Nat.zero_add];exact h2⟩
 have fxlt: ∀j,j∈tC objs 0->j<objs.length/\∃o,objs[j]?=C o/\o.ro=Zb:=by
  intro j hj;obtain⟨p,o,h1,h2,h3⟩:=aY6.1 hj;rw[Nat.zero_add]at h3;subst h3;refine⟨?_,o,h1,h2⟩;rcases bB j objs.length with h|h
  .exact h
  .rw[aD h]at h1;cases h1
 have fxw: ∀j,j∈tC objs 0->vM st.m objs.length c.S.length j∈kF objs st.m:=λj hj=>by rw[<-fmap];exact List.mem_map_of_mem hj
 have wfx: ∀k,k∈kF objs st.m->∃j,j∈tC objs 0/\vM st.m objs.length c.S.length j=k:=λk hk=>by rw[<-fmap]at hk;obtain⟨j,h1,h2⟩:=List.mem_map.1 hk;exact⟨j,h1,h2⟩
 have oth: ∀k,(∀j,j∈tC objs 0->vM st.m objs.length c.S.length j≠k)->k∉kF objs st.m:=λk hk h=>by obtain⟨j,h1,h2⟩:=wfx k h;exact hk j h1 h2
 let ct:Ctx:=⟨λi=>if i<c.S.length then c.Z i else match st'.m[i-c.S.length]? with
  |some x=>af8 c' x
  |none=>O,Sf++bs,c'.Y,c.fb⟩
 have hget: ∀k,k<c.S.length->bu ct.S k=bu Sf k:=λk hk=>na (by rw[s2];exact hk)
 have hoth: ∀k,k<c.S.length->k∉kF objs st.m->bu ct.S k=bu (ap0 st.lent c.S) k:=λk hk hn=>by rw[hget k hk,s3 k hn]
 have own0: ∀b,c0.own b->∃k,k∈kF objs st.m/\(bu c.S k).frozen=Zb/\c.Z k=C b:=by
  rintro b ⟨i,h1,h2⟩;obtain⟨x,h3,h4,h5⟩:=hE.sub i (mB h1);rw[h4]at h2;cases x with
  |none=>cases h2
  |some x=>
   obtain⟨h6,_,h8⟩:=h5 x rfl
   have hi:i<objs.length:=by
    rw[<-l2];rcases bB i st.m.length with h|h
    .exact h
    .rw[aD h]at h3;cases h3
   have ho:objs[i]?=C objs[i]:=aB hi;refine⟨x.k,aW3 h3 ho ?_,h8 h1,h2⟩;cases hr:(objs[i]).ro with
   |false=>rfl
   |true=>rw[(hE.fz i _ ho hr).1]at h1;cases h1
 have nown: ∀k,k∉kF objs st.m->(bu c.S k).dim≠O->∀b,c.Z k=C b->¬c0.own b:=by
  intro k hk hdm b hm h;obtain⟨k',h1,h2,h3⟩:=own0 b h;have:=hR.inj k' k b h2 hdm h3 hm;subst this;exact hk h1
 have hun: ∀k,k<c.S.length->k∉kF objs st.m->(bu c.S k).dim≠O->∀b y,c.Z k=C b->c.Y.m b=C y->c'.Y.m b=C y:=λk _ hk hdm b y hm hy=>hle.un b y (by rw[hY0];exact hy) (nown k hk hdm b hm)
 have exists_blk: ∀k b,(bu c.S k).dim≠O->c.Z k=C b->∃y,c.Y.m b=C y:=by
  intro k b hdm hm;cases hdd:(bu c.S k).dim with
  |none=>exact(hdm hdd).elim
  |some d=>
   obtain⟨y,_,_,hy,_⟩:=hR.block hdd hm;exact⟨y,hy⟩
 have dimo: ∀k,k<c.S.length->k∉kF objs st.m->(bu ct.S k).dim=(bu c.S k).dim:=λk hk hn=>by rw[hoth k hk hn];exact hfz.dim k
 have notin: ∀k,k<c.S.length->k∉kF objs st.m->(bu ct.S k).frozen=Zb->∀b,c.Z k=C b->(bu c.S k).frozen=Zb/\¬∃k',(k'∈nX st.m∨k'∈st.lent)/\(bu c.S k').dim≠O/\c.Z k'=C b:=by
  intro k hk hn hz b hm;rw[hoth k hk hn]at hz;have hz':(bu c.S k).frozen=Zb:=by rw[<-hfz.fz hz];exact hz
  refine⟨hz', ?_⟩;rintro⟨k',h1,h2,h3⟩;have:=hR.inj k k' b hz' h2 hm h3;subst this;have hnl:k∉st.lent:=λe=>by rw[bK4 e]at hz;cases hz
  rcases h1 with h1|h1
  .obtain⟨i,x,h4,h5⟩:=bv1 h1
   have hi:i<objs.length:=by
    rw[<-l2];rcases bB i st.m.length with h|h
    .exact h
    .rw[aD h]at h4;cases h4
   have ho:objs[i]?=C objs[i]:=aB hi;cases hr:(objs[i]).ro with
   |true=>exact hnl (by rw[<-h5];exact hlent i _ x ho hr h4)
   |false=>exact hn (by rw[<-h5];exact aW3 h4 ho hr)
  .exact hnl h1
 have g:GT c c' ct objs.length (vM st.m objs.length c.S.length) (tC objs 0) sk st' fs bs:=by
  refine⟨rfl,rfl,by simp[ct,s2],λk hk hn=> ?_,λi j b hi hb=> ?_,λj hj=>(mh hok (fxw j hj)).1,λi b hb=> ?_,λi=> ?_,λk hk=>zE hk,λi x hx=> ?_,λb y hy hn=>hle.un b y (by rw[hY0];exact hy) λe=>hn (hE.own b e),λb y hy hn=>hle.ow b y (by rw[hY0];exact hy) λe=>hn (hE.own b e),by rw[<-hY0];exact hle.n,λk hk hn hdm b y hm hy=> ?_,λk hk hn hdm s hs hz b hm e=> ?_,λj hj hdm=> ?_,λj hj=>(mh hok (fxw j hj)).2,
   λj j' hj hj' e=> ?_,λk b hdm hm hb=> ?_,λj hj hn=> ?_,λk hk hn hz b y hm hy=> ?_,λk hk hn hz s hs hsd b hm e=> ?_,λb hb=> ?_,λj hj=>(fxlt j hj).1,hro⟩
  .rw[hoth k hk (oth k hn)];rcases hfz.2 k with h|h
   .exact .inl h
   .exact .inr (.inl h)
  .have hj:=List.mem_of_getElem? hi;have hw:=fxw j hj;have hlt:=(mh hok hw).1;show bu ct.S _=b;rw[hget _ hlt];refine s4 (up hnd) i _ b ?_ hb hlt;rw[<-fmap,List.getElem?_map,hi];rfl
  .show bu (Sf++bs) (c.S.length+i)=b;rw[<-s2,rW];exact vu hb
  .unfold vM
   have:Nat.blt (objs.length+i) objs.length=Zb:=by
    cases hb:Nat.blt (objs.length+i) objs.length with
    |false=>rfl
    |true=>have:=Nat.le_of_ble_eq_true hb;omega
   rw[this,zD,bD]
  .show(if c.S.length+i<c.S.length then _ else _)=_;rw[zF (by omega),bD,hx]
  .exact hun k hk (oth k hn) (by rw[<-dimo k hk (oth k hn)];exact hdm) b y hm hy
  .have hdm':(bu c.S k).dim≠O:=by rw[<-dimo k hk (oth k hn)];exact hdm
   obtain⟨y,hy⟩:=exists_blk k b hdm' e;exact hle.ow b y (by rw[hY0];exact hy) (nown k (oth k hn) hdm' b e) ⟨s,hz,hm⟩
  .obtain⟨k,h1,h2⟩:=pos j (fxlt j hj).1;have hj0:j<c0.S.length:=by rw[hS0,l1];exact(fxlt j hj).1
   cases hdd:(bu c'.S j).dim with
   |none=>exact(hdm hdd).elim
   |some d=>
    obtain⟨h3,h4⟩:=hle.al j d hj0 hdd;obtain⟨x,h5,h6,h7⟩:=hE.sub j (by rw[h3];simp);rw[h1]at h5;injection h5 with h5
    subst h5;obtain⟨h8,h9,_⟩:=h7 _ rfl;rw[h2];refine⟨by rw[<-h9 rfl,h3],h4.trans h6,λb y hm hy=>hle.ln j d b y hj0 hdd (h6.trans hm) (by rw[hY0];exact hy)⟩
  .obtain⟨k,h1,h2⟩:=pos j (fxlt j hj).1;obtain⟨k',h3,h4⟩:=pos j' (fxlt j' hj').1;rw[h2,h4]at e;subst e;exact aT2 hnd h1 h3 rfl
  .have h1:=hR'.fbk k b hdm hm;rw[hfb',hfb0]at h1;refine h1 ⟨.inr hb, ?_⟩;rintro⟨k',_,h3,h4⟩;exact hR.fbk k' b h3 h4 hb
  .obtain⟨k,h1,h2⟩:=pos j hj;have ho:objs[j]?=C objs[j]:=aB hj
   have hr:(objs[j]).ro=Za:=by
    cases hr:(objs[j]).ro with
    |true=>rfl
    |false=>exact(hn (aY6.2 ⟨j,_,ho,hr,by omega⟩)).elim
   obtain⟨h3,h4⟩:=hE.fz j _ ho hr;obtain⟨x,h5,h6,h7⟩:=hE.sub j h4;rw[h1]at h5;injection h5 with h5
   subst h5;obtain⟨h8,h9,_⟩:=h7 _ rfl;simp only at h8 h9;have hkl:k<c.S.length:=mJ h8
   have hkw:k∉kF objs st.m:=by
    intro hk;obtain⟨i,o,x,g1,g2,g3,g4⟩:=aB8 hk;have:=aT2 hnd g1 h1 g4;subst this;rw[ho]at g2;injection g2 with g2
    rw[g2,g3]at hr;cases hr
   have hj0:j<c0.S.length:=by rw[hS0,l1];exact hj
   have hsame:=hle.fz j h3 h4;rw[h2];refine⟨by simp only[ct,List.length_append,s2];omega,λd' hd'=> ?_⟩;rw[dimo k hkl hkw]at hd';refine⟨d',by rw[hsame,h9 trivial];exact hd',rfl, ?_,rfl⟩;show(if k<c.S.length then c.Z k else _)=_;rw[zE hkl,(hle.al j d' hj0 (by rw[hsame,h9 trivial];exact hd')).2,h6];rfl
  .obtain⟨h1,h2⟩:=notin k hk (oth k hn) hz b hm;exact .inr (by rw[hfb',hfb0];exact⟨.inl ⟨k,h1,hm⟩,h2⟩)
  .obtain⟨h1,h2⟩:=notin k hk (oth k hn) hz b e;have h3:=hR'.fbk s b hsd hm;rw[hfb',hfb0]at h3;exact h3 ⟨.inl ⟨k,h1,e⟩,h2⟩
  .refine .inr ?_;rw[hfb',hfb0];refine⟨.inr hb, ?_⟩;rintro⟨k',_,h3,h4⟩;exact hR.fbk k' b h3 h4 hb
 obtain⟨r1,r2,r3⟩:=g.all hR hR' hd he hf;exact⟨ct,rfl,rfl,rfl,λk hk=>zE hk,r1,r2,r3,hun⟩
end
section
open Bool renaming or_eq_false_iff -> bB
open List renaming getElem?_eq_getElem -> aB, getElem_mem -> aD, all_eq_true -> bD, any_eq_false -> cB, length_append -> cD
theorem bb4 : ∀{js:List Nat} {bs:List Blk} {S S1:bz},js.length=bs.length->∃S2,vy js bs S1=C S2
 |[],[],_,S1,_=>⟨S1,rfl⟩
 |[],_::_,_,_,h=>by simp at h
 |_::_,[],_,_,h=>by simp at h
 |j::js,b::bs,S,S1,h=>by
  obtain⟨S2,h1⟩:=bb4 (js:=js) (bs:=bs) (S:=S) (S1:=lH S1 j b) (by simpa using h);exact⟨S2,h1⟩
theorem bt6 {f:Nat->Nat}: ∀{os:List OSk} {ls rest:List Leaf} {bs:List Blk},ao9 f os ls=C (bs,rest)->(∀o,o∈os->o.ro=Zb)->∀b,b∈bs->b.dim≠O->b.frozen=Zb
 |[],ls,rest,bs,h,_,b,hb,_=>by
  simp only[ao9]at h;injection h with h
  injection h with h1 h2
  subst h1;simp at hb
 |o::os,ls,rest,bs,h,hr,b,hb,hd=>by
  simp only[ao9]at h;obtain⟨p,h1,h⟩:=bx h;obtain⟨q,h2,h⟩:=bx h;injection h with h
  injection h with h3 h4
  subst h3;rcases List.mem_cons.1 hb with hb|hb
  .subst hb;have ho:=hr o List.mem_cons_self;cases o with
   |dead=>
    simp only[bH6]at h1;injection h1 with h1
    rw[<-h1]at hd;exact(hd rfl).elim
   |cells es ro l=>
    simp only[bH6]at h1;obtain⟨v,h5,h6⟩:=bx h1;injection h6 with h6
    rw[<-h6];exact ho
   |arr ro s=>
    cases ls with
    |nil=>simp[bH6]at h1
    |cons x ls=>
     simp only[bH6]at h1;obtain⟨v,h5,h6⟩:=bx h1;injection h6 with h6
     rw[<-h6];exact ho
  .exact bt6 h2 (λo ho=>hr o (List.mem_cons_of_mem _ ho)) b hb hd
theorem cl1 {f:Nat->Nat}{sk:yj}{ls:List Leaf}{vs:List VV}{fs bs:List Blk}(h:pj f sk ls=C (vs,fs,bs))(hr:sk.noRo=Za):(∀b,b∈fs->b.dim≠O->b.frozen=Zb)/\∀b,b∈bs->b.dim≠O->b.frozen=Zb:=by
 unfold yj.noRo at hr;rw[Bool.and_eq_true,bD,bD]at hr;unfold pj at h;obtain⟨p,h1,h⟩:=bx h;obtain⟨q,h2,h⟩:=bx h;obtain⟨r,h3,h⟩:=bx h;split at h
 .injection h with h
  injection h with e1 h
  injection h with e2 e3
  subst e2;subst e3;exact⟨bt6 (rest:=q.2) h2 λo ho=>by simpa using hr.1 o ho,bt6 (rest:=r.2) h3 λo ho=>by simpa using hr.2 o ho⟩
 .cases h
theorem ci7 {vs:List VV}{fs bs:List Blk}(h:ao8 vs fs bs=Zb):alL vs=Zb/\(∀b,b∈fs->alB b=Zb)/\∀b,b∈bs->alB b=Zb:=by
 unfold ao8 at h;rw[bB,bB,cB,cB]at h;exact⟨h.1.1,λb hb=>by simpa using h.1.2 b hb,λb hb=>by simpa using h.2 b hb⟩
theorem cq5 {l:List Blk}{i:Nat}(h:(bu l i).dim≠O):bu l i∈l:=by
 have hi:=mJ h;rw[vu (aB hi)];exact aD hi
theorem bM9 {c ctf:Ctx}{js:List Nat}{vs:List VV}{as:List Value}{fs bs:List Blk}{Sa Sb S1 S2:bz}(hR:ga c)(hle:Le c ctf)(hRf:ga ctf)(hf:F2 (VRel ctf) vs as)(hal:ao8 vs fs bs=Zb)
  (hz1: ∀b,b∈fs->b.dim≠O->b.frozen=Zb) (hz2: ∀b,b∈bs->b.dim≠O->b.frozen=Zb) (hla:Sa.length=c.S.length) (hlb:Sb.length=c.S.length) (hS1:vy js fs Sa=C S1) (hS2:vy js fs Sb=C S2) (hjs:js.Nodup) (hjl: ∀j,j∈js->j<c.S.length)
  (hS:ctf.S=S1++bs) (hZ: ∀k,k<c.S.length->ctf.Z k=c.Z k)
  (hoth: ∀k,k<c.S.length->k∉js->(bu Sa k=bu Sb k/\((bu Sa k).dim≠O->bu Sa k=bu c.S k))∨(bu Sb k=bu c.S k/\bu Sa k=(bu c.S k).freeze))
  (hun: ∀k,k<c.S.length->k∉js->(bu Sa k).dim≠O->∀b y,c.Z k=C b->c.Y.m b=C y->ctf.Y.m b=C y):
  Le c ⟨ctf.Z,S2++bs,ctf.Y,ctf.fb⟩/\ga ⟨ctf.Z,S2++bs,ctf.Y,ctf.fb⟩/\F2 (VRel ⟨ctf.Z,S2++bs,ctf.Y,ctf.fb⟩) vs as:=by
 obtain⟨a1,a2,a3⟩:=ci7 hal;obtain⟨p1,p2,p3,p4⟩:=kE hS1;obtain⟨q1,q2,q3,q4⟩:=kE hS2;refine thaw hR hle hRf hf a1 (by rw[hS,cD,cD,p2,q2,hla,hlb]) hZ λk=> ?_
 by_cases hk:k<c.S.length
 .have g1:bu (S2++bs) k=bu S2 k:=na (by rw[q2,hlb];exact hk);have g2:bu ctf.S k=bu S1 k:=by rw[hS];exact na (by rw[p2,hla];exact hk)
  by_cases hj:k∈js
  .obtain⟨i,hi,e⟩:=List.mem_iff_getElem.1 hj;have hi':i<fs.length:=by rw[<-p1];exact hi
   have e1:=p4 hjs i k _ (by rw[aB hi,e]) (aB hi') (by rw[hla];exact hk);have e2:=q4 hjs i k _ (by rw[aB hi,e]) (aB hi') (by rw[hlb];exact hk);refine .inl ⟨by rw[g1,g2,e1,e2],λhdm=> .inl ?_⟩;rw[g2,e1]at hdm⊢;exact⟨hz1 _ (aD hi') hdm,a2 _ (aD hi')⟩
  .rw[g1,g2,q3 k hj,p3 k hj];rcases hoth k hk hj with⟨h1,h2⟩|⟨h1,h2⟩
   .exact .inl ⟨h1.symm,λhdm=> .inr ⟨hk,h2 hdm,hun k hk hj hdm⟩⟩
   .exact .inr ⟨hk,h1,h2,λhdm=>hun k hk hj (by rw[h2,gp];exact hdm)⟩
 .have h1:k=c.S.length+(k-c.S.length):=by omega
  have g1:bu (S2++bs) k=bu bs (k-c.S.length):=by
   rw[h1,<-hlb,<-q2,rW]
   congr 1
   omega
  have g2:bu ctf.S k=bu bs (k-c.S.length):=by
   rw[hS,h1,<-hla,<-p2,rW]
   congr 1
   omega
  refine .inl ⟨by rw[g1,g2],λhdm=> .inl ?_⟩;rw[g2]at hdm⊢;exact⟨hz2 _ (cq5 hdm) hdm,a3 _ (cq5 hdm)⟩
theorem bx8 {c c0 c':Ctx}{objs:List OSk}{sk:yj}{vals vs:List VV}{as:List Value}{st st':DSt}{fs bs bs0:List Blk}{S2:bz}(hR:ga c)(h0:c0=mf c st bs0)(hE:Entered c c0 objs st bs0)(hle:Le c0 c')(hR':ga c')
  (hcut:bL3 st.m=Za) (hok:bk0 c.S (kF objs st.m)=Za) (hnd:(nX st.m).Nodup) (hlent: ∀(i:Nat) (o:OSk) (x:Src),objs[i]?=C o->o.ro=Za->st.m[i]?=C (C x)->x.k∈st.lent)
  (hro:sk.noRo=Za) (hd:nW c'.S objs.length (tC objs 0) sk vals=C st') (he:pj (vM st.m objs.length c.S.length) sk st'.ls=C (vs,fs,bs)) (hf:F2 (VRel c') vals as)
  (hS:vy (kF objs st.m) fs (cond (ao8 vs fs bs) (ap0 st.lent c.S) c.S)=C S2):
  ∃ct:Ctx,ct.Y=c'.Y/\ct.S=S2++bs/\Le c ct/\ga ct/\F2 (VRel ct) vs as/\uG (kF objs st.m) c ct:=by
 obtain⟨q1,q2,q3,q4⟩:=kE hS;obtain⟨Sf,hSf⟩:=bb4 (S:=c.S) (S1:=ap0 st.lent c.S) q1;obtain⟨ct,e1,e2,e3,e4,e5,e6,e7,e8⟩:=cK4 hR h0 hE hle hR' hcut hok hnd hlent hro hd he hf hSf
 have calm: ∀ct':Ctx,ct'.Y=ct.Y->(∀k,(bu ct'.S k).dim=(bu ct.S k).dim)->uG (kF objs st.m) c ct':=by
  intro ct' h1 h2 k hk hn hdm;obtain⟨_,p2,p3,_⟩:=kE hSf;have hl:(ap0 st.lent c.S).length=c.S.length:=(ue st.lent c.S).1;refine⟨?_,λb hm=> ?_⟩
  .rw[h2,e2,na (by rw[p2,hl];exact hk),p3 k hn,(ue st.lent c.S).dim];exact hdm
  .cases hdd:(bu c.S k).dim with
   |none=>exact(hdm hdd).elim
   |some d=>
    obtain⟨y,_,_,hy,_⟩:=hR.block hdd hm;rw[hy,h1];exact e8 k hk hn hdm b y hm hy
 cases hal:ao8 vs fs bs with
 |true=>
  rw[hal,zC,hSf]at hS;injection hS with hS
  subst hS;exact⟨ct,e1,e2,e5,e6,e7,calm ct rfl λ_=>rfl⟩
 |false=>
  rw[hal,zD]at hS;obtain⟨z1,z2⟩:=cl1 he hro;have hfz:=ue st.lent c.S
  obtain⟨r1,r2,r3⟩:=bM9 hR e5 e6 e7 hal z1 z2 hfz.1 rfl hSf hS (up hnd) (λj hj=>(mh hok hj).1) e2 e4 (λk hk hn=>by
   rcases hfz.2 k with h|h
   .exact .inl ⟨h,λ_=>h⟩
   .exact .inr ⟨rfl,h⟩) (λk hk hn hdm=>e8 k hk hn (by rw[<-hfz.dim];exact hdm))
  refine⟨⟨ct.Z,S2++bs,ct.Y,ct.fb⟩,e1,rfl,r1,r2,r3,calm _ rfl λk=> ?_⟩;obtain⟨_,p2,p3,p4⟩:=kE hSf;rw[e2];show(bu (S2++bs) k).dim=(bu (Sf++bs) k).dim;by_cases hk:k<c.S.length
  .rw[na (S:=S2) (by rw[q2,hal];exact hk),na (S:=Sf) (by rw[p2,hfz.1];exact hk)];by_cases hw:k∈kF objs st.m
   .obtain⟨i,hi,e⟩:=List.mem_iff_getElem.1 hw;have hi':i<fs.length:=by rw[<-q1];exact hi
    obtain⟨_,_,_,t4⟩:=kE hS
    rw[t4 (up hnd) i k _ (by rw[aB hi,e]) (aB hi') hk,
     p4 (up hnd) i k _ (by rw[aB hi,e]) (aB hi') (by rw[hfz.1];exact hk)]
   .obtain⟨_,_,t3,_⟩:=kE hS;rw[t3 k hw,p3 k hw,hfz.dim]
  .have h1:k=c.S.length+(k-c.S.length):=by omega
   have g1:bu (S2++bs) k=bu bs (k-c.S.length):=by
    obtain⟨_,t2,_,_⟩:=kE hS;rw[h1,<-t2,rW]
    congr 1
    omega
   have g2:bu (Sf++bs) k=bu bs (k-c.S.length):=by
    rw[h1,<-hfz.1,<-p2,rW]
    congr 1
    omega
   rw[g1,g2]
theorem de9 {c c1 c':Ctx}{fx mov:List Nat}{sk:yj}{vals vs:List VV}{as:List Value}{st:DSt}{fs bs:List Blk}{S2:bz}(hR:ga c)(hR':ga c')(hw:Within c c1 fx mov)(hR1:ga c1)(hle:Le c1 c')
  (hok:bk0 c.S fx=Za) (hro:sk.noRo=Za) (hd:nW c'.S c.S.length fx sk vals=C st) (he:pj id sk st.ls=C (vs,fs,bs)) (hf:F2 (VRel c') vals as) (hS:vy fx fs (ku fx mov (ao8 vs fs bs) 0 c.S)=C S2):
  ∃ct:Ctx,ct.Y=c'.Y/\ct.S=S2++bs/\Le c ct/\ga ct/\F2 (VRel ct) vs as:=by
 obtain⟨q1,q2,q3,q4⟩:=kE hS;obtain⟨Sf,hSf⟩:=bb4 (S:=c.S) (S1:=ku fx mov Za 0 c.S) q1;obtain⟨ct,e1,e2,e3,e4,e5,e6,e7,e8⟩:=do8 hR hR' hw hR1 hle hok hro hd he hf hSf;cases hal:ao8 vs fs bs with
 |true=>
  rw[hal,hSf]at hS;injection hS with hS
  subst hS;exact⟨ct,e1,e2,e5,e6,e7⟩
 |false=>
  rw[hal]at hS;obtain⟨z1,z2⟩:=cl1 he hro;obtain⟨ap1,_⟩:=pi hd;have hnd:=pg ap1;rw[List.nodup_append]at hnd;obtain⟨_,p2,p3,_⟩:=kE hSf;rw[mA]at p2
  obtain⟨r1,r2,r3⟩:=bM9 hR e5 e6 e7 hal z1 z2 mA mA hSf hS hnd.1 (λj hj=>(mh hok hj).1) e2 e4 (λk hk hn=>by
   rw[mz hk,mz hk,Nat.zero_add,kv hn];cases mG k mov with
   |true=>
    refine .inl ⟨rfl,λh=> ?_⟩;cases hz:(bu c.S k).frozen with
    |true=>rfl
    |false=>rw[hz]at h;exact(h rfl).elim
   |false=>exact .inr ⟨rfl,rfl⟩) (λk hk hn hdm=>(e8 k hk hn (by rw[e2,na (by rw[p2];exact hk),p3 k hn];exact hdm)).2)
  exact⟨⟨ct.Z,S2++bs,ct.Y,ct.fb⟩,e1,rfl,r1,r2,r3⟩
end
section
open List renaming mem_cons_of_mem -> aB, mem_cons_self -> aD
open Nat renaming eq_of_beq_eq_true -> bB
def cQ3 (l:List Alt)(s:vk l):Option (Σ a:Alt,a.Ty):=cQ2 l s λa u=>C ⟨a,u⟩
theorem bY7 {β:Type}: ∀(l:List Alt) (s:vk l) (k:(a:Alt)->a.Ty->Option β),cQ2 l s k=(cQ3 l s).bind λp=>k p.1 p.2
 |[],_,_=>rfl
 |[a],t,k=>rfl
 |a::b::r, .inl t,k=>rfl
 |a::b::r, .inr s,k=>bY7 (b::r) s k
def FSum.spec (F:FSum):Ab.aX6:=λargs Y K=> ∃(c:Ctx) (vals:List VV) (st:DSt) (t:Tup F.ins.shs) (o:vk F.outs) (p:Σ a:Alt,a.Ty) (v:VV) (fs bs:List Blk) (S':bz),
 c.Y=Y/\ga c/\F2 (VRel c) vals args/\nW c.S 0 [] F.ins vals=C st/\ofL F.ins.shs st.ls=C t/\bL3 st.m=Za/\bk0 c.S (kF F.objs st.m)=Za/\F.run t=C o/\cQ3 F.outs o=C p/\
 pj (vM st.m F.objs.length c.S.length) p.1.sk (toL p.1.sk.shs p.2)=C ([v],fs,bs)/\vy (kF F.objs st.m) fs (cond (ao8 [v] fs bs) (ap0 st.lent c.S) c.S)=C S'/\
 ∀r Y',(∃ct:Ctx,ct.Y=Y'/\ct.S=S'++bs/\Le c ct/\ga ct/\VRel ct v r/\uG (kF F.objs st.m) c ct)->K r Y'
theorem FSum.mono (F:FSum):bc9 F.spec:=by
 rintro args Y K K' hk ⟨c,vals,st,t,o,p,v,fs,bs,S',h1,h2,h3,h4,h5,h6,h7,h8,h9,h10,h11,h12⟩;exact⟨c,vals,st,t,o,p,v,fs,bs,S',h1,h2,h3,h4,h5,h6,h7,h8,h9,h10,h11,λr Y' h=>hk r Y' (h12 r Y' h)⟩
def Inl.spec (I:Inl):Ab.aX6:=λargs Y K=> ∃(β:Type) (y:β) (c:Ctx) (vals:List VV) (k:VV->bz->Option β),c.Y=Y/\ga c/\F2 (VRel c) vals args/\I.run β vals c.S k=C y/\∀r Y',kg c (br5 c.S.length) k y r Y'->K r Y'
theorem Inl.mono (I:Inl):bc9 I.spec:=by
 rintro args Y K K' hk ⟨β,y,c,vals,k,h1,h2,h3,h4,h5⟩;exact⟨β,y,c,vals,k,h1,h2,h3,h4,λr Y' h=>hk r Y' (h5 r Y' h)⟩
def iu (tab:Tab):Ab.gz:=λf args Y K=>(∃F,F∈tab.fs/\F.f=f/\F.spec args Y K)∨∃I,I∈tab.is/\I.f=f/\I.spec args Y K
theorem cy (tab:Tab):rO (iu tab):=by
 rintro f args Y K K' hk (⟨F,h1,h2,h3⟩|⟨F,h1,h2,h3⟩)
 .exact .inl ⟨F,h1,h2,F.mono args Y K K' hk h3⟩
 .exact .inr ⟨F,h1,h2,F.mono args Y K K' hk h3⟩
def wv (P:Program)(F:FSum):Prop:=Sim P F.f F.spec
def ct9 (P:Program)(I:Inl):Prop:=Sim P I.f I.spec
def jW (P:Program)(tab:List FSum):Prop:= ∀F,F∈tab->wv P F
def br (P:Program)(is:List Inl):Prop:= ∀I,I∈is->ct9 P I
theorem br.nil (P:Program):br P []:=λF h=>by cases h
theorem br.cons {P:Program}{F:Inl}{tab:List Inl}(h:ct9 P F)(ht:br P tab):br P (F::tab):=λG hG=>by
 rcases List.mem_cons.1 hG with rfl|hG
 .exact h
 .exact ht G hG
theorem jW.nil (P:Program):jW P []:=λF h=>by cases h
theorem jW.cons {P:Program}{F:FSum}{tab:List FSum}(h:wv P F)(ht:jW P tab):jW P (F::tab):=λG hG=>by
 rcases List.mem_cons.1 hG with rfl|hG
 .exact h
 .exact ht G hG
theorem jW.app {P:Program}{a b:List FSum}(h:jW P a)(k:jW P b):jW P (a++b):=λG hG=>by
 rcases List.mem_append.1 hG with hG|hG
 .exact h G hG
 .exact k G hG
theorem aA8 {P:Program}{tab:Tab}(h:jW P tab.fs)(h':br P tab.is)(f:FuncId):Sim P f (iu tab f):=by
 rintro B Z Y w args cargs K (⟨F,h1,h2,h3⟩|⟨F,h1,h2,h3⟩) hR ha
 .subst h2;exact h F h1 B Z Y w args cargs K h3 hR ha
 .subst h2;exact h' F h1 B Z Y w args cargs K h3 hR ha
theorem ck1 {β:Type}{c:Ctx}{k:VV->bz->Option β}{y:β}{f:Nat}{args:List VV}{as:List Value}(hR:ga c)(hf:F2 (VRel c) args as): ∀{tab:List FSum},bs8 tab f args c.S k=C y->(λf args Y K=> ∃F,F∈tab/\F.f=f/\F.spec args Y K:Ab.gz) f as c.Y (kg c (uc tab f args c.S) k y)
 |[],h=>by cases h
 |F::r,h=>by
  have next:bs8 r f args c.S k=C y->uc (F::r) f args c.S=uc r f args c.S->(λf args Y K=> ∃G,G∈F::r/\G.f=f/\G.spec args Y K:Ab.gz) f as c.Y (kg c (uc (F::r) f args c.S) k y):=by
   intro h1 h2;obtain⟨G,h3,h4,h5⟩:=ck1 hR hf h1;rw[h2];exact⟨G,aB _ h3,h4,h5⟩
  simp only[bs8]at h;cases hb:Nat.beq F.f f with
  |false=>
   rw[hb,zD]at h;exact next h (by simp only[uc,hb,zD])
  |true=>
   rw[hb,zC]at h;cases hd:nW (ay6 F.vals args c.S) 0 [] F.ins args with
   |none=>
    rw[hd]at h;exact next h (by simp only[uc,hb,zC,hd])
   |some st=>
    rw[hd]at h;simp only at h;cases ht:ofL F.ins.shs st.ls with
    |none=>
     rw[ht]at h;exact next h (by simp only[uc,hb,zC,hd,ht])
    |some t=>
     rw[ht]at h;simp only at h;obtain⟨h1,h2⟩:=ce h;rw[Bool.and_eq_true]at h1;have hdirty:uc (F::r) f args c.S=kF F.objs st.m:=by simp only[uc,hb,zC,hd,ht]
     rw[hdirty];unfold dn7 at h2;obtain⟨o,h3,h4⟩:=bx h2;rw[bY7]at h4;obtain⟨p,h5,h6⟩:=bx h4;have hfz:=bu3 F.vals args c.S;split at h6
     .rename_i v fs bs he;split at h6
      .rename_i S' hS;refine⟨F,aD,bB hb,⟨c.Z,ay6 F.vals args c.S,c.Y,c.fb⟩,args,st,t,o,p,v,fs,bs,S',rfl,hfz.rel hR,VRel.frames hfz.le hf,hd,ht,h1.1,h1.2,h3,h5,he,hS, ?_⟩;rintro rv Y' ⟨ct,e1,e2,e3,e4,e5,e6⟩;exact⟨v,ct,e1,hfz.le.trans e3,e4,(hfz.calm _).trans e6 hfz.le,e5,by rw[e2];exact h6⟩
      .cases h6
     .cases h6
theorem ck2 {β:Type}{c:Ctx}{k:VV->bz->Option β}{y:β}{f:Nat}{args:List VV}{as:List Value}(hR:ga c)(hf:F2 (VRel c) args as): ∀{is:List Inl},cC4 is f args c.S k=C y->∃I,I∈is/\I.f=f/\I.spec as c.Y (kg c (br5 c.S.length) k y)
 |[],h=>by cases h
 |I::r,h=>by
  simp only[cC4]at h;cases hb:Nat.beq I.f f with
  |false=>
   rw[hb,zD]at h;obtain⟨J,h1,h2,h3⟩:=ck2 hR hf h;exact⟨J,aB _ h1,h2,h3⟩
  |true=>
   rw[hb,zC]at h;exact⟨I,aD,bB hb,β,y,c,args,k,rfl,hR,hf,h,λr Y' h=>h⟩
theorem ck3 {β:Type}{c:Ctx}{k:VV->bz->Option β}{y:β}{f:Nat}{args:List VV}{as:List Value}(hR:ga c)(hf:F2 (VRel c) args as){tab:Tab}(h:cC5 tab f args c.S k=C y):iu tab f as c.Y (kg c (bZ7 tab f args c.S) k y):=by
 unfold cC5 at h;unfold bZ7;cases hb:de1 tab.is f with
 |false=>
  rw[hb,zD]at h;rw[zD];exact .inl (ck1 hR hf h)
 |true=>
  rw[hb,zC]at h;rw[zC];exact .inr (ck2 hR hf h)
theorem aS6 {β:Type}{tab:Tab}{c:Ctx}{e:eo}{ea:dn}{k:VV->bz->Option β}{y:β}(hR:ga c)(he:cf c e ea){op:AOp}(h:bt8 tab op e c.S k=C y):cz (iu tab) op ea c.Y (kg c (aS5 tab op e c.S) k y):=by
 cases op<;>simp only[bt8]at h
 case move x=>exact df8 hR he h
 case pick t a b=>
  split at h
  .rename_i p hp;exact dh6 hR he hp h
  .cases h
 case alloc es z=>exact cQ1 hR h
 case box es x=>exact dq7 hR he h
 case build z ps=>
  split at h
  .rename_i cs hc;exact cR1 hR he hc h
  .cases h
 case buildSlice es ln z ps=>
  split at h
  .rename_i cs hc;exact bH2 hR he hc h
  .cases h
 case load x=>exact df0 hR he h
 case loadN n x=>exact cU2 hR he h
 case store n a x=>exact cZ4 hR he (λq hq=>bt4 _ hq) h
 case nilCheck x=>exact cn0 hR he h
 case bin op x z=>exact dq6 hR he h
 case eqv kd neg x z=>
  split at h
  .rename_i p hp;exact dq9 hR he hp h
  .cases h
 case eqCells neg ks x z=>
  split at h
  .rename_i a b h1 h2;split at h
   .rename_i p hp;exact cv7 hR he h1 h2 hp h
   .cases h
  .cases h
 case un op x=>exact dC5 hR he h
 case conv kd x=>
  split at h
  .rename_i n hn;exact dc1 hR he hn h
  .cases h
 case mkFunc f a b=>exact cK7 hR he h
 case makeSlice es bytes z l m=>exact df6 hR he h
 case slice es x lo hi=>exact cZ1 hR he h
 case sliceArr es n x lo hi=>exact cq8 hR he h
 case off n x=>exact dt3 hR he h
 case idx es x i=>exact dr6 hR he h
 case idxA ln es x i=>exact de3 hR he h
 case fieldV o n agg x=>
  split at h
  .rename_i cs hc;exact cJ2 hR he hc h
  .cases h
 case indexV ln es agg x i=>
  split at h
  .rename_i cs kd i h1 h2;exact cK0 hR he h1 h2 h
  .cases h
 case indexS x i=>
  split at h
  .rename_i l kd i h1 h2;exact cJ9 hR he h1 h2 h
  .cases h
 case extract x i=>
  split at h
  .rename_i vs hc;exact cv9 hR he hc h
  .cases h
 case call f xs=>exact ck3 hR (bl3 he xs) h
 case callv x xs=>
  have hx:=da he x;split at h
  .rename_i f a b hv;rw[hv]at hx
   have: ∃a' b',ea.ev x= .func (.func f) a' b'/\F2 (VRel c) a a'.toList/\F2 (VRel c) b b'.toList:=by
    generalize ea.ev x=xa at hx;cases hx;exact⟨_,_,rfl,by assumption,by assumption⟩
   obtain⟨a',b',h1,h2,h3⟩:=this;have:=ck3 hR ((h2.append (bl3 he xs)).append h3) h;simp only[cz,h1,aS5,hv];exact this
  .cases h
 case append es bytes s x=>exact cu0 hR he (λq hq=>bt4 _ hq) h λh=>cH6 hR he (λq hq=>bt4 _ hq) h
 case stuck=>cases h
 case capN x=>
  split at h
  .rename_i hx;exact db8 hR he hx h
  .cases h
 case sliceX x hi mx=>exact cM9 hR he h
 case appendZ es bytes z s x=>exact cu1 hR he (λq hq=>bt4 _ hq) h
 case copy es s x=>exact dc2 hR he (λq hq=>bt4 _ hq) h
 case len x=>
  split at h
  .cases h
  .rename_i hns;split at h
   .rename_i n hn;exact ds7 hR he hns hn h
   .cases h
 case lenC n=>exact dj rfl (kg.same hR (.int _ _) h)
 case most x z=>
  split at h
  .rename_i kd a kd' b h1 h2;exact df7 hR he h1 h2 h
  .cases h
 case least x z=>
  split at h
  .rename_i kd a kd' b h1 h2;exact cT7 hR he h1 h2 h
  .cases h
end
section
open Bool renaming and_eq_true -> aD, or_eq_true -> cD
open List renaming mem_cons_of_mem -> cB, map_congr_left -> eD
open Nat renaming beq -> aB, eq_of_beq_eq_true -> bB, lt_of_lt_of_le -> bD, beq_refl -> dB, le_of_ble_eq_true -> dD, le_refl -> eB
def rP {β:Type}(c:Ctx)(k:eo->bz->Option β)(y:β):dn->Hp->Prop:=λea Y'=> ∃e' c',c'.Y=Y'/\Le c c'/\ga c'/\cf c' e' ea/\k e' c'.S=C y
theorem rP.of {β:Type}{c c1:Ctx}{k:eo->bz->Option β}{y:β}(h:Le c c1){ea:dn}{Y':Hp}(hp:rP c1 k y ea Y'):rP c k y ea Y':=by
 obtain⟨e',c',h1,h2,h3⟩:=hp;exact⟨e',c',h1,h.trans h2,h3⟩
def rY {β:Type}(c:Ctx)(k:AExit->eo->bz->Option β)(y:β):AExit->dn->Hp->Prop:=λx=>rP c (k x) y
section
variable {β:Type} {tab:Tab} {y:β}
theorem bt9 : ∀{ops:List AOper} {c:Ctx} {e:eo} {ea:dn} {k:eo->bz->Option β},ga c->cf c e ea->ay2 tab ops e c.S k=C y->Ab.yI (iu tab) (rP c k y) ops ea c.Y
 |[],c,e,ea,k,hR,he,h=>⟨e,c,rfl,Le.refl c,hR,he,h⟩
 |o::r,c,e,ea,k,hR,he,h=>by
  have step: ∀e1,cf c e1 ea->bt8 tab o.op e1 c.S (λv S'=>ay2 tab r (putO e1 o.dst v) S' k)=C y->cz (iu tab) o.op ea c.Y λv Y'=>Ab.yI (iu tab) (rP c k y) r (ea.putO o.dst v) Y':=by
   intro e1 he1 h1;refine nM (cy tab) (λv Y' hv=> ?_) (aS6 hR he1 h1);obtain⟨vv,c',h2,h3,h4,_,h6,h7⟩:=hv;subst h2;exact Ab.ao0 (cy tab) (λea' Y'' hp=>hp.of h3) _ _ _ (bt9 h4 ((he1.frame h3).putO h6) h7)
  have skip: ∀e1,cf c e1 ea->ay2 tab r (putO e1 o.dst (.tup [])) c.S k=C y->Ab.yI (iu tab) (rP c k y) r (ea.putO o.dst undef) c.Y:=λe1 he1 h1=>bt9 hR (he1.putO (.tup .nil)) h1
  simp only[ay2]at h;simp only[Ab.yI];split at h
  .rename_i hg;have:wanted o ea=Za:=by simp only[wanted,hg]
   rw[zE this];exact step e he h
  .rename_i t w hg;split at h
   .rename_i p hp;have ht:=he t;rw[hp]at ht;have ht:=ht.bool_inv;have hw:wanted o ea=(p==w):=by simp only[wanted,hg,ht]
    have hput:cf c (pT e t (.bool p)) ea:=by
     have:=he.put (d:=t) (VRel.bool (c:=c) p);intro i;have h1:=this i;unfold dn.put at h1;by_cases hi:i=t
     .rw[zE hi]at h1;subst hi;rw[ht];exact h1
     .rw[zF hi]at h1;exact h1
    rw[hw];cases p<;>cases w<;>simp only[zC,zD]at h
    .rw[zE (by decide)];exact step _ hput h
    .rw[zF (by decide)];exact skip _ hput h
    .rw[zF (by decide)];exact skip _ hput h
    .rw[zE (by decide)];exact step _ hput h
   .rename_i hp;have ht:=he t;rw[hp]at ht
    have hw:wanted o ea=Zb:=by
     simp only[wanted,hg];generalize ea t=u at ht;cases ht;rfl
    rw[hw,zF (by decide)];exact skip _ he h
   .cases h
def cP8 :Value->Option Nat
 | .pointer (C a)=>C a.block
 | .slice (C a) _ _=>C a.block
 |_=>O
def as7 :AOp->Operand
 | .load x| .loadN _ x| .sliceArr _ _ x _ _| .slice _ x _ _=>x
 |_=> .global 0
theorem bv3 {op:AOp}{ea:dn}{Y Y1 Y':Hp}{v:Value}(hl:op.isLoad=Za)(h:op.run ea Y=C (v,Y1))(hd: ∀b,cP8 (ea.ev (as7 op))=C b->Y'.m b=Y.m b):op.run ea Y'=C (v,Y'):=by
 cases op<;>try(cases hl;done)
 case load x=>
  simp only[AOp.run,as7]at h hd⊢;split at h
  .rename_i b o hx;rw[hx]at hd;rw[hd b rfl];split at h
   .rename_i blk hb;cases hc:blk.cells[o]? with
    |none=>rw[hc]at h;cases h
    |some u=>
     rw[hc]at h;injection h with h
     injection h with h1 h2
     subst h1;rfl
   .cases h
  .cases h
 case loadN n x=>
  simp only[AOp.run,as7]at h hd⊢;split at h
  .rename_i b o hx;rw[hx]at hd;rw[hd b rfl];split at h
   .rename_i blk hb;cases hc:pm blk o n with
    |none=>rw[hc]at h;cases h
    |some u=>
     rw[hc]at h;injection h with h
     injection h with h1 h2
     subst h1;rfl
   .cases h
  .cases h
 case slice es x lo hi=>
  cases lo with
  |none=>cases hl
  |some l=>
   simp only[AOp.run,as7]at h hd⊢;split at h
   .rename_i a ln cap hx;rw[hx]at hd
    have hm:ac1 Y' es a (C l)=ac1 Y es a (C l):=by
     cases a with
     |none=>rfl
     |some a=>simp only[ac1];rw[hd a.block rfl]
    rw[hm];cases hc:(cap==0||ac1 Y es a (C l))with
    |false=>rw[hc]at h;simp at h
    |true=>
     rw[hc,zE rfl]at h;rw[zE rfl];split at h
     .split at h
      .injection h with h
       injection h with h1 h2
       subst h1;rfl
      .cases h
     .cases h
   .cases h
 case sliceArr es n x lo hi=>
  simp only[AOp.run,as7]at h hd⊢;split at h
  .rename_i b o hx;rw[hx]at hd;rw[hd b rfl];split at h
   .rename_i blk hb;split at h
    .rename_i hc;rw[zE hc];split at h
     .split at h
      .split at h
       .rename_i hlt;injection h with h
        injection h with h1 h2
        subst h1;rw[zE hlt]
       .cases h
      .cases h
     .cases h
    .cases h
   .cases h
  .cases h
theorem cU3 {op:AOp}{ea:dn}{Y Y1:Hp}{v:Value}{q:Option Addr}(hl:op.isLoad=Za)(hx:ea.ev (as7 op)= .slice q 0 0)(h:op.run ea Y=C (v,Y1))(Y':Hp):op.run ea Y'=C (v,Y'):=by
 cases op<;>try(cases hl;done)
 case load x=>
  simp only[as7]at hx;simp only[AOp.run,hx]at h;cases h
 case loadN n x=>
  simp only[as7]at hx;simp only[AOp.run,hx]at h;cases h
 case slice es x lo hi=>
  simp only[as7]at hx;simp only[AOp.run,hx,beq_self_eq_true,Bool.true_or,if_true]at h⊢;split at h
  .split at h
   .injection h with h
    injection h with h1 h2
    subst h1;rfl
   .cases h
  .cases h
 case sliceArr es n x lo hi=>
  simp only[as7]at hx;simp only[AOp.run,hx]at h;cases h
def aK3 (c:Ctx)(p:Hp->Prop):Option (Option Nat)->Prop
 |none=>True
 |some O=>p c.Y/\∀Y',(∀b y,c.Y.m b=C y->¬c.mut b->Y'.m b=C y)->p Y'
 |some (C q)=>(bu c.S q).dim≠O/\p c.Y/\∀Y',(∀b,c.Z q=C b->Y'.m b=c.Y.m b)->p Y'
inductive ChkRel (c:Ctx):List (Nat×(Hp->Prop))->Chk->Prop where
 |nil:ChkRel c [] []
 |cons {i:Nat} {p:Hp->Prop} {s:Option (Option Nat)} {l:List (Nat×(Hp->Prop))} {m:Chk}:aK3 c p s->ChkRel c l m->ChkRel c ((i,p)::l) ((i,s)::m)
theorem aK3.now {c:Ctx}{p:Hp->Prop}{s:Option Nat}(h:aK3 c p (C s)):p c.Y:=by
 cases s with
 |none=>exact h.1
 |some q=>exact h.2.1
theorem aK3.next {c c':Ctx}{p:Hp->Prop}{d:List Nat}(hl:Le c c')(hc:uG d c c'): ∀{s:Option (Option Nat)},aK3 c p s->aK3 c' p (match s with
  |some (C q)=>cond (mG q d) O (C (C q))
  |s=>s)
 |none,_=>trivial
 |some O,h=>by
  refine⟨h.2 _ λb y hy hn=>(hl.rd b y hy hn).1,λY' hY=>h.2 Y' λb y hy hn=> ?_⟩;obtain⟨h1,h2⟩:=hl.rd b y hy hn;exact hY b y h1 h2
 |some (C q),h=>by
  cases hm:mG q d with
  |true=>
   show aK3 c' p (cond (mG q d) O (C (C q)));rw[hm];exact trivial
  |false=>
   show aK3 c' p (cond (mG q d) O (C (C q)));rw[hm];obtain⟨h1,h2,h3⟩:=h;have hq:q∉d:=λe=>by rw[ly.2 e]at hm;cases hm
   obtain⟨h4,h5⟩:=hc q (mJ h1) hq h1
   have hmu:c'.Z q=c.Z q:=by
    cases hdd:(bu c'.S q).dim with
    |none=>exact(h4 hdd).elim
    |some dd=>exact(hl.al q dd (mJ h1) hdd).2
   exact⟨h4,h3 _ h5,λY' hY=>h3 Y' λb hb=>by rw[hY b (by rw[hmu];exact hb),h5 b hb]⟩
theorem ChkRel.next {c c':Ctx}{d:List Nat}(hl:Le c c')(hc:uG d c c'): ∀{l:List (Nat×(Hp->Prop))} {m:Chk},ChkRel c l m->ChkRel c' l (bk8 d m)
 |_,_, .nil=> .nil
 |_,_, .cons (s:=s) h1 h2=>by
  have h3:=h1.next hl hc
  have h4:=ChkRel.next hl hc h2
  cases s with
  |none=>exact .cons h3 h4
  |some s=>
   cases s with
   |none=>exact .cons h3 h4
   |some q=>exact .cons h3 h4
theorem yH : ∀m:Chk,bk8 [] m=m
 |[]=>rfl
 |(i,O)::r=>by simp only[bk8,yH r]
 |(i,C O)::r=>by simp only[bk8,yH r]
 |(i,C (C q))::r=>by simp only[bk8,yH r,mG,zD]
theorem aM7 {c:Ctx}{is:List Nat}: ∀{l:List (Nat×(Hp->Prop))} {m:Chk},ChkRel c l m->mj is m=Za->xu is c.Y l
 |_,_, .nil,_=>trivial
 |_,_, .cons (i:=i) (s:=s) h1 h2,h=>by
  simp only[mj]at h;simp only[xu]
  have hc:is.contains i=mG i is:=by
   cases hm:mG i is with
   |true=>simpa using ly.1 hm
   |false=>
    cases hh:is.contains i with
    |false=>rfl
    |true=>
     have:i∈is:=by simpa using hh
     rw[ly.2 this]at hm;cases hm
  rw[hc];cases hm:mG i is with
  |false=>
   rw[hm,zD]at h;rw[zF (by decide)];exact aM7 h2 h
  |true=>
   rw[hm,zC]at h;rw[zE rfl];cases s with
   |none=>cases h
   |some s=>exact⟨h1.now,aM7 h2 h⟩
theorem bI9 {c:Ctx}{e:eo}{ea:dn}{op:AOp}{v:Value}{Y1:Hp}(hR:ga c)(he:cf c e ea)(hl:op.isLoad=Za)(h:op.run ea c.Y=C (v,Y1)):aK3 c (λY'=>op.run ea Y'=C (v,Y')) (db4 c.S op e):=by
 have hx:=da he (as7 op);have hself:op.run ea c.Y=C (v,c.Y):=bv3 hl h λ_ _=>rfl
 have key:aK3 c (λY'=>op.run ea Y'=C (v,Y')) (cQ6 c.S (ev e (as7 op))):=by
  generalize ev e (as7 op)=xv at*
  have blkcase: ∀q,yl xv=C q->(∀b,cP8 (ea.ev (as7 op))=C b->(bu c.S q).dim≠O->c.Z q=C b)->aK3 c (λY'=>op.run ea Y'=C (v,Y')) (cond (bu c.S q).live (C (C q)) O):=by
   intro q hq hb;cases hlv:(bu c.S q).live with
   |false=>trivial
   |true=>
    obtain⟨dm,hdm⟩:=tD hlv;exact⟨by rw[hdm];simp,hself,λY' hY=>bv3 hl h λb hbb=>hY b (hb b hbb (by rw[hdm];simp))⟩
  have novalue:(∀b,cP8 (ea.ev (as7 op))=C b->∃y,c.Y.m b=C y/\¬c.mut b)->aK3 c (λY'=>op.run ea Y'=C (v,Y')) (C O):=by
   intro hb;refine⟨hself,λY' hY=>bv3 hl h λb hbb=> ?_⟩;obtain⟨y,h1,h2⟩:=hb b hbb;rw[hY b y h1 h2,h1]
  cases xv<;>simp only[cQ6,yl]<;>try exact trivial
  case ptr q o=>
   refine blkcase q rfl λb hb hdm=> ?_
   cases hx with
   |ptr hk ho hd=>
    cases hdd:(bu c.S q).dim with
    |none=>exact(hdm hdd).elim
    |some d=>
     obtain⟨b',h1,h2⟩:=hd d hdd;rw[h2]at hb;injection hb with hb
     subst hb;exact h1
  case it q l=>
   refine blkcase q rfl λb hb hdm=> ?_
   obtain⟨s,_,hd⟩:=hx.it_inv;cases hdd:(bu c.S q).dim with
   |none=>exact(hdm hdd).elim
   |some d=>
    obtain⟨b',h1,h2⟩:=hd d hdd;rw[h2]at hb;cases hb
  case bld q=>
   refine blkcase q rfl λb hb hdm=> ?_
   cases hx with
   |bld _ _ hd=>
   cases hdd:(bu c.S q).dim with
   |none=>exact(hdm hdd).elim
   |some d=>
    obtain⟨b',h1,h2⟩:=hd d hdd;rw[h2]at hb;cases hb
  case pix q o n i=>
   refine blkcase q rfl λb hb hdm=> ?_
   cases hx with
   |pix hk ho hi hd=>
    cases hdd:(bu c.S q).dim with
    |none=>exact(hdm hdd).elim
    |some d=>
     obtain⟨b',h1,h2⟩:=hd d hdd;rw[h2]at hb;injection hb with hb
     subst hb;exact h1
  case pel q i o=>
   refine blkcase q rfl λb hb hdm=> ?_
   cases hx with
   |pel hk ho hd=>
    cases hdd:(bu c.S q).dim with
    |none=>exact(hdm hdd).elim
    |some d=>
     obtain⟨b',h1,h2⟩:=hd d hdd;rw[h2]at hb;injection hb with hb
     subst hb;exact h1
  case full q=>
   refine blkcase q rfl λb hb hdm=> ?_
   cases hx with
   |full hk ho hd=>
    cases hdd:(bu c.S q).dim with
    |none=>exact(hdm hdd).elim
    |some d=>
     obtain⟨n,_,h2⟩:=hd d hdd;rcases h2 with⟨h2,_⟩|⟨b',cp,yb,h2,h3,_⟩
     .rw[h2]at hb;cases hb
     .rw[h2]at hb;injection hb with hb
      subst hb;exact h3
  case part q lo n=>
   refine blkcase q rfl λb hb hdm=> ?_
   cases hx with
   |part hk ho hd=>
    cases hdd:(bu c.S q).dim with
    |none=>exact(hdm hdd).elim
    |some d=>
     rcases hd d hdd with⟨h2,_⟩|⟨b',cp,yb,h2,h3,_⟩
     .rw[h2]at hb;cases hb
     .rw[h2]at hb;injection hb with hb
      subst hb;exact h3
  case pin s x o=>
   refine novalue λb hb=> ?_
   generalize ea.ev (as7 op)=xa at*;cases hx with
   |pin hn hy hl hf=>
    injection hb with hb
    subst hb;exact⟨_,hy,hn⟩
  case lst s l=>
   generalize hxa:ea.ev (as7 op)=xa at*;cases hx with
   |lstn hq=>
    refine⟨hself,λY' hY=> ?_⟩;have:=cU3 hl hxa h;exact this Y'
   |lst hn hy _ _ _ _ _=>
    refine novalue λb hb=> ?_
    injection hb with hb
    subst hb;exact⟨_,hy,hn⟩
  case nils=>
   refine novalue λb hb=> ?_
   generalize ea.ev (as7 op)=xa at*;cases hx;cases hb
 cases op<;>first|(cases hl;done)|exact key
theorem aA1 {T:Ab.gz}{op:AOp}{e:dn}{Y:Hp}(hs:op.still=Za){k:Value->Hp->Prop}:(match op.run e Y with
  |some (v,Y')=>k v Y'
  |none=>False)=cz T op e Y k:=by
 cases op<;>first|(cases hs;done)|rfl
theorem cJ1 {it:SItem}{c:Ctx}{e:eo}{ea:dn}{chk:Chk}{ach:List (Nat×(Hp->Prop))}{k:Chk->eo->bz->Option β}(hR:ga c)(he:cf c e ea)(hc:ChkRel c ach chk)(h:aY5 tab it chk e c.S k=C y){Q:List (Nat×(Hp->Prop))->dn->Hp->Prop}
  (hQ: ∀c' ach' chk' e' ea',Le c c'->ga c'->ChkRel c' ach' chk'->cf c' e' ea'->k chk' e' c'.S=C y->Q ach' ea' c'.Y):
  if it.mover then cz (iu tab) it.o.op ea c.Y (λv Y'=>xu it.chks Y' ach/\Q ach (ea.putO it.o.dst v) Y')
  else match it.o.op.run ea c.Y with
   |some (v,_)=>Q (if it.keep then(it.idx,λY'=>it.o.op.run ea Y'=C (v,Y'))::ach else ach) (ea.putO it.o.dst v) c.Y
   |none=>False:=by
 unfold aY5 at h;cases hm:it.mover with
 |true=>
  rw[hm,zC]at h;rw[zE rfl];obtain⟨h1,h2⟩:=ce h;refine nM (cy tab) (λv Y' hv=> ?_) (aS6 hR he h2);obtain⟨vv,c',h3,h4,h5,h6,h7,h8⟩:=hv;subst h3;have hn:=hc.next h4 h6
  exact⟨aM7 hn h1,hQ c' ach _ _ _ h4 h5 hn ((he.frame h4).putO h7) h8⟩
 |false=>
  rw[hm,zD]at h;rw[zF (by decide)];obtain⟨h1,h2⟩:=ce h;rw[aD]at h1;have h3:=aS6 hR he h2;rw[<-aA1 h1.1]at h3;cases hr:it.o.op.run ea c.Y with
  |none=>rw[hr]at h3;exact h3
  |some p=>
   obtain⟨v,Y1⟩:=p;rw[hr]at h3;obtain⟨vv,c',h4,h5,h6,h7,h8,h9⟩:=h3;simp only
   have hd:aS5 tab it.o.op e c.S=[]:=by
    have:=h1.1;cases hop:it.o.op<;>rw[hop]at this<;>first|(cases this;done)|rfl
   have hn:=hc.next h5 h7
   rw[hd,yH]at hn;have hY1:Y1=c.Y:=aN5 h1.1 hr;rw[<-hY1,<-h4];cases hk:it.keep with
   |false=>
    rw[hk,zD]at h9;rw[zF (by decide)];exact hQ c' ach chk _ _ h5 h6 hn ((he.frame h5).putO h8) h9
   |true=>
    rw[hk,zC]at h9;rw[zE rfl];have hld:it.o.op.isLoad=Za:=by have:=h1.2;rw[hk]at this;simpa using this
    have hkp:=bI9 hR he hld hr;have hn2:=(ChkRel.cons (i:=it.idx) hkp hc).next h5 h7
    rw[hd,yH]at hn2;exact hQ c' _ _ _ _ h5 h6 hn2 ((he.frame h5).putO h8) h9
end
structure LeV (c c':Ctx):Prop where
 len:c.S.length<=c'.S.length
 al: ∀k d,k<c.S.length->(bu c'.S k).dim=C d->(bu c.S k).dim=C d/\c'.Z k=c.Z k
 ln: ∀k d b y,k<c.S.length->(bu c'.S k).dim=C d->c.Z k=C b->c.Y.m b=C y->∃y',c'.Y.m b=C y'/\y'.cells.length=y.cells.length
 rd: ∀b y,c.Y.m b=C y->¬c.mut b->c'.Y.m b=C y/\¬c'.mut b
theorem SlR.frameV {c c':Ctx}(h:LeV c c'){k lo n:Nat}{d:Nat×Nat}{a:Value}(hk:k<c.S.length)(hd:(bu c'.S k).dim=C d)(hs:SlR c k lo n d a):SlR c' k lo n d a:=by
 obtain⟨h1,h2⟩:=h.al k d hk hd;rcases hs with⟨rfl,rfl,rfl,hm,hz⟩|⟨b,cp,y,rfl,hm,h3,h4,hy,h5⟩
 .exact .inl ⟨rfl,rfl,rfl,h2.trans hm,hz⟩
 .obtain⟨y',hy',hl⟩:=h.ln k d b y hk hd hm hy;exact .inr ⟨b,cp,y',rfl,h2.trans hm,h3,h4,hy',by rw[hl];exact h5⟩
theorem VRel.frameV {c c':Ctx}(h:LeV c c'): ∀{v:VV} {a:Value},VRel c v a->VRel c' v a
 |_,_, .undef a=> .undef a
 |_,_, .bool b=> .bool b
 |_,_, .int k n=> .int k n
 |_,_, .str hs=> .str hs
 |_,_, .nilp=> .nilp
 |_,_, .nils=> .nils
 |_,_, .nilf=> .nilf
 |_,_, .ptr hk h1 hd=> .ptr (bD hk h.len) h1 λd hd'=>by
  obtain⟨h1,h2⟩:=h.al _ d hk hd';obtain⟨b,h3,h4⟩:=hd d h1;exact⟨b,h2.trans h3,h4⟩
 |_,_, .it hk h1 hs hd=> .it (bD hk h.len) h1 hs λd hd'=>by
  obtain⟨h1,h2⟩:=h.al _ d hk hd';obtain⟨b,h3,h4⟩:=hd d h1;exact⟨b,h2.trans h3,h4⟩
 |_,_, .bld hk h1 hd=> .bld (bD hk h.len) h1 λd hd'=>by
  obtain⟨h1,h2⟩:=h.al _ d hk hd';obtain⟨b,h3,h4⟩:=hd d h1;exact⟨b,h2.trans h3,h4⟩
 |_,_, .pix hk h1 hi hd=> .pix (bD hk h.len) h1 hi λd hd'=>by
  obtain⟨h1,h2⟩:=h.al _ d hk hd';obtain⟨b,h3,h4⟩:=hd d h1;exact⟨b,h2.trans h3,h4⟩
 |_,_, .pel hk h1 hd=> .pel (bD hk h.len) h1 λd hd'=>by
  obtain⟨h1,h2⟩:=h.al _ d hk hd';obtain⟨b,h3,h4⟩:=hd d h1;exact⟨b,h2.trans h3,h4⟩
 |_,_, .pin hn hy hl hf=> .pin (h.rd _ _ hy hn).2 (h.rd _ _ hy hn).1 hl (go hf)
 |_,_, .lstn hq=> .lstn hq
 |_,_, .tgtn hq=> .tgtn hq
 |_,_, .tgt hn hy he h3 hf=> .tgt (h.rd _ _ hy hn).2 (h.rd _ _ hy hn).1 he h3 (go hf)
 |_,_, .lst hn hy he h1 h2 h3 hf=> .lst (h.rd _ _ hy hn).2 (h.rd _ _ hy hn).1 he h1 h2 h3 (go hf)
 |_,_, .full hk h1 hd=> .full (bD hk h.len) h1 λd hd'=>by
  obtain⟨h1,h2⟩:=h.al _ d hk hd';obtain⟨n,h3,h4⟩:=hd d h1;exact⟨n,h3,h4.frameV h hk hd'⟩
 |_,_, .part hk h1 hd=> .part (bD hk h.len) h1 λd hd'=>by
  obtain⟨h1,h2⟩:=h.al _ d hk hd';exact(hd d h1).frameV h hk hd'
 |_,_, .fn h1 h2=> .fn (go h1) (go h2)
 |_,_, .agg h1=> .agg (go h1)
 |_,_, .tup h1=> .tup (go h1)
where
 go: ∀{l:List VV} {m:List Value},F2 (VRel c) l m->F2 (VRel c') l m
  |_,_, .nil=> .nil
  |_,_, .cons h1 h2=> .cons (VRel.frameV h h1) (go h2)
theorem VRel.framesV {c c':Ctx}(h:LeV c c'){l:List VV}{m:List Value}(hf:F2 (VRel c) l m):F2 (VRel c') l m:=hf.imp λ_ _ hv=>hv.frameV h
theorem cf.frameV {c c':Ctx}{e:eo}{ea:dn}(h:cf c e ea)(hl:LeV c c'):cf c' e ea:=λt=>(h t).frameV hl
def rf (op:AOp)(ea:dn)(x:Ab.Blk)(vf:Nat->Value):Prop:= ∀Y:Hp,op.run ea Y=C (vf Y.n,Y.add x)
theorem rf.unique {op:AOp}{ea:dn}{x x':Ab.Blk}{vf vf':Nat->Value}(h:rf op ea x vf)(h':rf op ea x' vf'):x=x'/\vf=vf':=by
 have key: ∀n,vf n=vf' n/\x=x':=by
  intro n;have h1:=h ⟨λ_=>O,n⟩;rw[h' ⟨λ_=>O,n⟩]at h1;injection h1 with h1
  injection h1 with h1 h2
  refine⟨h1.symm, ?_⟩;have h3:=congrArg (λs:Hp=>s.m n) h2;simp only[Hp.add,if_true]at h3;injection h3 with h3
  exact h3.symm
 exact⟨(key 0).2,funext λn=>(key n).1⟩
theorem ca0 {ea ea':dn}{x:Operand}(h: ∀t∈cn6 x,ea' t=ea t):ea'.ev x=ea.ev x:=by
 cases x with
 |tmp t=>exact h t (by simp[cn6])
 |_=>rfl
theorem rf.same {op:AOp}{ea ea':dn}{x:Ab.Blk}{vf:Nat->Value}(h:rf op ea x vf)(hf:yt op=Za)(he: ∀t∈zU op,ea' t=ea t):rf op ea' x vf:=by
 intro Y;have h1:=h Y;cases op<;>first|(cases hf;done)|skip
 case alloc es z=>exact h1
 case makeSlice es bytes z l m=>
  have e1:ea'.ev l=ea.ev l:=ca0 λt ht=>he t (by simp[zU,ht])
  have e2:ea'.ev m=ea.ev m:=ca0 λt ht=>he t (by simp[zU,ht])
  simp only[AOp.run]at h1⊢;rw[e1,e2];exact h1
 case buildSlice es ln z ps=>
  have e1:(ps.map λ(o,s,x)=>(o,s,ea'.ev x))=ps.map λ(o,s,x)=>(o,s,ea.ev x):=by
   apply eD;rintro⟨o,s,x⟩ hx;simp only;rw[ca0 λt ht=>he t (List.mem_flatMap.2 ⟨_,hx,ht⟩)]
  simp only[AOp.run]at h1⊢;rw[e1];exact h1
theorem by4 {c c':Ctx}: ∀{l:List VV} {m:List Value},l.all cF6=Za->F2 (VRel c) l m->F2 (VRel c') l m
 |_,_,_, .nil=> .nil
 |v::l,_,h, .cons h1 h2=>by
  rw[List.all_cons,aD]at h;refine .cons ?_ (by4 h.2 h2);cases h1<;>first|(cases h.1;done)|skip
  .exact .bool _
  .exact .int _ _
  .exact .str (by assumption)
structure FreshFact (op:AOp)(ea:dn)(blk:Blk)(w:Bool)(x:Ab.Blk)(vf:Nat->Value):Prop where
 run:rf op ea x vf
 fz:blk.frozen=Zb
 dm: ∃dm cs rest,blk.dim=C dm/\1<=dm.1/\x.es=dm.1/\x.own=Za/\x.cells=cs++rest/\∀c':Ctx,F2 (VRel c') blk.vals cs
 vv: ∀(c':Ctx) (k b:Nat),k<c'.S.length->bu c'.S k=blk->c'.Z k=C b->c'.Y.m b=C x->VRel c' (vvF w k) (vf b)
theorem aL6 {β:Type}{c:Ctx}{e:eo}{ea:dn}{op:AOp}{k:Blk->Bool->Option β}{y:β}(he:cf c e ea)(h:am0 op e k=C y):yt op=Za/\∃blk w x vf,k blk w=C y/\FreshFact op ea blk w x vf:=by
 cases op<;>simp only[am0]at h<;>first|(cases h;done)|skip
 case alloc es z=>
  obtain⟨h1,h2⟩:=ce h;have h1:=dD h1;refine⟨rfl,_,_,⟨z,Za,es⟩,λn=> .pointer (C ⟨n,0,O⟩),h2,⟨λY=>rfl,(xk es z).2.1,⟨(es,z.length),z,[],(xk es z).1,h1,rfl,rfl,by simp,λc'=>(xk es z).2.2 c'⟩,λc' k b hk hs hm hy=> ?_⟩⟩;refine .ptr hk rfl λd hd=>⟨b,hm,rfl⟩
 case makeSlice es bytes z l m=>
  have hl:=da he l;have hm:=da he m;split at h
  .rename_i k1 a k2 b s h1 h2 hs;rw[h1]at hl;rw[h2]at hm;obtain⟨hg,hk⟩:=ce h;simp only[aD]at hg;obtain⟨⟨⟨⟨g1,g2⟩,g3⟩,g4⟩,g5⟩:=hg;have g1:=bB g1;have g2:=of_decide_eq_true g2;have g3:=of_decide_eq_true g3;have g4:=of_decide_eq_true g4;have g5:=dD g5;have hz: ∀c':Ctx,F2 (VRel c') (et s (tG s)) z:=λc'=>af6 (c:=c') hs
   have hzl:z.length=s.w:=by rw[<-(hz c).length,fc]
   have hb:b<=bytes*b:=by
    have:(1:Int)*b<=bytes*b:=Int.mul_le_mul_of_nonneg_right (by omega) (by omega);omega
   refine⟨rfl,_,_,⟨fg z b.toNat,Za,es⟩,λn=> .slice (C ⟨n,0,O⟩) a.toNat b.toNat,hk,⟨λY=> ?_,rfl,⟨(s.w,(List.replicate a.toNat (tG s)).length*s.w),fg z a.toNat,fg z (b.toNat-a.toNat),rfl,ng s,g1,rfl, ?_,λc'=> ?_⟩,λc' k q hk hs' hm' hy=> ?_⟩⟩
   .simp only[AOp.run,hl.int_inv,hm.int_inv];rw[zE ⟨g2,g3,by omega,by omega⟩]
   .show fg z b.toNat=_;rw[<-bN0]
    congr 1
    omega
   .show F2 (VRel c') (gu s (List.replicate a.toNat (tG s))) (fg z a.toNat);rw[ri];generalize a.toNat=n;induction n with
    |zero=>exact .nil
    |succ n ih=>
     simp only[fg,List.replicate_succ,List.flatten_cons]at ih⊢;exact(hz c').append ih
   .refine .full hk rfl λd hd=> ?_
    rw[hs']at hd;injection hd with hd
    subst hd;refine⟨a.toNat,by simp, .inr ⟨q,b.toNat,_,by simp,hm',by simp,by omega,hy, ?_⟩⟩;rw[Nat.zero_add];show b.toNat*s.w<=(fg z b.toNat).length;rw[bN1,hzl];exact eB _
  .cases h
 case buildSlice es ln z ps=>
  split at h
  .rename_i cs hf;obtain⟨h1,h2⟩:=ce h;simp only[aD]at h1;obtain⟨⟨⟨⟨g1,g2⟩,g3⟩,g4⟩,g5⟩:=h1;have g2:=bB g2;have g3:=dD g3;obtain⟨ra,h3,h4⟩:=xp he ps hf (bb6 ln z);refine⟨g5,_,_,⟨ra,Za,es⟩,λn=> .slice (C ⟨n,0,O⟩) ln ln,h2,⟨λY=> ?_,rfl,⟨(es,cs.length),ra,[],rfl,g3,rfl,rfl,by simp,λc'=>by4 g4 h4⟩,λc' k q hk hs' hm' hy=> ?_⟩⟩
   .simp only[AOp.run,h3];rw[zE (lj h4 g1)]
   .refine .full hk rfl λd hd=> ?_
    rw[hs']at hd;injection hd with hd
    subst hd;refine⟨ln,g2, .inr ⟨q,ln,_,by simp,hm',by simp[g2],eB _,hy, ?_⟩⟩;rw[Nat.zero_add];show ln*es<=ra.length;rw[<-h4.length];exact Nat.le_of_eq g2
  .cases h
theorem pS {i q:Nat}: ∀{l:List Nat},l.Nodup->(q∈aI8 i l↔q∈l/\q≠i)
 |[],_=>by simp[aI8]
 |a::r,h=>by
  obtain⟨h1,h2⟩:=List.nodup_cons.1 h;simp only[aI8];cases hb:aB a i with
  |true=>
   have:=bB hb;subst this;rw[zC];constructor
   .intro hq;exact⟨cB _ hq,λe=>h1 (e▸hq)⟩
   .rintro⟨hq,hn⟩;rcases List.mem_cons.1 hq with rfl|hq
    .exact(hn rfl).elim
    .exact hq
  |false=>
   have hne:a≠i:=λe=>by subst e;rw[dB]at hb;cases hb
   rw[zD,List.mem_cons,List.mem_cons,pS h2];constructor
   .rintro(rfl|⟨h3,h4⟩)
    .exact⟨.inl rfl,hne⟩
    .exact⟨.inr h3,h4⟩
   .rintro⟨rfl|h3,h4⟩
    .exact .inl rfl
    .exact .inr ⟨h3,h4⟩
theorem be4 {i:Nat}: ∀{l:List Nat},l.Nodup->(aI8 i l).Nodup
 |[],h=>h
 |a::r,h=>by
  obtain⟨h1,h2⟩:=List.nodup_cons.1 h;simp only[aI8];cases hb:aB a i with
  |true=>exact h2
  |false=>
   rw[zD,List.nodup_cons];exact⟨λhq=>h1 ((pS h2).1 hq).1,be4 h2⟩
section
variable {tab:Tab} {ops:List (AOper×List Nat)}
structure InvL (ops:List (AOper×List Nat))(c0 c:Ctx)(e:eo)(ea:dn)(ach:List (Nat×(Hp->Prop)))(chk:Chk)(P ls nd:List Nat)(r:List LItem)(pd:Nat->Nat):Prop where
 le:Le c0 ⟨c.Z,c.S,c.Y,c0.fb⟩
 R:ga c
 E:cf c e ea
 K:ChkRel c ach chk
 ks:ach.map (·.1)=ls
 nd:mj nd chk=Za
 fb: ∀b,c.fb b↔(c0.fb b∨∃q∈P,pd q=b)
 nod:P.Nodup
 inj: ∀q q',q∈P->q'∈P->pd q=pd q'->q=q'
 new: ∀q∈P,c0.Y.n<=pd q
 pend: ∀q∈P,yt (dx ops q).op=Za/\∃x vf,rf (dx ops q).op ea x vf/\c.Y.m (pd q)=C x/\∀t,(dx ops q).dst=C t->ea t=vf (pd q)
 und: ∀it∈r,aB it.kind 2=Za->∀t,(dx ops it.i).dst=C t->mC e t= .undef
 ds:bJ9 ops r=Za
theorem aK3.frameV {c c':Ctx}{p:Hp->Prop}(hR:ga c)(hl:LeV c c')(hS: ∀q,q<c.S.length->bu c'.S q=bu c.S q)(hmu: ∀q,q<c.S.length->c'.Z q=c.Z q)(hY: ∀b y,c.Y.m b=C y->c'.Y.m b=C y): ∀{s:Option (Option Nat)},aK3 c p s->aK3 c' p s
 |none,_=>trivial
 |some O,h=>by
  refine⟨h.2 _ λb y hy _=>hY b y hy,λY' hY'=>h.2 Y' λb y hy hn=> ?_⟩;obtain⟨h1,h2⟩:=hl.rd b y hy hn;exact hY' b y h1 h2
 |some (C q),h=>by
  obtain⟨h1,h2,h3⟩:=h;have hq:=mJ h1
  have hb: ∀b,c.Z q=C b->c'.Y.m b=c.Y.m b:=by
   intro b hb;cases hd:(bu c.S q).dim with
   |none=>exact(h1 hd).elim
   |some d=>
    obtain⟨_,h4⟩:=hR.blk q d hd;rcases h4 with⟨_,h4⟩|⟨b',y,cs,rest,h4,h5,_⟩
    .rw[hb]at h4;cases h4
    .rw[hb]at h4;injection h4 with h4
     subst h4;rw[h5];exact hY _ _ h5
  exact⟨by rw[hS q hq];exact h1,h3 _ hb,λY' hs=>h3 Y' λb hb'=>(hs b (by rw[hmu q hq];exact hb')).trans (hb b hb')⟩
theorem ChkRel.frameV {c c':Ctx}(hR:ga c)(hl:LeV c c')(hS: ∀q,q<c.S.length->bu c'.S q=bu c.S q)(hmu: ∀q,q<c.S.length->c'.Z q=c.Z q)(hY: ∀b y,c.Y.m b=C y->c'.Y.m b=C y): ∀{l:List (Nat×(Hp->Prop))} {m:Chk},ChkRel c l m->ChkRel c' l m
 |_,_, .nil=> .nil
 |_,_, .cons h1 h2=> .cons (h1.frameV hR hl hS hmu hY) (h2.frameV hR hl hS hmu hY)
theorem yv {c:Ctx}{m:Nat}{is:List Nat}: ∀{l:List (Nat×(Hp->Prop))} {chk:Chk},ChkRel c l chk->mj is chk=Za->(∀i∈l.map (·.1),vN ops i m=Za∨mG i is=Za)->ap5 ops m c.Y l
 |_,_, .nil,_,_=>trivial
 |_,_, .cons (i:=i) (s:=s) h1 h2,h,hb=>by
  simp only[mj]at h;simp only[ap5];have hrest:mj is _=Za->ap5 ops m c.Y _:=λh3=>yv h2 h3 λj hj=>hb j (by simp only[List.map_cons];exact cB _ hj)
  cases hbf:vN ops i m with
  |true=>
   rw[zE rfl];cases hm:mG i is with
   |false=>rw[hm,zD]at h;exact hrest h
   |true=>
    rw[hm,zC]at h;cases s with
    |none=>cases h
    |some s=>exact hrest h
  |false=>
   rw[zF (by decide)];rcases hb i (by simp)with h3|h3
   .rw[hbf]at h3;cases h3
   .rw[h3,zC]at h;cases s with
    |none=>cases h
    |some s=>exact⟨h1.now,hrest h⟩
theorem cD6 {β:Type}{c0 c:Ctx}{e:eo}{ea:dn}{ach:List (Nat×(Hp->Prop))}{chk:Chk}{P ls nd:List Nat}{it:LItem}{r:List LItem}{pd:Nat->Nat}{k:eo->bz->Option β}{y:β}(h0:ga c0)
  (hI:InvL ops c0 c e ea ach chk P ls nd (it::r) pd) (hk:aB it.kind 2=Za) (hP:it.i∈P) (h:evL tab ops (it::r) chk e c.S k=C y):
  ∃c' e',c'.Y=c.Y/\InvL ops c0 c' e' ea ach chk (aI8 it.i P) ls nd r pd/\evL tab ops r chk e' c'.S k=C y:=by
 have hk3:aB it.kind 3=Zb:=by rw[bB hk];rfl
 simp only[evL,hk,hk3,zC,zD]at h;obtain⟨hfb,blk,w,x',vf',h1,h2⟩:=aL6 hI.E h;obtain⟨_,x,vf,h3,h4,h5⟩:=hI.pend _ hP;obtain⟨ex,ef⟩:=h2.run.unique h3;subst ex;subst ef;obtain⟨dm,cs,rest,d1,d2,d3,d4,d5,d6⟩:=h2.dm;have hlen:(c.S++[blk]).length=c.S.length+1:=by simp
 have hds:=hI.ds;simp only[bJ9,aD]at hds
 let b:=pd it.i
 let c':Ctx:=⟨λq=>if q=c.S.length then C b else c.Z q,c.S++[blk],c.Y,λq=>c0.fb q∨∃j∈aI8 it.i P,pd j=q⟩
 have hfbb:c.fb b:=(hI.fb b).2 (.inr ⟨it.i,hP,rfl⟩);have hS: ∀q,q<c.S.length->bu c'.S q=bu c.S q:=λq hq=>na hq
 have hmu: ∀q,q<c.S.length->c'.Z q=c.Z q:=λq hq=>zF (Nat.ne_of_lt hq)
 have hnewS:bu c'.S c.S.length=blk:=cq6;have hnewmu:c'.Z c.S.length=C b:=zE rfl
 have hfb': ∀q,c'.fb q->c.fb q:=by
  rintro q (hq|⟨j,hj,rfl⟩)
  .exact(hI.fb q).2 (.inl hq)
  .exact(hI.fb _).2 (.inr ⟨j,((pS hI.nod).1 hj).1,rfl⟩)
 have hbnot: ¬c'.fb b:=by
  rintro(hq|⟨j,hj,hjb⟩)
  .have:=h0.fbl _ hq;have:=hI.new _ hP;omega
  .obtain⟨hj1,hj2⟩:=(pS hI.nod).1 hj;exact hj2 (hI.inj _ _ hj1 hP hjb)
 have hown: ∀q,c'.own q->c.own q∨q=b:=by
  rintro q ⟨j,hj1,hj2⟩;by_cases hj:j<c.S.length
  .rw[hS j hj]at hj1;rw[hmu j hj]at hj2;exact .inl ⟨j,hj1,hj2⟩
  .by_cases hj3:j=c.S.length
   .subst hj3;rw[hnewmu]at hj2;injection hj2 with hj2
    exact .inr hj2.symm
   .rw[vw (by show c'.S.length<=j;rw[hlen];omega)]at hj1;cases hj1
 have hV:LeV c c':=by
  refine⟨by rw[hlen];omega,λq d hq hd=> ?_,λq d b' y' hq hd hm hy=>⟨y',hy,rfl⟩,λb' y' hy hn=>⟨hy,λhm=> ?_⟩⟩
  .rw[hS q hq]at hd;exact⟨hd,hmu q hq⟩
  .rcases hm with hm|hm
   .rcases hown b' hm with hm|hm
    .exact hn (.inl hm)
    .subst hm;exact hn (.inr hfbb)
   .exact hn (.inr (hfb' _ hm))
 have hR':ga c':=by
  refine⟨hI.R.ok,λq q' b' hq hq' hm hm'=> ?_,λq d hd=> ?_,λq b' hd hm=> ?_,λb' hb'=>hI.R.fbl _ (hfb' _ hb')⟩
  .have cases3: ∀j,(bu c'.S j).dim≠O->j<c.S.length∨j=c.S.length:=by
    intro j hj;have:=mJ hj;rw[hlen]at this;omega
   rcases cases3 q (mB hq)with h6|h6
   .rcases cases3 q' hq' with h7|h7
    .rw[hS q h6]at hq;rw[hS q' h7]at hq';rw[hmu q h6]at hm;rw[hmu q' h7]at hm';exact hI.R.inj q q' b' hq hq' hm hm'
    .subst h7;rw[hnewmu]at hm';injection hm' with hm'
     subst hm';rw[hmu q h6]at hm;rw[hS q h6]at hq;exact(hI.R.fbk q _ (mB hq) hm hfbb).elim
   .rcases cases3 q' hq' with h7|h7
    .subst h6;rw[hnewmu]at hm;injection hm with hm
     subst hm;rw[hmu q' h7]at hm';rw[hS q' h7]at hq';exact(hI.R.fbk q' _ hq' hm' hfbb).elim
    .rw[h6,h7]
  .by_cases hq:q<c.S.length
   .rw[hS q hq]at hd⊢;obtain⟨h6,h7⟩:=hI.R.blk q d hd;refine⟨h6, ?_⟩;rcases h7 with⟨h7,h8⟩|⟨b',y',cs',rest',h7,h8,h9,h10,h11,h12⟩
    .exact .inl ⟨h7,by rw[hmu q hq];exact h8⟩
    .exact .inr ⟨b',y',cs',rest',by rw[hmu q hq];exact h7,h8,h9,h10,h11,VRel.framesV hV h12⟩
   .by_cases hq2:q=c.S.length
    .subst hq2;rw[hnewS]at hd⊢;rw[d1]at hd;injection hd with hd
     subst hd;exact⟨d2, .inr ⟨b,x',cs,rest,hnewmu,h4,d3,λ_=>d4,d5,d6 c'⟩⟩
    .rw[vw (by show c'.S.length<=q;rw[hlen];omega)]at hd;cases hd
  .by_cases hq:q<c.S.length
   .rw[hS q hq]at hd;rw[hmu q hq]at hm;exact λhf=>hI.R.fbk q b' hd hm (hfb' _ hf)
   .have:=mJ hd;rw[hlen]at this;have hq2:q=c.S.length:=by omega
    subst hq2;rw[hnewmu]at hm;injection hm with hm
    subst hm;exact hbnot
 have hvv:VRel c' (vvF w c.S.length) (vf' b):=h2.vv c' c.S.length b (by rw[hlen];omega) hnewS hnewmu h4
 have hE':cf c' (putO e (dx ops it.i).dst (vvF w c.S.length)) ea:=by
  have hE:=hI.E.frameV hV;cases hd:(dx ops it.i).dst with
  |none=>exact hE
  |some t=>
   intro t';show VRel c' (mC (pT e t _) t') (ea t');rw[vp];by_cases ht:t'=t
   .subst ht;rw[zE rfl,h5 _ hd];exact hvv
   .rw[zF ht];exact hE t'
 refine⟨c',_,rfl,⟨?_,hR',hE',hI.K.frameV hI.R hV hS hmu (λ_ _ hy=>hy),hI.ks,hI.nd,λq=>Iff.rfl,be4 hI.nod,λq q' hq hq'=>hI.inj q q' ((pS hI.nod).1 hq).1 ((pS hI.nod).1 hq').1,λq hq=>hI.new q ((pS hI.nod).1 hq).1,λq hq=>hI.pend q ((pS hI.nod).1 hq).1, ?_,hds.2⟩,h1⟩
 .have hle:=hI.le;refine⟨Nat.le_trans hle.len (by show c.S.length<=c'.S.length;rw[hlen];omega),λq d hq hd=> ?_,λq hf hd=> ?_,λq d b' y' hq hd hm hy=> ?_,λb' y' hy hn=>hle.un b' y' hy hn,λb' y' hy hn ho=> ?_,hle.n,rfl⟩
  .have hq':q<c.S.length:=bD hq hle.len;have:=hS q hq';rw[show(⟨c'.Z,c'.S,c'.Y,c0.fb⟩:Ctx).S=c'.S from rfl,this]at hd;obtain⟨h6,h7⟩:=hle.al q d hq hd;exact⟨h6,(hmu q hq').trans h7⟩
  .have hq':q<c.S.length:=bD (mJ hd) hle.len;exact(hS q hq').trans (hle.fz q hf hd)
  .have hq':q<c.S.length:=bD hq hle.len;have:=hS q hq';rw[show(⟨c'.Z,c'.S,c'.Y,c0.fb⟩:Ctx).S=c'.S from rfl,this]at hd;exact hle.ln q d b' y' hq hd hm hy
  .have ho':c'.own b':=ho;rcases hown b' ho' with ho2|ho2
   .exact hle.ow b' y' hy hn ho2
   .subst ho2;have:=h0.ok _ _ hy;have:=hI.new _ hP;omega
 .intro it' hit' hk' t ht;have hu:=hI.und it' (cB _ hit') hk' t ht;cases hd:(dx ops it.i).dst with
  |none=>exact hu
  |some t'=>
   show mC (pT e t' _) t=_;rw[vp];by_cases htt:t=t'
   .subst htt;have:=List.all_eq_true.1 hds.1 it' hit';rw[hk,hk']at this;simp only[Bool.not_true,Bool.false_or,neO,hd,ht,dB]at this;cases this
   .rw[zF htt];exact hu
theorem co1 {β:Type}{c0 c:Ctx}{e:eo}{ea:dn}{ach:List (Nat×(Hp->Prop))}{chk:Chk}{P ls nd:List Nat}{it:LItem}{r:List LItem}{pd:Nat->Nat}{k:eo->bz->Option β}{y:β}
  (hI:InvL ops c0 c e ea ach chk P ls nd (it::r) pd) (hk:aB it.kind 3=Za) (h:evL tab ops (it::r) chk e c.S k=C y):
  InvL ops c0 c e ea ach chk P ls nd r pd/\evL tab ops r chk e c.S k=C y:=by
 simp only[evL,hk,zC]at h;obtain⟨_,_,_,_,_,h1,_⟩:=aL6 hI.E h;have hds:=hI.ds;simp only[bJ9,aD]at hds;exact⟨⟨hI.le,hI.R,hI.E,hI.K,hI.ks,hI.nd,hI.fb,hI.nod,hI.inj,hI.new,hI.pend,λj hj hk t ht=>hI.und j (cB _ hj) hk t ht,hds.2⟩,h1⟩
theorem aV8 {β:Type}{c0:Ctx}{ea:dn}{ach:List (Nat×(Hp->Prop))}{chk:Chk}{ls nd:List Nat}{pd:Nat->Nat}{k:eo->bz->Option β}{y:β}{i:Nat}(h0:ga c0): ∀(r:List LItem) {P P':List Nat} {it:LItem} {r':List LItem} {c:Ctx} {e:eo},an7 r P i=C (P',it,r')->
  InvL ops c0 c e ea ach chk P ls nd r pd->evL tab ops r chk e c.S k=C y->
  ∃c' e',c'.Y=c.Y/\InvL ops c0 c' e' ea ach chk P' ls nd (it::r') pd/\evL tab ops (it::r') chk e' c'.S k=C y/\aB it.kind 2=Zb/\it.i=i/\∀q∈P',q∈P
 |[],P,P',it,r',c,e,h,_,_=>by cases h
 |a::r,P,P',it,r',c,e,h,hI,hv=>by
  simp only[an7]at h;cases hk3:aB a.kind 3 with
  |true=>
   rw[hk3,zC]at h;obtain⟨h1,h2⟩:=co1 hI hk3 hv;exact aV8 h0 r h h1 h2
  |false=>
  rw[hk3,zD]at h;cases hk:aB a.kind 2 with
  |false=>
   rw[hk,zD]at h;cases hi:aB a.i i with
   |false=>rw[hi]at h;cases h
   |true=>
    rw[hi,zC]at h;injection h with h
    injection h with h1 h
    injection h with h2 h3
    subst h1;subst h2;subst h3;exact⟨c,e,rfl,hI,hv,hk,bB hi,λq hq=>hq⟩
  |true=>
   rw[hk,zC]at h;cases hm:mG a.i P with
   |false=>rw[hm]at h;cases h
   |true=>
    rw[hm,zC]at h;obtain⟨c1,e1,h1,h2,h3⟩:=cD6 h0 hI hk (ly.1 hm) hv;obtain⟨c2,e2,h4,h5,h6,h7,h8,h9⟩:=aV8 h0 r h h2 h3;exact⟨c2,e2,h4.trans h1,h5,h6,h7,h8,λq hq=>((pS hI.nod).1 (h9 q hq)).1⟩
theorem ca1 {β:Type}{c0:Ctx}{ea:dn}{ach:List (Nat×(Hp->Prop))}{chk:Chk}{ls nd:List Nat}{pd:Nat->Nat}{k:eo->bz->Option β}{y:β}(h0:ga c0): ∀(r:List LItem) {P:List Nat} {c:Ctx} {e:eo},cw0 r P=Za->
  InvL ops c0 c e ea ach chk P ls nd r pd->evL tab ops r chk e c.S k=C y->rP c0 k y ea c.Y
 |[],P,c,e,h,hI,hv=>by
  have hP:P=[]:=by
   cases P with
   |nil=>rfl
   |cons a r=>simp[cw0]at h
  subst hP
  have hfb:c.fb=c0.fb:=by
   funext b
   refine propext ((hI.fb b).trans ⟨λh=> ?_, .inl⟩);rcases h with h|⟨q,hq,_⟩
   .exact h
   .cases hq
  refine⟨e,c,rfl, ?_,hI.R,hI.E,hv⟩;have:=hI.le;rw[<-hfb]at this;exact this
 |a::r,P,c,e,h,hI,hv=>by
  simp only[cw0]at h;cases hk3:aB a.kind 3 with
  |true=>
   rw[hk3,zC]at h;obtain⟨h1,h2⟩:=co1 hI hk3 hv;exact ca1 h0 r h h1 h2
  |false=>
  rw[hk3,zD]at h;simp only[aD]at h;obtain⟨c1,e1,h1,h2,h3⟩:=cD6 h0 hI h.1.1 (ly.1 h.1.2) hv;rw[<-h1];exact ca1 h0 r h.2 h2 h3
theorem bl5 {β:Type}{c:Ctx}{ea:dn}{chk:Chk}{k:eo->bz->Option β}{y:β}{m:Nat}: ∀(r:List LItem) {e e':eo} {S:bz},bu4 ops r m=Za->cf c e ea->(∀t∈zU (dx ops m).op,mC e' t=mC e t)->evL tab ops r chk e' S k=C y->∃x vf,yt (dx ops m).op=Za/\rf (dx ops m).op ea x vf
 |[],e,e',S,h,_,_,_=>by cases h
 |a::r,e,e',S,h,he,hu,hv=>by
  have huse: ∀(vv:VV),aT7 (dx ops a.i).dst (zU (dx ops m).op)=Za->∀t∈zU (dx ops m).op,mC (putO e' (dx ops a.i).dst vv) t=mC e t:=by
   intro vv h1 t ht;rw[<-hu t ht];cases hd:(dx ops a.i).dst with
   |none=>rfl
   |some t'=>
    show mC (pT e' t' _) t=_;rw[vp];by_cases htt:t=t'
    .subst htt;rw[hd]at h1;simp only[aT7]at h1;rw[ly.2 ht]at h1;cases h1
    .rw[zF htt]
  have fresh_here: ∀{γ:Type} {k':Blk->Bool->Option γ} {z:γ},am0 (dx ops m).op e' k'=C z->∃x vf,yt (dx ops m).op=Za/\rf (dx ops m).op ea x vf:=by
   intro γ k' z hv
   have hv':am0 (dx ops m).op e k'=C z:=by
    cases hop:(dx ops m).op<;>rw[hop]at hv hu<;>simp only[am0]at hv<;>first|(cases hv;done)|skip
    case alloc es z=>exact hv
    case makeSlice es bytes z l q=>
     have e1:ev e' l=ev e l:=by
      cases l with
      |tmp t=>exact hu t (by simp[zU,cn6])
      |_=>rfl
     have e2:ev e' q=ev e q:=by
      cases q with
      |tmp t=>exact hu t (by simp[zU,cn6])
      |_=>rfl
     rw[e1,e2]at hv;exact hv
    case buildSlice es ln z ps=>
     have e1:ac2 e' ps=ac2 e ps:=by
      unfold ac2;apply eD;rintro⟨o,s,x⟩ hx;simp only
      have:ev e' x=ev e x:=by
       cases x with
       |tmp t=>exact hu t (List.mem_flatMap.2 ⟨_,hx,by simp[cn6]⟩)
       |_=>rfl
      rw[this]
     rw[e1]at hv;exact hv
   obtain⟨hf,blk,w,x,vf,_,h2⟩:=aL6 he hv';exact⟨x,vf,hf,h2.run⟩
  simp only[bu4]at h;cases hk3:aB a.kind 3 with
  |true=>
   rw[hk3,zC,cD]at h;simp only[evL,hk3,zC]at hv;rcases h with h|h
   .rw[bB h]at hv;exact fresh_here hv
   .have hnext:evL tab ops r chk e' S k=C y:=by
     cases hop:(dx ops a.i).op<;>rw[hop]at hv<;>simp only[am0]at hv<;>first|(cases hv;done)|skip
     case alloc es z=>exact(ce hv).2
     case makeSlice es bytes z l q=>
      split at hv
      .exact(ce hv).2
      .cases hv
     case buildSlice es ln z ps=>
      split at hv
      .exact(ce hv).2
      .cases hv
    exact bl5 r h he hu hnext
  |false=>
  rw[hk3,zD]at h;simp only[cD,aD]at h;rcases h with⟨hk,h⟩|⟨⟨⟨hk,hmv⟩,h1⟩,h2⟩
  .simp only[evL,hk,hk3,zC,zD]at hv;by_cases hi:a.i=m
   .rw[hi]at hv;exact fresh_here hv
   .rcases h with h|⟨h1,h2⟩
    .exact(hi (bB h)).elim
    .have hnext: ∃blk w,evL tab ops r chk (putO e' (dx ops a.i).dst (vvF w S.length)) (S++[blk]) k=C y:=by
      cases hop:(dx ops a.i).op<;>rw[hop]at hv<;>simp only[am0]at hv<;>first|(cases hv;done)|skip
      case alloc es z=>exact⟨_,_,(ce hv).2⟩
      case makeSlice es bytes z l q=>
       split at hv
       .exact⟨_,_,(ce hv).2⟩
       .cases hv
      case buildSlice es ln z ps=>
       split at hv
       .exact⟨_,_,(ce hv).2⟩
       .cases hv
     obtain⟨blk,w,hv2⟩:=hnext;exact bl5 r h2 he (huse _ h1) hv2
  .have hk2:aB a.kind 2=Zb:=by rw[bB hk];rfl
   have hk1:aB a.kind 1=Zb:=by rw[bB hk];rfl
   simp only[evL,hk2,hk1,hk3,zD]at hv;obtain⟨_,hv⟩:=ce hv;cases hop:(dx ops a.i).op<;>rw[hop]at hmv<;>first|(cases hmv;done)|skip
   case move x=>
    rw[hop]at hv;simp only[bt8,AOp.isLoad,zD]at hv;obtain⟨_,hv⟩:=ce hv;exact bl5 r h2 he (huse _ h1) hv
theorem cC0 {F:Nat->Prop}: ∀{l:List Nat},(∀m∈l,F m)->bH0 F l
 |[],_=>trivial
 |[m],h=>h m (by simp)
 |m::m'::r,h=>⟨h m (by simp),cC0 λq hq=>h q (cB _ hq)⟩
theorem dg1 {D:List Nat}{i:Nat}(h:jO ops D=C i): ∃p,ops[i]?=C (dx ops i,p)/\(dx ops i).op.still=Za:=by
 unfold jO at h;have h1:=List.find?_some h;simp only[aD]at h1;have h2:=h1.2;unfold an5 at h2;unfold dx;split at h2
 .rename_i o p ho;rw[ho];exact⟨p,rfl,h2⟩
 .cases h2
theorem cU7 {D:List Nat}{m:Nat}(h:m∈ej ops D): ∃p,ops[m]?=C (dx ops m,p)/\(dx ops m).op.still=Zb:=by
 unfold ej at h;obtain⟨h1,h2⟩:=List.mem_filter.1 h;have h1:=List.mem_range.1 h1;simp only[aD]at h2;have h3:=h2.2;unfold an5 at h3;unfold dx;rw[List.getElem?_eq_getElem h1]at h3⊢;exact⟨_,rfl,by simpa using h3⟩
theorem cE6 {self:Nat}{ex:Bool}{P:List Nat}{r:List LItem}(h:aJ0 ops self ex P r=Za){q:Nat}(hq:q∈P):(∀t,(dx ops self).dst=C t->(dx ops q).dst≠C t)/\∀t,(dx ops self).dst=C t->t∉zU (dx ops q).op:=by
 simp only[aJ0,aD]at h;have h1:=List.all_eq_true.1 h.1 q hq;rw[aD]at h1;refine⟨λt ht e=> ?_,λt ht hu=> ?_⟩
 .have:=h1.1;rw[ht,e]at this;simp only[neO,dB]at this;cases this
 .have:=h1.2;rw[ht]at this;simp only[aT7]at this;rw[ly.2 hu]at this;cases this
theorem dg6 {self:Nat}{ex:Bool}{P:List Nat}{r:List LItem}(h:aJ0 ops self ex P r=Za){it:LItem}(hit:it∈r)(hk:aB it.kind 2=Za)(hne:ex=Za->it.i≠self){t:Nat}(ht:(dx ops self).dst=C t):(dx ops it.i).dst≠C t:=by
 simp only[aJ0,aD]at h;have h1:=List.all_eq_true.1 h.2 it hit
 have h2:(ex&&aB it.i self)=Zb:=by
  cases ex with
  |false=>rfl
  |true=>exact Bool.eq_false_iff.2 λe=>hne rfl (bB e)
 rw[hk,h2]at h1;intro e;rw[ht,e]at h1;simp only[Bool.not_true,Bool.false_or,neO,dB]at h1;cases h1
theorem aU5 {ea:dn}{d:Option Nat}{v:Value}{t:Nat}(h: ∀t',d=C t'->t≠t'):(ea.putO d v) t=ea t:=by
 cases d with
 |none=>rfl
 |some t'=>exact zF (h t' rfl)
theorem cX3 {e:eo}{d:Option Nat}{v:VV}{t:Nat}(h: ∀t',d=C t'->t≠t'):mC (putO e d v) t=mC e t:=by
 cases d with
 |none=>rfl
 |some t'=>
  show mC (pT e t' v) t=_;rw[vp,zF (h t' rfl)]
theorem InvL.on {c0 c c':Ctx}{e:eo}{ea:dn}{ach ach':List (Nat×(Hp->Prop))}{chk chk':Chk}{P ls ls' nd nd':List Nat}{it:LItem}{r:List LItem}{pd:Nat->Nat}{i:Nat}{vv:VV}{v:Value}
  (hI:InvL ops c0 c e ea ach chk P ls nd (it::r) pd) (hd:aJ0 ops i Zb P r=Za) (hl:Le c c') (hR:ga c') (hv:VRel c' vv v) (hK:ChkRel c' ach' chk') (hks:ach'.map (·.1)=ls') (hnd:mj nd' chk'=Za):
  InvL ops c0 c' (putO e (dx ops i).dst vv) (ea.putO (dx ops i).dst v) ach' chk' P ls' nd' r pd:=by
 have hds:=hI.ds;simp only[bJ9,aD]at hds;refine⟨?_,hR,(hI.E.frame hl).putO hv,hK,hks,hnd,λb=>by rw[hl.fb];exact hI.fb b,hI.nod,hI.inj,hI.new,λq hq=> ?_,λj hj hk t ht=> ?_,hds.2⟩
 .have h1:=hI.le;have h2:Le ⟨c.Z,c.S,c.Y,c0.fb⟩ ⟨c'.Z,c'.S,c'.Y,c0.fb⟩:=⟨hl.len,hl.al,hl.fz,hl.ln,hl.un,hl.ow,hl.n,rfl⟩;exact h1.trans h2
 .obtain⟨hf,x,vf,h1,h2,h3⟩:=hI.pend q hq;obtain⟨k1,k2⟩:=cE6 hd hq;refine⟨hf,x,vf,h1.same hf λt ht=>aU5 λt' ht' e=>k2 t' ht' (e▸ht),hl.un _ _ h2 λho=> ?_,λt ht=> ?_⟩
  .obtain⟨j,hj1,hj2⟩:=ho;exact hI.R.fbk j _ (mB hj1) hj2 ((hI.fb _).2 (.inr ⟨q,hq,rfl⟩))
  .rw[aU5 λt' ht' e=>k1 t' ht' (e▸ht)];exact h3 t ht
 .rw[cX3 λt' ht' e=>dg6 hd hj hk (λh=>by cases h) ht' (e▸ht)];exact hI.und j (cB _ hj) hk t ht
theorem bZ9 {β:Type}{c0:Ctx}{k:eo->bz->Option β}{y:β}(h0:ga c0): ∀(f:Nat) {D P ls nd:List Nat} {r:List LItem} {c:Ctx} {e:eo} {ea:dn} {ach:List (Nat×(Hp->Prop))} {chk:Chk} {pd:Nat->Nat},bZ3 ops f D P ls nd r=Za->InvL ops c0 c e ea ach chk P ls nd r pd->evL tab ops r chk e c.S k=C y->
  wpD (iu tab) (rP c0 k y) ops f D ach ea c.Y
 |0,D,P,ls,nd,r,c,e,ea,ach,chk,pd,h,hI,hv=>ca1 h0 r h hI hv
 |f+1,D,P,ls,nd,r,c,e,ea,ach,chk,pd,h,hI,hv=>by
  simp only[bZ3]at h;simp only[wpD];cases hns:jO ops D with
  |some i=>
   rw[hns]at h;simp only[aD]at h⊢;obtain⟨hg,h⟩:=h;obtain⟨p,ho,hst⟩:=dg1 hns;rw[ho]
   have hw:wanted (dx ops i) ea=Za:=by
    unfold wanted;cases hgg:(dx ops i).guard with
    |none=>rfl
    |some q=>rw[hgg]at hg;cases hg
   simp only[hw,if_true];cases hs:an7 r P i with
   |none=>rw[hs]at h;cases h
   |some q=>
    obtain⟨P',it,r'⟩:=q;rw[hs]at h;simp only[aD]at h;obtain⟨⟨hk0,hd⟩,hc⟩:=h;obtain⟨c1,e1,h1,h2,h3,h4,h5,h6⟩:=aV8 h0 r hs hI hv;subst h5;have hk1:aB it.kind 1=Zb:=by rw[bB hk0];rfl
    have hk3:aB it.kind 3=Zb:=by rw[bB hk0];rfl
    simp only[evL,h4,hk1,hk3,zD]at h3;obtain⟨_,h3⟩:=ce h3;have h7:=aS6 h2.R h2.E h3;rw[<-aA1 hst,h1]at h7;cases hr:(dx ops it.i).op.run ea c.Y with
    |none=>rw[hr]at h7;exact h7.elim
    |some q=>
     obtain⟨v,Y1⟩:=q;rw[hr]at h7;obtain⟨vv,c2,g1,g2,g3,g4,g5,g6⟩:=h7;simp only
     have hdd:aS5 tab (dx ops it.i).op e1 c1.S=[]:=by
      cases hop:(dx ops it.i).op<;>rw[hop]at hst<;>first|(cases hst;done)|rfl
     have hY1:Y1=c.Y:=aN5 hst hr;obtain⟨g7,g8⟩:=ce g6;have hn:=h2.K.next g2 g4
     rw[hdd,yH]at hn
     have hstep: ∀{ach':List (Nat×(Hp->Prop))} {chk':Chk} {ls':List Nat},ChkRel c2 ach' chk'->ach'.map (·.1)=ls'->mj it.need chk'=Za->evL tab ops r' chk' (putO e1 (dx ops it.i).dst vv) c2.S k=C y->bZ3 ops f (it.i::D) P' ls' it.need r'=Za->
       wpD (iu tab) (rP c0 k y) ops f (it.i::D) ach' (ea.putO (dx ops it.i).dst v) c.Y:=by
      intro ach' chk' ls' q1 q2 q3 q4 q5;have:=bZ9 h0 f q5 (h2.on hd g2 g3 g5 q1 q2 q3) q4;rw[g1,hY1]at this;exact this
     cases hld:(dx ops it.i).op.isLoad with
     |false=>
      rw[hld]at g7 g8 hc;rw[zF (by decide)];exact hstep hn h2.ks g7 g8 hc
     |true=>
      rw[hld]at g7 g8 hc;rw[zE rfl];have hkp:=bI9 h2.R h2.E hld (by rw[h1];exact hr);have hn2:=(ChkRel.cons (i:=it.i) hkp h2.K).next g2 g4
      rw[hdd,yH]at hn2;exact hstep hn2 (by rw[List.map_cons,h2.ks];rfl) g7 g8 hc
  |none=>
   rw[hns]at h;simp only at h⊢
   have each: ∀{ms:List Nat},(∀m∈ms,m∈ej ops D)->(ms.all λm=>(dx ops m).guard.isNone&&cond (yt (dx ops m).op)
    (!mG m P&&r.any (λit=>aB it.kind 2&&aB it.i m)&&(cm0 (dx ops m).op||bu4 ops r m)&&aJ0 ops m Za P r&&aT7 (dx ops m).dst (zU (dx ops m).op)&&ls.all (λi=>vN ops i m||mG i nd)&&bZ3 ops f (m::D) (m::P) ls nd r)
    (match an7 r P m with
    |some (P',it,r')=>aB it.kind 1&&aJ0 ops m Zb P' r'&&ls.all (λi=>vN ops i m||mG i it.chks)&&bZ3 ops f (m::D) P' ls it.need r'
    |none=>Zb))=Za->bH0 (λm=>match ops[m]? with
     |some (o,_)=>if wanted o ea then cz (iu tab) o.op ea c.Y λv Y'=>ap5 ops m Y' ach/\wpD (iu tab) (rP c0 k y) ops f (m::D) ach (ea.putO o.dst v) Y'
      else wpD (iu tab) (rP c0 k y) ops f (m::D) ach (ea.putO o.dst undef) c.Y
     |none=>False) ms:=by
    intro ms hms hall;refine cC0 λm hm=> ?_
    have h:=List.all_eq_true.1 hall m hm;simp only[aD]at h;obtain⟨hg,h⟩:=h;obtain⟨p,ho,hst⟩:=cU7 (hms m hm);rw[ho]
    have hw:wanted (dx ops m) ea=Za:=by
     unfold wanted;cases hgg:(dx ops m).guard with
     |none=>rfl
     |some q=>rw[hgg]at hg;cases hg
    simp only[hw,if_true];cases hfr:yt (dx ops m).op with
    |false=>
     rw[hfr,zD]at h;cases hs:an7 r P m with
     |none=>rw[hs]at h;cases h
     |some q=>
      obtain⟨P',it,r'⟩:=q;rw[hs]at h;simp only[aD]at h;obtain⟨⟨⟨hk1,hd⟩,hls⟩,hc⟩:=h;obtain⟨c1,e1,h1,h2,h3,h4,h5,h6⟩:=aV8 h0 r hs hI hv;subst h5;have hk3:aB it.kind 3=Zb:=by rw[bB hk1];rfl
      simp only[evL,h4,hk1,hk3,zD,zC]at h3;have h7:=aS6 h2.R h2.E h3;rw[h1]at h7;refine nM (cy tab) (λv Y' hx=> ?_) h7;obtain⟨vv,c2,g1,g2,g3,g4,g5,g6⟩:=hx;obtain⟨g7,g8⟩:=ce g6;rw[aD]at g7;have hn:=h2.K.next g2 g4
      subst g1;refine⟨yv hn g7.1 λi hi=> ?_,bZ9 h0 f hc (h2.on hd g2 g3 g5 hn h2.ks g7.2) g8⟩;rw[h2.ks]at hi;have:=List.all_eq_true.1 hls i hi;rw[cD]at this;exact this
    |true=>
     rw[hfr,zC]at h;simp only[aD]at h;obtain⟨⟨⟨⟨⟨⟨hnm,hany⟩,hor⟩,hd⟩,hself⟩,hls⟩,hc⟩:=h;have hmP:m∉P:=λe=>by rw[ly.2 e]at hnm;cases hnm
     obtain⟨x,vf,hF⟩: ∃x vf,rf (dx ops m).op ea x vf:=by
      rw[cD]at hor;rcases hor with hor|hor
      .cases hop:(dx ops m).op<;>rw[hop]at hor<;>first|(cases hor;done)|skip
       case alloc es z=>exact⟨⟨z,Za,es⟩,λn=> .pointer (C ⟨n,0,O⟩),λY=>rfl⟩
      .obtain⟨x,vf,_,h1⟩:=bl5 r hor hI.E (λt _=>rfl) hv;exact⟨x,vf,h1⟩
     let c':Ctx:=⟨c.Z,c.S,c.Y.add x,λb=>c.fb b∨b=c.Y.n⟩
     have hadd: ∀b y,c.Y.m b=C y->(c.Y.add x).m b=C y:=by
      intro b y hy;have:=hI.R.ok b y hy;simp only[Hp.add];rw[zF (by omega)];exact hy
     have hV:LeV c c':=by
      refine⟨eB _,λq d hq hdm=>⟨hdm,rfl⟩,λq d b y hq hdm hm hy=>⟨y,hadd b y hy,rfl⟩,λb y hy hn=>⟨hadd b y hy,λhm=> ?_⟩⟩;rcases hm with hm|hm|hm
      .exact hn (.inl hm)
      .exact hn (.inr hm)
      .have:=hI.R.ok b y hy;omega
     have hR':ga c':=by
      refine⟨λb y hy=> ?_,hI.R.inj,λq d hdm=> ?_,λq b hdm hm hf=> ?_,λb hb=> ?_⟩
      .simp only[c',Hp.add]at hy⊢;split at hy
       .omega
       .have:=hI.R.ok b y hy;omega
      .obtain⟨h6,h7⟩:=hI.R.blk q d hdm;refine⟨h6, ?_⟩;rcases h7 with h7|⟨b',y',cs',rest',h7,h8,h9,h10,h11,h12⟩
       .exact .inl h7
       .exact .inr ⟨b',y',cs',rest',h7,hadd _ _ h8,h9,h10,h11,VRel.framesV hV h12⟩
      .rcases hf with hf|hf
       .exact hI.R.fbk q b hdm hm hf
       .subst hf;have hdm':(bu c.S q).dim≠O:=hdm;cases hd2:(bu c.S q).dim with
        |none=>exact hdm' hd2
        |some d=>
         obtain⟨_,h7⟩:=hI.R.blk q d hd2;have hm':c.Z q=C c.Y.n:=hm;rcases h7 with⟨_,h7⟩|⟨b',y',cs',rest',h7,h8,_⟩
         .rw[hm']at h7;cases h7
         .rw[hm']at h7;injection h7 with h7
          subst h7;have:=hI.R.ok _ _ h8;omega
      .show b<c.Y.n+1;rcases hb with hb|hb
       .have:=hI.R.fbl b hb;omega
       .omega
     have hK':=hI.K.frameV hI.R hV (λ_ _=>rfl) (λ_ _=>rfl) hadd;refine dj (hF c.Y) ⟨yv hK' hI.nd λi hi=> ?_, ?_⟩
     .rw[hI.ks]at hi;have:=List.all_eq_true.1 hls i hi;rw[cD]at this;exact this
     .refine bZ9 (c:=c') (pd:=λq=>if q=m then c.Y.n else pd q) h0 f hc ⟨?_,hR', ?_,hK',hI.ks,hI.nd,λb=> ?_,List.nodup_cons.2 ⟨hmP,hI.nod⟩,λq q' hq hq' he=> ?_,λq hq=> ?_,λq hq=> ?_,hI.und,hI.ds⟩ hv
      .have hle:=hI.le;refine⟨hle.len,hle.al,hle.fz,λq d b y hq hdm hm hy=> ?_,λb y hy hn=>hadd _ _ (hle.un b y hy hn),hle.ow,Nat.le_trans hle.n (Nat.le_succ _),rfl⟩;obtain⟨y',q1,q2⟩:=hle.ln q d b y hq hdm hm hy;exact⟨y',hadd _ _ q1,q2⟩
      .have hE:=hI.E.frameV hV;intro t;cases hdst:(dx ops m).dst with
       |none=>exact hE t
       |some t'=>
        show VRel c' (mC e t) (if t=t' then _ else ea t);by_cases htt:t=t'
        .subst htt;rw[zE rfl];obtain⟨it,hit,hit2⟩:=List.any_eq_true.1 hany;rw[aD]at hit2;have hitm:=bB hit2.2;subst hitm;rw[hI.und it hit hit2.1 _ hdst];exact .undef _
        .rw[zF htt];exact hE t
      .constructor
       .rintro(hb|hb)
        .rcases(hI.fb b).1 hb with hb|⟨q,hq,hb⟩
         .exact .inl hb
         .refine .inr ⟨q,cB _ hq, ?_⟩;show(if q=m then c.Y.n else pd q)=b;rw[zF (λe:q=m=>hmP (e▸hq))];exact hb
        .exact .inr ⟨m,List.mem_cons_self,by simp[hb]⟩
       .rintro(hb|⟨q,hq,hb⟩)
        .exact .inl ((hI.fb b).2 (.inl hb))
        .rcases List.mem_cons.1 hq with rfl|hq
         .simp only[if_true]at hb;exact .inr hb.symm
         .have hb:(if q=m then c.Y.n else pd q)=b:=hb;rw[zF (λe:q=m=>hmP (e▸hq))]at hb;exact .inl ((hI.fb b).2 (.inr ⟨q,hq,hb⟩))
      .have hlt: ∀q∈P,pd q<c.Y.n:=λq hq=>hI.R.fbl _ ((hI.fb _).2 (.inr ⟨q,hq,rfl⟩))
       have he:(if q=m then c.Y.n else pd q)=if q'=m then c.Y.n else pd q':=he
       rcases List.mem_cons.1 hq with rfl|hq1
       .rcases List.mem_cons.1 hq' with rfl|hq2
        .rfl
        .rw[zE rfl,zF (λe:q'=q=>hmP (e▸hq2))]at he;have:=hlt _ hq2;omega
       .rw[zF (λe:q=m=>hmP (e▸hq1))]at he;rcases List.mem_cons.1 hq' with rfl|hq2
        .rw[zE rfl]at he;have:=hlt _ hq1;omega
        .rw[zF (λe:q'=m=>hmP (e▸hq2))]at he;exact hI.inj q q' hq1 hq2 he
      .show c0.Y.n<=(if q=m then c.Y.n else pd q);rcases List.mem_cons.1 hq with rfl|hq
       .rw[zE rfl];exact hI.le.n
       .rw[zF (λe:q=m=>hmP (e▸hq))];exact hI.new q hq
      .show yt (dx ops q).op=Za/\∃x1 vf1,rf (dx ops q).op (ea.putO (dx ops m).dst (vf c.Y.n)) x1 vf1/\c'.Y.m (if q=m then c.Y.n else pd q)=C x1/\∀t,(dx ops q).dst=C t->ea.putO (dx ops m).dst (vf c.Y.n) t=vf1 (if q=m then c.Y.n else pd q)
       rcases List.mem_cons.1 hq with rfl|hq
       .rw[zE rfl];refine⟨hfr,x,vf,hF.same hfr λt ht=>aU5 λt' ht' e=> ?_,zE rfl,λt ht=> ?_⟩
        .subst e;rw[ht']at hself;simp only[aT7]at hself;rw[ly.2 ht]at hself;cases hself
        .rw[ht];exact zE rfl
       .rw[zF (λe:q=m=>hmP (e▸hq))];obtain⟨hf',x',vf',q1,q2,q3⟩:=hI.pend q hq;obtain⟨k1,k2⟩:=cE6 hd hq;refine⟨hf',x',vf',q1.same hf' λt ht=>aU5 λt' ht' e=>k2 t' ht' (e▸ht),hadd _ _ q2,λt ht=> ?_⟩;rw[aU5 λt' ht' e=>k1 t' ht' (e▸ht)];exact q3 t ht
   cases hrm:ej ops D with
   |nil=>rw[hrm]at h;exact ca1 h0 r h hI hv
   |cons a l=>
    rw[hrm]at h;exact each (λm hm=>by rw[hrm];exact hm) h
end
end
section
open Bool renaming and_eq_true -> aB
open List renaming mem_cons_self -> aD, mem_cons_of_mem -> cB, mem_of_getElem? -> cD
open Nat renaming beq -> bB, zero_add -> bD, eq_of_beq_eq_true -> dB
section
variable {tab:Tab}
theorem co4 {c:Ctx}{e:eo}{ea:dn}{t:Nat}{p:Bool}(he:cf c e ea)(hp:mC e t= .bool p):cf c (pT e t (.bool p)) ea:=by
 have ht:=he t;rw[hp]at ht;have ht:=ht.bool_inv;intro i;rw[vp];by_cases hi:i=t
 .subst hi;rw[zE rfl,ht];exact .bool _
 .rw[zF hi];exact he i
theorem aL5 {β:Type}{y:β}: ∀{its:List SItem} {c:Ctx} {e:eo} {ea:dn} {chk:Chk} {ach:List (Nat×(Hp->Prop))} {k:eo->bz->Option β},ga c->cf c e ea->ChkRel c ach chk->tB tab its chk e c.S k=C y->wpI (iu tab) (rP c k y) its ach ea c.Y
 |[],c,e,ea,chk,ach,k,hR,he,hc,h=>⟨e,c,rfl,Le.refl c,hR,he,h⟩
 |it::r,c,e,ea,chk,ach,k,hR,he,hc,h=>by
  have step: ∀e1,cf c e1 ea->aY5 tab it chk e1 c.S (λchk' e' S'=>tB tab r chk' e' S' k)=C y->
    (if it.mover then cz (iu tab) it.o.op ea c.Y (λv Y'=>xu it.chks Y' ach/\wpI (iu tab) (rP c k y) r ach (ea.putO it.o.dst v) Y')
    else match it.o.op.run ea c.Y with
     |some (v,_)=>wpI (iu tab) (rP c k y) r (if it.keep then(it.idx,λY'=>it.o.op.run ea Y'=C (v,Y'))::ach else ach) (ea.putO it.o.dst v) c.Y
     |none=>False):=by
   intro e1 he1 h1;refine cJ1 (Q:=λach' ea' Y'=>wpI (iu tab) (rP c k y) r ach' ea' Y') hR he1 hc h1 λc' ach' chk' e' ea' h2 h3 h4 h5 h6=> ?_
   exact aB6 (cy tab) (λea'' Y'' hp=>hp.of h2) _ _ _ _ (aL5 h3 h5 h4 h6)
  have skip: ∀e1,cf c e1 ea->tB tab r chk (putO e1 it.o.dst (.tup [])) c.S k=C y->wpI (iu tab) (rP c k y) r ach (ea.putO it.o.dst undef) c.Y:=λe1 he1 h1=>aL5 hR (he1.putO (.tup .nil)) hc h1
  simp only[tB]at h;simp only[wpI];split at h
  .rename_i hg;have:wanted it.o ea=Za:=by simp only[wanted,hg]
   rw[zE this];exact step e he h
  .rename_i t w hg;split at h
   .rename_i p hp;have ht:=he t;rw[hp]at ht;have ht:=ht.bool_inv;have hw:wanted it.o ea=(p==w):=by simp only[wanted,hg,ht]
    have hput:=co4 he hp;rw[hw];cases p<;>cases w<;>simp only[zC,zD]at h
    .rw[zE (by decide)];exact step _ hput h
    .rw[zF (by decide)];exact skip _ hput h
    .rw[zF (by decide)];exact skip _ hput h
    .rw[zE (by decide)];exact step _ hput h
   .rename_i hp;have ht:=he t;rw[hp]at ht
    have hw:wanted it.o ea=Zb:=by
     simp only[wanted,hg];generalize ea t=u at ht;cases ht;rfl
    rw[hw,zF (by decide)];exact skip _ he h
   .cases h
def rN (as:List Nat)(e e':dn):Prop:= ∀t,t∉as->e' t=e t
theorem rN.refl (as:List Nat)(e:dn):rN as e e:=λ_ _=>rfl
theorem rN.put {as:List Nat}{e e':dn}{d:Option Nat}{v:Value}(h:rN as e e')(hd: ∀t,t∈bZ8 d->t∈as):rN as e (e'.putO d v):=by
 intro t ht;cases d with
 |none=>exact h t ht
 |some d=>
  have:t≠d:=by rintro rfl;exact ht (hd t (List.mem_singleton.2 rfl))
  simp only[dn.putO,dn.put,zF this];exact h t ht
theorem aN7 {T:Ab.gz}(hT:rO T){Q:dn->Hp->Prop}{as:List Nat}{e0:dn}: ∀{ops:List AOper} {e:dn} {Y:Hp},(∀o,o∈ops->∀t,t∈bZ8 o.dst->t∈as)->rN as e0 e->Ab.yI T Q ops e Y->Ab.yI T (λe' Y'=>rN as e0 e'/\Q e' Y') ops e Y
 |[],e,Y,_,hk,h=>⟨hk,h⟩
 |o::r,e,Y,ha,hk,h=>by
  simp only[Ab.yI]at h⊢;have hr: ∀o,o∈r->∀t,t∈bZ8 o.dst->t∈as:=λo ho=>ha o (cB _ ho)
  split at h
  .rename_i hw;rw[zE hw];exact nM hT (λv Y' hv=>aN7 hT hr (hk.put (ha o aD)) hv) h
  .rename_i hw;rw[zF hw];exact aN7 hT hr (hk.put (ha o aD)) h
theorem aW1 {T:Ab.gz}(hT:rO T){Q:dn->Hp->Prop}{as:List Nat}{e0:dn}: ∀{its:List SItem} {chk:List (Nat×(Hp->Prop))} {e:dn} {Y:Hp},(∀o,o∈its->∀t,t∈bZ8 o.o.dst->t∈as)->rN as e0 e->wpI T Q its chk e Y->wpI T (λe' Y'=>rN as e0 e'/\Q e' Y') its chk e Y
 |[],chk,e,Y,_,hk,h=>⟨hk,h⟩
 |it::r,chk,e,Y,ha,hk,h=>by
  simp only[wpI]at h⊢;have hr: ∀o,o∈r->∀t,t∈bZ8 o.o.dst->t∈as:=λo ho=>ha o (cB _ ho)
  split at h
  .rename_i hw;rw[zE hw];split at h
   .rename_i hm;rw[zE hm];exact nM hT (λv Y' hv=>⟨hv.1,aW1 hT hr (hk.put (ha it aD)) hv.2⟩) h
   .rename_i hm;rw[zF hm];split at h
    .exact aW1 hT hr (hk.put (ha it aD)) h
    .exact h.elim
  .rename_i hw;rw[zF hw];exact aW1 hT hr (hk.put (ha it aD)) h
theorem ci8 {F G:Nat->Prop}(h: ∀m,F m->G m): ∀{l:List Nat},bH0 F l->bH0 G l
 |[],_=>trivial
 |[m],q=>h m q
 |m::m'::r,q=>⟨h m q.1,ci8 h q.2⟩
theorem aB4 {T:Ab.gz}(hT:rO T){Q:dn->Hp->Prop}{as:List Nat}{e0:dn}{ops:List (AOper×List Nat)}(ha: ∀o,o∈ops->∀t,t∈bZ8 o.1.dst->t∈as): ∀(f:Nat) {D:List Nat} {chk:List (Nat×(Hp->Prop))} {e:dn} {Y:Hp},rN as e0 e->wpD T Q ops f D chk e Y->wpD T (λe' Y'=>rN as e0 e'/\Q e' Y') ops f D chk e Y
 |0,D,chk,e,Y,hk,h=>⟨hk,h⟩
 |f+1,D,chk,e,Y,hk,h=>by
  simp only[wpD]at h⊢;cases hn:jO ops D with
  |some i=>
   rw[hn]at h;simp only at h⊢;cases ho:ops[i]? with
   |none=>rw[ho]at h;exact h
   |some p=>
    obtain⟨o,pr⟩:=p;rw[ho]at h;have hm:(o,pr)∈ops:=cD ho;simp only at h⊢;split at h
    .rename_i hw;rw[zE hw];split at h
     .rename_i v Y' hr;exact aB4 hT ha f (hk.put (ha _ hm)) h
     .exact h.elim
    .rename_i hw;rw[zF hw];exact aB4 hT ha f (hk.put (ha _ hm)) h
  |none=>
   rw[hn]at h;simp only at h⊢;cases hr:ej ops D with
   |nil=>rw[hr]at h;exact⟨hk,h⟩
   |cons a l=>
    rw[hr]at h;simp only at h⊢;refine ci8 (λm hm=> ?_) h;cases ho:ops[m]? with
    |none=>rw[ho]at hm;exact hm
    |some p=>
     obtain⟨o,pr⟩:=p;rw[ho]at hm;have hmem:(o,pr)∈ops:=cD ho;simp only at hm⊢;split at hm
     .rename_i hw;rw[zE hw];exact nM hT (λv Y' hx=>⟨hx.1,aB4 hT ha f (hk.put (ha _ hmem)) hx.2⟩) hm
     .rename_i hw;rw[zF hw];exact aB4 hT ha f (hk.put (ha _ hmem)) hm
theorem vB {T:Ab.gz}(hT:rO T){as:List Nat}{e0:dn}: ∀(c:AC) {Q:AExit->dn->Hp->Prop} {e:dn} {Y:Hp},az4 c=Za->(∀t,t∈ll c->t∈as)->rN as e0 e->wC T c Q e Y->wC T c (λx e' Y'=>rN as e0 e'/\Q x e' Y') e Y
 | .skip,_,_,_,_,_,hk,h=>⟨hk,h⟩
 | .exit _,_,_,_,_,_,hk,h=>⟨hk,h⟩
 | .ret,_,_,_,_,_,hk,h=>⟨hk,h⟩
 | .region ops,Q,e,Y,_,ha,hk,h=>aN7 hT (λo ho t ht=>ha t (List.mem_flatMap.2 ⟨o,ho,ht⟩)) hk h
 | .sched its,Q,e,Y,_,ha,hk,h=>aW1 hT (λo ho t ht=>ha t (List.mem_flatMap.2 ⟨o,ho,ht⟩)) hk h
 | .draw ops,Q,e,Y,_,ha,hk,h=>aB4 hT (λo ho t ht=>ha t (List.mem_flatMap.2 ⟨o,ho,ht⟩)) _ hk h
 | .seq a b,Q,e,Y,hd,ha,hk,h=>by
  simp only[az4,aB]at hd;have h1:=vB hT a hd.1 (λt ht=>ha t (List.mem_append.2 (.inl ht))) hk h;refine ia hT a _ _ (λx e' Y' hx=> ?_) e Y h1;obtain⟨hx1,hx2⟩:=hx;cases x with
  |normal=>exact vB hT b hd.2 (λt ht=>ha t (List.mem_append.2 (.inr ht))) hx1 hx2
  |exit i=>exact⟨hx1,hx2⟩
  |ret=>exact⟨hx1,hx2⟩
 | .cond c a b,Q,e,Y,hd,ha,hk,h=>by
  simp only[az4,aB]at hd;simp only[wC]at h⊢;split at h
  .exact vB hT a hd.1 (λt ht=>ha t (List.mem_append.2 (.inl ht))) hk h
  .exact vB hT b hd.2 (λt ht=>ha t (List.mem_append.2 (.inr ht))) hk h
  .exact h.elim
 | .block id b,Q,e,Y,hd,ha,hk,h=>by
  have h1:=vB hT b hd ha hk h;refine ia hT b _ _ (λx e' Y' hx=> ?_) e Y h1;obtain⟨hx1,hx2⟩:=hx;cases x with
  |normal=>exact⟨hx1,hx2⟩
  |exit i=>
   simp only at hx2⊢;split at hx2
   .rename_i hi;rw[zE hi];exact⟨hx1,hx2⟩
   .rename_i hi;rw[zF hi];exact⟨hx1,hx2⟩
  |ret=>exact⟨hx1,hx2⟩
 | .loop b,Q,e,Y,hd,ha,hk,h=>by
  obtain⟨n,hn⟩:=h;refine⟨n, ?_⟩;induction n generalizing e Y with
  |zero=>exact hn.elim
  |succ n ih=>
   simp only[kM]at hn⊢;have h1:=vB hT b hd ha hk hn;refine ia hT b _ _ (λx e' Y' hx=> ?_) e Y h1;obtain⟨hx1,hx2⟩:=hx;cases x with
   |normal=>exact ih _ _ hx1 hx2
   |exit i=>exact⟨hx1,hx2⟩
   |ret=>exact⟨hx1,hx2⟩
theorem aC5 {S:bz}{N:Nat}{fx:List Nat}{sk:yj}{vals:List VV}{t:Tup sk.shs}(h:aL4 S N fx sk vals=C t):sk.noRo=Za/\∃st,nW S N fx sk vals=C st/\toL sk.shs t=st.ls:=by
 unfold aL4 at h;obtain⟨h1,h2⟩:=ce h;obtain⟨st,h3,h4⟩:=bx h2;exact⟨h1,st,h3,aT9 h4⟩
theorem aC4 {S:bz}{N:Nat}{fx:List Nat}{vals:List Nat->List VV}{hit:XK->Bool}: ∀{l:List Alt} {s:vk l},vP S N fx vals hit l=C s->∃p,cQ3 l s=C p/\hit p.1.x=Za/\aL4 S N fx p.1.sk (vals p.1.ts)=C p.2
 |[],s,h=>by cases h
 |[a],s,h=>by
  simp only[vP]at h;cases hh:hit a.x with
  |false=>rw[hh]at h;cases h
  |true=>rw[hh]at h;exact⟨⟨a,s⟩,rfl,hh,h⟩
 |a::b::r,s,h=>by
  simp only[vP]at h;split at h
  .rename_i t ht;injection h with h
   subst h;cases hh:hit a.x with
   |false=>rw[hh]at ht;cases ht
   |true=>rw[hh]at ht;exact⟨⟨a,t⟩,rfl,hh,ht⟩
  .obtain⟨s',h1,h2⟩:=bx h;injection h2 with h2
   subst h2;obtain⟨p,h3,h4,h5⟩:=aC4 h1;exact⟨p,h3,h4,h5⟩
theorem XK.is_out {x:XK}{y:AExit}(h:x.is y=Za):x.out=y:=by
 cases x<;>cases y<;>simp only[XK.is]at h<;>first|rfl|(cases h;done)|skip
 rename_i i j;rw[show(XK.exit i).out=AExit.exit i from rfl,dB h]
theorem aU6 {c:Ctx}: ∀{ts:List Nat} {e:eo} {ea:dn} {vs:List VV},cf c e ea->F2 (VRel c) vs (ts.map ea)->cf c (co5 e ts vs) ea
 |[],e,ea,vs,he,hf=>by
  cases hf;exact he
 |t::ts,e,ea,vs,he,hf=>by
  cases hf with
  |cons h1 h2=>
   have:=aU6 he h2;intro i;simp only[co5,vp];by_cases hi:i=t
   .subst hi;rw[zE rfl];exact h1
   .rw[zF hi];exact this i
theorem aY1 : ∀{ts:List Nat} {e:eo} {t:Nat},mC (ax9 e ts) t= .undef∨(t∉ts/\mC (ax9 e ts) t=mC e t)
 |[],e,t=> .inr ⟨by simp,rfl⟩
 |a::ts,e,t=>by
  simp only[ax9,vp];by_cases h:t=a
  .rw[zE h];exact .inl rfl
  .rw[zF h];rcases aY1 (ts:=ts) (e:=e) (t:=t)with h1|⟨h1,h2⟩
   .exact .inl h1
   .exact .inr ⟨by simp[h,h1],h2⟩
theorem aC1 {c:Ctx}{as:List Nat}{e:eo}{ea ea':dn}(he:cf c e ea)(hk:rN as ea ea'):cf c (ax9 e as) ea':=by
 intro t;rcases aY1 (ts:=as) (e:=e) (t:=t)with h|⟨h1,h2⟩
 .rw[h];exact .undef _
 .rw[h2,hk t h1];exact he t
theorem bl8 {c:Ctx}{e:eo}{ea:dn}(he:cf c e ea): ∀ts:List Nat,F2 (VRel c) (ts.map (mC e)) (ts.map ea)
 |[]=> .nil
 |t::ts=> .cons (he t) (bl8 he ts)
theorem ca7 {β:Type}{c c1 c':Ctx}{e0:eo}{ea0 ea':dn}{fx mov asg:List Nat}{exits:List Alt}{s:vk exits}{k:AExit->eo->bz->Option β}{y:β}{e':eo}{x:AExit}(hR:ga c)(he0:cf c e0 ea0)(hR':ga c')(hw:Within c c1 fx mov)(hR1:ga c1)(hle:Le c1 c')(hok:bk0 c.S fx=Za)
  (hke:rN asg ea0 ea') (he':cf c' e' ea') (hd:vP c'.S c.S.length fx (λts=>ts.map (mC e')) (λy=>y.is x) exits=C s) (h:dd9 e0 c.S fx mov asg exits s k=C y):rY c k y x ea' c'.Y:=by
 obtain⟨p,h1,h2,h3⟩:=aC4 hd;obtain⟨hro,st,h4,h5⟩:=aC5 h3;unfold dd9 at h;rw[bY7,h1]at h;simp only[zG]at h;rw[XK.is_out h2]at h;unfold aA4 at h;rw[h5]at h;cases he:pj id p.1.sk st.ls with
 |none=>rw[he]at h;cases h
 |some q=>
  obtain⟨vs,fs,bs⟩:=q;rw[he]at h;simp only[Bool.false_or]at h;cases hS:vy fx fs (ku fx mov (ao8 vs fs bs) 0 c.S)with
  |none=>rw[hS]at h;cases h
  |some S2=>
   rw[hS]at h;obtain⟨ct,g1,g2,g3,g4,g5⟩:=de9 hR hR' hw hR1 hle hok hro h4 he (bl8 he' _) hS;refine⟨_,ct,g1,g3,g4,aU6 (aC1 (he0.frame g3) hke) g5, ?_⟩;rw[g2];exact h
theorem cu3 {S:bz}{fx:List Nat}:tI S (ku fx [] Za 0 S):=by
 refine⟨mA,λk=> ?_⟩;by_cases hk:k<S.length
 .rw[mz hk];simp only[mG,zD,bD];cases mG k fx with
  |true=>exact .inl rfl
  |false=>exact .inr rfl
 .rw[vw (by rw[mA];omega),vw (by omega)];exact .inl rfl
def dE0 (c:Ctx)(e0:eo)(ea0:dn)(fx mov asg:List Nat)(ts:List Nat)(sk:yj)(t:Tup sk.shs)(ea:dn)(Y:Hp):Prop:=
 ∃c1 e1,c1.Y=Y/\aA4 e0 c.S fx mov asg Za ts sk t=C (e1,c1.S)/\ga c1/\cf c1 e1 ea/\Within c c1 fx mov/\rN asg ea0 ea
theorem by9 {e0 e1:eo}{S S1:bz}{fx mov asg ts:List Nat}{sk:yj}{t:Tup sk.shs}(h:aA4 e0 S fx mov asg Za ts sk t=C (e1,S1)): ∃vs fs bs S',pj id sk (toL sk.shs t)=C (vs,fs,bs)/\vy fx fs (ku fx mov Za 0 S)=C S'/\e1=co5 (ax9 e0 asg) ts vs/\S1=S'++bs:=by
 unfold aA4 at h;split at h
 .rename_i vs fs bs he;simp only[Bool.true_or]at h;split at h
  .rename_i S' hS;injection h with h
   injection h with h1 h2
   exact⟨vs,fs,bs,S',he,hS,h1.symm,h2.symm⟩
  .cases h
 .cases h
theorem bf0 {ops:List (AOper×List Nat)}: ∀{r:List LItem} {it:LItem} {t:Nat},it∈r->bB it.kind 2=Za->(dx ops it.i).dst=C t->t∈aD1 ops r
 |a::r,it,t,h,hk,ht=>by
  simp only[aD1];rcases List.mem_cons.1 h with rfl|h
  .rw[hk,zC,ht];exact aD
  .have:=bf0 h hk ht;cases bB a.kind 2 with
   |false=>exact this
   |true=>exact List.mem_append.2 (.inr this)
theorem df {α γ:Type}(f:α->Option (α⊕γ))(n:Nat)(a:α):ca f (n+1) a=(f a).bind λs=>ck s (ca f n) C:=rfl
theorem bc1 {f:(AExit->dn->Hp->Prop)->dn->Hp->Prop}(hf: ∀(Q Q':AExit->dn->Hp->Prop),(∀x e Y,Q x e Y->Q' x e Y)->∀e Y,f Q e Y->f Q' e Y){Q:AExit->dn->Hp->Prop}:
  ∀(n m:Nat) (e:dn) (Y:Hp),n<=m->kM f Q n e Y->kM f Q m e Y
 |0,_,_,_,_,h=>h.elim
 |n+1,0,_,_,hm,_=>absurd hm (Nat.not_succ_le_zero _)
 |n+1,m+1,e,Y,hm,h=>by
  simp only[kM]at h⊢;refine hf _ _ (λx e' Y' hx=> ?_) e Y h;cases x with
  |normal=>exact bc1 hf n m e' Y' (Nat.le_of_succ_le_succ hm) hx
  |exit id=>exact hx
  |ret=>exact hx
theorem aT5 {b:AC}(ih: ∀(at':AT) {β:Type} {y:β} {c:Ctx} {e:eo} {ea:dn} {k:AExit->eo->bz->Option β},ga c->cf c e ea->eval tab b at' β e c.S k=C y->wC (iu tab) b (rY c k y) ea c.Y):
  ∀(at':AT) {β:Type} {y:β} {c:Ctx} {e:eo} {ea:dn} {k:AExit->eo->bz->Option β},ga c->cf c e ea->bv4 (eval tab b) at' β e c.S k=C y->kM (wC (iu tab) b) (rY c k y) at'.rounds ea c.Y
 | .n l r,β,y,c,e,ea,k,hR,he,h=>by
  simp only[bv4]at h;have h1:=ih l hR he h;simp only[AT.rounds,kM];refine ia (cy tab) b _ _ (λx ea' Y' hx=> ?_) ea c.Y h1;obtain⟨e',c',h2,h3,h4,h5,h6⟩:=hx;subst h2;cases x with
  |normal=>exact aB7 (ia (cy tab) b) (λx ea'' Y'' hp=>rP.of h3 hp) _ _ _ (aT5 ih r h4 h5 h6)
  |exit i=>exact⟨e',c',rfl,h3,h4,h5,h6⟩
  |ret=>exact⟨e',c',rfl,h3,h4,h5,h6⟩
 | .sz m l r,β,y,c,e,ea,k,hR,he,h=>by
  simp only[bv4]at h;simp only[AT.rounds];cases hm:bB m c.S.length with
  |true=>
   rw[hm]at h;exact bc1 (ia (cy tab) b) _ _ _ _ (Nat.le_add_right _ _) (aT5 ih l hR he h)
  |false=>
   rw[hm]at h;exact bc1 (ia (cy tab) b) _ _ _ _ (Nat.le_add_left _ _) (aT5 ih r hR he h)
 | .no,_,_,_,_,_,_,_,_,h=>by cases h
 | .lp _ _ _ _,_,_,_,_,_,_,_,_,h=>by cases h
 | .jn _ _ _ _ _,_,_,_,_,_,_,_,_,h=>by cases h
 | .dr _,_,_,_,_,_,_,_,_,h=>by cases h
theorem rh : ∀(ac:AC) (at':AT) {β:Type} {y:β} {c:Ctx} {e:eo} {ea:dn} {k:AExit->eo->bz->Option β},ga c->cf c e ea->eval tab ac at' β e c.S k=C y->wC (iu tab) ac (rY c k y) ea c.Y
 | .skip,_,_,_,c,e,ea,k,hR,he,h=>⟨e,c,rfl,Le.refl c,hR,he,h⟩
 | .exit i,_,_,_,c,e,ea,k,hR,he,h=>⟨e,c,rfl,Le.refl c,hR,he,h⟩
 | .ret,_,_,_,c,e,ea,k,hR,he,h=>⟨e,c,rfl,Le.refl c,hR,he,h⟩
 | .region ops,_,_,_,c,e,ea,k,hR,he,h=>bt9 hR he h
 | .sched its,_,_,_,c,e,ea,k,hR,he,h=>aL5 hR he .nil h
 | .draw ops,at',_,y,c,e,ea,k,hR,he,h=>by
  simp only[eval]at h;split at h
  .rename_i L _;obtain⟨hg,h⟩:=ce h;rw[aB]at hg;refine bZ9 hR ops.length (pd:=λ_=>0) hg.1 ⟨Le.refl c,hR,aC1 he (rN.refl _ ea), .nil,rfl,rfl,λb=>⟨.inl,λh=> ?_⟩,List.nodup_nil,(λ_ _ h=>by cases h),(λ_ h=>by cases h),(λ_ h=>by cases h),λit hit hk t ht=> ?_,hg.2⟩ h
   .rcases h with h|⟨_,h,_⟩
    .exact h
    .cases h
   .rcases @aY1 (aD1 ops (am2 ops L L [])) e t with h1|⟨h1,_⟩
    .exact h1
    .exact(h1 (bf0 hit hk ht)).elim
  .cases h
 | .seq a b,at',β,y,c,e,ea,k,hR,he,h=>by
  have plain: ∀l r,(eval tab a l β e c.S λx e' S'=>match x with
    | .normal=>eval tab b r β e' S' k
    |x=>k x e' S')=C y->wC (iu tab) (.seq a b) (rY c k y) ea c.Y:=by
   intro l r h1;refine ia (cy tab) a _ _ (λx ea' Y' hx=> ?_) ea c.Y (rh a l hR he h1);obtain⟨e',c',h2,h3,h4,h5,h6⟩:=hx;subst h2;cases x with
   |normal=>exact ia (cy tab) b _ _ (λx ea'' Y'' hp=>rP.of h3 hp) _ _ (rh b r h4 h5 h6)
   |exit i=>exact⟨e',c',rfl,h3,h4,h5,h6⟩
   |ret=>exact⟨e',c',rfl,h3,h4,h5,h6⟩
  simp only[eval]at h;split at h
  .rename_i fx mov exits l r _;obtain⟨hg,h⟩:=ce h;rw[aB]at hg;obtain⟨s,h1,h2⟩:=bx h;have hfz:tI c.S (ku (fx++mov) [] Za 0 c.S):=cu3;have hR1:ga ⟨c.Z,ku (fx++mov) [] Za 0 c.S,c.Y,c.fb⟩:=hfz.rel hR
   have hw:Within c ⟨c.Z,ku (fx++mov) [] Za 0 c.S,c.Y,c.fb⟩ fx mov:=by
    refine⟨hfz.le,λq hq hn hm=> ?_,λ_ _ _ _ _ _ _ _ hy=>hy⟩;show bu (ku (fx++mov) [] Za 0 c.S) q=_;rw[mz hq];simp only[mG,zD,bD];rcases hm with hm|hz
    .rw[kv (by simp[hn,hm])];rfl
    .cases mG q (fx++mov)with
     |true=>exact(af1 hz).symm
     |false=>rfl
   have h3:=vB (cy tab) (as:=ll a) (e0:=ea) a hg.2 (λt ht=>ht) (rN.refl _ ea) (rh a l (c:=⟨c.Z,ku (fx++mov) [] Za 0 c.S,c.Y,c.fb⟩) hR1 (he.frame hfz.le) h1);refine ia (cy tab) a _ _ (λx ea' Y' hx=> ?_) ea c.Y h3;obtain⟨hk,e',c',h4,h5,h6,h7,h8⟩:=hx;subst h4;have h9:=ca7 hR he h6 hw hR1 h5 hg.1 hk h7 h8 h2;cases x with
   |normal=>
    obtain⟨e2,c2,g1,g2,g3,g4,g5⟩:=h9;rw[<-g1];exact ia (cy tab) b _ _ (λx ea'' Y'' hp=>rP.of g2 hp) _ _ (rh b r g3 g4 g5)
   |exit i=>exact h9
   |ret=>exact h9
  .exact plain _ _ h
  .exact plain _ _ h
 | .cond t a b,at',β,y,c,e,ea,k,hR,he,h=>by
  simp only[eval]at h;split at h
  .rename_i p hp;have ht:=da he t;rw[hp]at ht;have ht:=ht.bool_inv
   have key: ∀(e1 e2:eo) (l r:AT),cf c e1 ea∨p=Zb->cf c e2 ea∨p=Za->cond p (eval tab a l β e1 c.S k) (eval tab b r β e2 c.S k)=C y->wC (iu tab) (.cond t a b) (rY c k y) ea c.Y:=by
    intro e1 e2 l r h1 h2 h3;simp only[wC,ht];cases p with
    |true=>
     rcases h1 with h1|h1
     .exact rh a l hR h1 h3
     .cases h1
    |false=>
     rcases h2 with h2|h2
     .exact rh b r hR h2 h3
     .cases h2
   have pb: ∀(i:Nat),t= .tmp i->(cf c (pT e i (.bool Za)) ea∨p=Zb)/\(cf c (pT e i (.bool Zb)) ea∨p=Za):=by
    intro i hi;subst hi;have:=co4 he hp;cases p with
    |true=>exact⟨.inl this, .inr rfl⟩
    |false=>exact⟨.inr rfl, .inl this⟩
   split at h
   .exact key _ _ _ _ (pb _ rfl).1 (pb _ rfl).2 h
   .exact key _ _ _ _ (pb _ rfl).1 (pb _ rfl).2 h
   .exact key _ _ _ _ (.inl he) (.inl he) h
   .exact key _ _ _ _ (.inl he) (.inl he) h
  .cases h
 | .block id b,at',β,y,c,e,ea,k,hR,he,h=>by
  simp only[eval]at h;refine ia (cy tab) b _ _ (λx ea' Y' hx=> ?_) ea c.Y (rh b _ hR he h);obtain⟨e',c',h2,h3,h4,h5,h6⟩:=hx;cases x with
  |normal=>exact⟨e',c',h2,h3,h4,h5,h6⟩
  |ret=>exact⟨e',c',h2,h3,h4,h5,h6⟩
  |exit i=>
   simp only at h6⊢;cases hi:bB i id with
   |true=>
    rw[hi]at h6;rw[zE (dB hi)];exact⟨e',c',h2,h3,h4,h5,h6⟩
   |false=>
    rw[hi]at h6;rw[zF (λe=>by rw[e,Nat.beq_refl]at hi;cases hi)];exact⟨e',c',h2,h3,h4,h5,h6⟩
 | .loop b,at',β,y,c,e,ea,k,hR,he,h=>by
  simp only[eval]at h;split at h
  .rename_i fx head exits l _;obtain⟨hg,h⟩:=ce h;rw[aB,aB]at hg;obtain⟨⟨g1,g2⟩,g3⟩:=hg;split at h
   .rename_i st hd;obtain⟨t0,h1,h⟩:=bx h;obtain⟨s,h2,h3⟩:=bx h
    have round: ∀(n:Nat) (t:Tup head.sk.shs) (ea1:dn) (Y1:Hp),dE0 c e ea fx (nX st.m) (ll b) head.ts head.sk t ea1 Y1->ca (λt=>match aA4 e c.S fx (nX st.m) (ll b) Za head.ts head.sk t with
      |some (e1,S1)=>eval tab b l (Tup head.sk.shs⊕vk exits) e1 S1 λx e' S'=>(match x with
       | .normal=>(aL4 S' c.S.length fx head.sk (head.ts.map (mC e'))).bind λt=>C (.inl t)
       |x=>(vP S' c.S.length fx (λts=>ts.map (mC e')) (λy=>y.is x) exits).bind λs=>C (.inr s))
      |none=>O) n t=C s->kM (wC (iu tab) b) (rY c k y) n ea1 Y1:=by
     intro n;induction n with
     |zero=>intro t ea1 Y1 _ hl;cases hl
     |succ n ih=>
      intro t ea1 Y1 hH hl;rw[df]at hl;obtain⟨z,hl1,hl2⟩:=bx hl;obtain⟨c1,e1,q1,q2,q3,q4,q5,q6⟩:=hH;subst q1;rw[q2]at hl1;simp only at hl1;have h4:=vB (cy tab) (as:=ll b) (e0:=ea) b g3 (λt ht=>ht) q6 (rh b l q3 q4 hl1);simp only[kM];refine ia (cy tab) b _ _ (λx ea' Y' hx=> ?_) ea1 c1.Y h4;obtain⟨hk,e',c',h5,h6,h7,h8,h9⟩:=hx;subst h5;cases x with
      |normal=>
       simp only at h9⊢;obtain⟨t',h10,h11⟩:=bx h9;injection h11 with h11
       subst h11;simp only[ck]at hl2;refine ih t' ea' c'.Y ?_ hl2;obtain⟨hro,st',h12,h13⟩:=aC5 h10
       have hset: ∃e2 S2,aA4 e c.S fx (nX st.m) (ll b) Za head.ts head.sk t'=C (e2,S2):=by
        cases n with
        |zero=>cases hl2
        |succ n=>
         rw[df]at hl2;obtain⟨z',hl3,_⟩:=bx hl2;cases hz:aA4 e c.S fx (nX st.m) (ll b) Za head.ts head.sk t' with
         |none=>rw[hz]at hl3;cases hl3
         |some q=>exact⟨q.1,q.2,rfl⟩
       obtain⟨e2,S2,hset⟩:=hset;obtain⟨vs,fs,bs,S3,r1,r2,r3,r4⟩:=by9 hset;rw[h13]at r1;obtain⟨ct,u1,u2,u3,u4,u5,u6,u7,u8⟩:=do8 hR h7 q5 q3 h6 g2 hro h12 r1 (bl8 h8 _) r2;refine⟨ct,e2,u1,by rw[hset,r4,u2],u6, ?_,bN7 u5 r2 u2 λq hq hn hm hdm b' y' hb hy=> ?_,hk⟩
       .rw[r3];exact aU6 (aC1 (he.frame u5) hk) u7
       .refine(u8 q hq hn ?_).2 b' y' hb hy;obtain⟨v1,v2,v3,_⟩:=kE r2;rw[mA]at v2;rw[u2,na (by rw[v2];exact hq),v3 q hn,mz hq,bD,kv hn];rcases hm with hm|hz
        .rw[kv hm,zD,zD,zC,gp];exact hdm
        .rw[hz];cases mG q (nX st.m)with
         |true=>exact hdm
         |false=>rw[zD,zD,zC,gp];exact hdm
      |exit i=>
       simp only at h9⊢;obtain⟨s',h10,h11⟩:=bx h9;injection h11 with h11
       subst h11;simp only[ck]at hl2;injection hl2 with hl2
       subst hl2;exact ca7 hR he h7 q5 q3 h6 g2 hk h8 h10 h3
      |ret=>
       simp only at h9⊢;obtain⟨s',h10,h11⟩:=bx h9;injection h11 with h11
       subst h11;simp only[ck]at hl2;injection hl2 with hl2
       subst hl2;exact ca7 hR he h7 q5 q3 h6 g2 hk h8 h10 h3
    refine⟨dq,round dq t0 ea c.Y ?_ h2⟩
    have hset: ∃e2 S2,aA4 e c.S fx (nX st.m) (ll b) Za head.ts head.sk t0=C (e2,S2):=by
     have hb:dq=(dq-1)+1:=rfl;rw[hb,df]at h2;obtain⟨z',hl3,_⟩:=bx h2;cases hz:aA4 e c.S fx (nX st.m) (ll b) Za head.ts head.sk t0 with
     |none=>rw[hz]at hl3;cases hl3
     |some q=>exact⟨q.1,q.2,rfl⟩
    obtain⟨e2,S2,hset⟩:=hset;obtain⟨vs,fs,bs,S3,r1,r2,r3,r4⟩:=by9 hset;rw[aT9 h1]at r1;obtain⟨ct,u1,u2,u3,u4,u5,u6,u7⟩:=cI9 hR g2 g1 hd r1 (bl8 he _) r2;refine⟨ct,e2,u1,by rw[hset,r4,u2],u6, ?_,bN7 u5 r2 u2 λq hq hn hm hdm b' y' hb hy=>by rw[u1];exact hy,rN.refl _ _⟩;rw[r3];exact aU6 (aC1 (he.frame u5) (rN.refl _ _)) u7
   .cases h
  .exact⟨_,aT5 (λat'' {β y c e ea k} hR he h=>rh b at'' hR he h) at' hR he h⟩
end
end
section
open Nat renaming le_of_ble_eq_true -> aB, zero_add -> aD
theorem bm0 {c:Ctx}{e:eo}{ea:dn}(hR:ga c)(he:cf c e ea): ∀{rs:List ARes} {vs:List VV},aV1 e c.S rs=C vs->∃us,ba9 ea c.Y rs=C us/\F2 (VRel c) vs us
 |[],vs,h=>by injection h with h;subst h;exact⟨[],rfl, .nil⟩
 |r::rs,vs,h=>by
  simp only[aV1]at h;obtain⟨v,h1,h⟩:=bx h;obtain⟨vs',h2,h⟩:=bx h;injection h with h
  subst h;obtain⟨us,h3,h4⟩:=bm0 hR he h2
  have key: ∃u,bx7 ea c.Y r=C u/\VRel c v u:=by
   cases r with
   |tmp t=>
    simp only[di2]at h1;injection h1 with h1
    subst h1;exact⟨_,rfl,he t⟩
   |cell t=>
    simp only[di2]at h1;split at h1
    .rename_i b o hp;split at h1
     .rename_i es z l hb;have ht:=he t;rw[hp]at ht;cases ht with
      |ptr hk _ hd=>
       have hdim:(bu c.S b).dim=C (es,l.length):=by rw[hb];rfl
       obtain⟨bb,hm,ha⟩:=hd _ hdim;have hs:=hR.stands hdim hm;rw[hb]at hs;obtain⟨y,a,h5,h6,h7⟩:=hs.get h1;refine⟨a, ?_,h7⟩;rw[aD]at h6;simp only[bx7,ha,h5,zG,h6]
     .cases h1
    .cases h1
   |cellN t n=>
    simp only[di2]at h1;split at h1
    .rename_i b o hp;split at h1
     .rename_i es z l hb;cases hc:Nat.ble (o+n) l.length with
      |false=>rw[hc]at h1;cases h1
      |true=>
       rw[hc]at h1;injection h1 with h1
       subst h1;have ht:=he t;rw[hp]at ht;cases ht with
       |ptr hk _ hd=>
        have hdim:(bu c.S b).dim=C (es,l.length):=by rw[hb];rfl
        obtain⟨bb,hm,ha⟩:=hd _ hdim;have hs:=hR.stands hdim hm;rw[hb]at hs;obtain⟨y,as,h5,h6,h7⟩:=hs.read (aB hc);rw[aD]at h6;refine⟨.agg as.toArray, ?_, .agg (by simp only[Blk.vals]at h7;simpa using h7)⟩;simp only[bx7,ha,h5,zG,h6,Option.map_some]
     .cases h1
    .cases h1
  obtain⟨u,h5,h6⟩:=key;exact⟨u::us,by simp only[ba9,h5,h3], .cons h6 h4⟩
theorem ce5 {c:Ctx}{vs:List VV}{us:List Value}(h:F2 (VRel c) vs us):VRel c (cr9 vs) (zT us):=by
 cases h with
 |nil=>exact .tup .nil
 |cons h1 h2=>
  cases h2 with
  |nil=>exact h1
  |cons h2 h3=>exact .tup (by simpa using F2.cons h1 (F2.cons h2 h3))
theorem br2 {c:Ctx}{vs:List VV}{as:List Value}(h:F2 (VRel c) vs as):cf c vs (dn.of as):=by
 intro t
 have hg: ∀(l:List VV) (i:Nat),mC l i=(l[i]?).getD .undef:=by
  intro l;induction l with
  |nil=>intro i;simp[mC]
  |cons a l ih=>intro i;cases i with
   |zero=>simp[mC]
   |succ i=>simp[mC,ih]
 rw[hg];unfold dn.of;cases hv:vs[t]? with
 |none=>exact .undef _
 |some v=>
  obtain⟨a,h1,h2⟩:=h.get t v hv;rw[h1];exact h2
theorem br6 : ∀{n q:Nat},q<n->q∈br5 n
 |n+1,q,h=>by
  by_cases e:q=n
  .subst e;exact List.mem_cons_self
  .exact List.mem_cons_of_mem _ (br6 (by omega))
theorem cY0 {P:Program}{f:FuncId}{tab:Tab}{vals:List Sk}{objs:List OSk}{outs:List Alt}{at':AT}{run:Tup (yj.shs ⟨vals,[],objs⟩)->Option (vk outs)}(ht:jW P tab.fs)(hi:br P tab.is)
  (he: ∀t o,run t=C o->bu0 P f tab vals objs outs at' t=C o):wv P ⟨f,vals,objs,outs,run⟩:=by
 intro B Z Y w args cargs K hs hR0 ha;obtain⟨c,vals',st,t,o,p,v,fs,bs,S',h1,hR,hf,hd,hl,hcut,hok,hrun,hp,henc,hS,hK⟩:=hs;subst h1;have hev:=he t o hrun;unfold bu0 at hev;split at hev
 .rename_i af vs fs0 S0 htr hen;obtain⟨hg,hev⟩:=ce hev;refine cC9 htr (cy tab) (aA8 ht hi) B Z c.Y w args cargs K ?_ hR0 ha;have htl:toL (yj.shs ⟨vals,[],objs⟩) t=st.ls:=aT9 hl;rw[htl]at hen;obtain⟨hE,hfv⟩:=enter hR rfl hd hen hf;have hlen:args.length<=af.ntmps:=by rw[<-hfv.length];exact aB hg
  refine⟨hlen, ?_⟩;obtain⟨l1,l2⟩:=hE.len;have hbody:=rh af.body at' (c:=mf c st S0) hE.rel (br2 hfv) hev;refine ia (cy tab) af.body _ _ (λx ea Y' hx=> ?_) _ _ hbody;obtain⟨e',c',h2,h3,h4,h5,h6⟩:=hx;subst h2
  have fin:(match aV1 e' c'.S af.results with
    |some rs=>vP c'.S S0.length (tC objs 0) (λ_=>[cr9 rs]) (λ_=>Za) outs
    |none=>O)=C o->(match ba9 ea c'.Y af.results with
    |some vs=>K (zT vs) c'.Y
    |none=>False):=by
   intro h7;split at h7
   .rename_i rs hrs;obtain⟨us,h8,h9⟩:=bm0 h4 h5 hrs;rw[h8];simp only;obtain⟨p',q1,_,q3⟩:=aC4 h7;simp only at hp;rw[hp]at q1;injection q1 with q1
    subst q1;obtain⟨hro,st',q4,q5⟩:=aC5 q3;obtain⟨ap1,_⟩:=pi hd;have hnd:=pg ap1;rw[List.nil_append]at hnd;simp only at henc hS hcut hok;rw[q5]at henc
    have hlent: ∀(i:Nat) (o:OSk) (x:Src),objs[i]?=C o->o.ro=Za->st.m[i]?=C (C x)->x.k∈st.lent:=by
     intro i o x g1 g2 g3;unfold nW at hd;obtain⟨st1,d1,hd⟩:=bx hd;obtain⟨st2,d2,hd⟩:=bx hd;obtain⟨st3,d3,hd⟩:=bx hd
     have:st3=st:=by
      cases hb:(aI7 ([]++nX st3.m)&&al8 ([]++kF (FSum.ins ⟨f,vals,objs,outs,run⟩).free st3.m) st3.lent)with
      |false=>rw[hb]at hd;cases hd
      |true=>rw[hb]at hd;injection hd
     subst this;exact cd2 d3 i o x g1 g2 (by rw[aD];exact g3)
    obtain⟨ct,r1,r2,r3,r4,r5,r6⟩:=bx8 hR rfl hE h3 h4 hcut hok hnd hlent hro (by rw[<-l1];exact q4) henc (.cons (ce5 h9) .nil) hS;cases r5 with
    |cons r5 _=>exact hK _ _ ⟨ct,r1,r2,r3,r4,r5,r6⟩
   .cases h7
  cases x with
  |exit i=>cases h6
  |normal=>exact fin h6
  |ret=>exact fin h6
 .cases hev
theorem dp {P:Program}{f:FuncId}{tab:List FSum}{ins:List Inl}{vals:List Sk}{objs:List OSk}{outs:List Alt}{at':AT}{run:Tup (yj.shs ⟨vals,[],objs⟩)->Option (vk outs)}(ht:jW P tab)(hi:br P ins)
  (he: ∀t,bu0 P f ⟨tab,ins⟩ vals objs outs at' t=run t):wv P ⟨f,vals,objs,outs,run⟩:=cY0 (tab:=⟨tab,ins⟩) ht hi λt o h=>(he t).trans h
theorem cX9 {P:Program}{f:FuncId}{tab:List FSum}{vals:List Sk}{objs:List OSk}{outs:List Alt}{at':AT}{run:Tup (yj.shs ⟨vals,[],objs⟩)->Option (vk outs)}(ht:jW P tab)
  (he: ∀t,bu0 P f ⟨tab,[]⟩ vals objs outs at' t=run t):wv P ⟨f,vals,objs,outs,run⟩:=dp ht (br.nil P) he
theorem cb {P:Program}{f:FuncId}{tab:List FSum}{ins:List Inl}{at':AT}(ht:jW P tab)(hi:br P ins):ct9 P ⟨f,cx P f ⟨tab,ins⟩ at'⟩:=by
 intro B Z Y w args cargs K hs hR0 ha;obtain⟨β,y,c,vals,k,h1,hR,hf,hev,hK⟩:=hs;subst h1;simp only[cx]at hev;split at hev
 .rename_i af htr;obtain⟨hg,hev⟩:=ce hev;refine cC9 htr (cy ⟨tab,ins⟩) (aA8 (tab:=⟨tab,ins⟩) ht hi) B Z c.Y w args cargs K ?_ hR0 ha;have hlen:args.length<=af.ntmps:=by rw[<-hf.length];exact aB hg
  refine⟨hlen, ?_⟩;have hbody:=rh af.body at' (c:=c) hR (br2 hf) hev;refine ia (cy ⟨tab,ins⟩) af.body _ _ (λx ea Y' hx=> ?_) _ _ hbody;obtain⟨e',c',h2,h3,h4,h5,h6⟩:=hx;subst h2
  have fin:(match aV1 e' c'.S af.results with
    |some rs=>k (cr9 rs) c'.S
    |none=>O)=C y->(match ba9 ea c'.Y af.results with
    |some vs=>K (zT vs) c'.Y
    |none=>False):=by
   intro h7;split at h7
   .rename_i rs hrs;obtain⟨us,h8,h9⟩:=bm0 h4 h5 hrs;rw[h8];exact hK _ _ ⟨cr9 rs,c',rfl,h3,h4,λq hq hn=>(hn (br6 hq)).elim,ce5 h9,h7⟩
   .cases h7
  cases x with
  |exit i=>cases h6
  |normal=>exact fin h6
  |ret=>exact fin h6
 .cases hev
def aL9 :List Alt:=[⟨.ret,[],⟨[.leaf .bool],[],[]⟩⟩]
def uf (Y:Hp):Ctx:=⟨λ_=>O,[],Y,λ_=>False⟩
theorem cw6 {Y:Hp}(h:Y.Ok):ga (uf Y):=
 ⟨h,λk k' b hz _ _ _=>(by cases hz),λk d hd=>(by cases hd),λk b hd=>(hd rfl).elim,λb hb=>hb.elim⟩
theorem aL8 {Y:Hp}(b:Nat): ¬(uf Y).mut b:=by
 rintro(⟨k,h,_⟩|h)
 .cases h
 .exact h
theorem cT6 {P:Program}{f:FuncId}{vals:List Sk}{run:Tup (yj.shs ⟨vals,[],[]⟩)->Option (vk aL9)}(h:wv P ⟨f,vals,[],aL9,run⟩){w:World}(hT:cH1 P w){rows:List Row}{args:List Value}{cargs:Array Value}{vs:List VV}{st:DSt}{t:Tup (yj.shs ⟨vals,[],[]⟩)}
  (hrows: ∀r∈rows,∀(i:Nat) (v:Value),r.cells[i]?=C v->∃v',w.cell? ⟨r.c,r.o+i,O⟩=C v'/\VR (mZ rows) v v') (hargs:F2 (VR (mZ rows)) args cargs.toList)
  (hv:F2 (VRel (uf (mD w.heap.size rows))) vs args) (hd:nW [] 0 [] ⟨vals,[],[]⟩ vs=C st) (hl:ofL _ st.ls=C t) (hr:run t=C Za):
  Calls P f cargs w λe w'=>e= .returned (.bool Za)/\Go.RowKit.Below w.heap.size w w':=by
 have hm:st.m=[]:=by
  unfold nW at hd;obtain⟨st1,d1,hd⟩:=bx hd;obtain⟨st2,d2,hd⟩:=bx hd;obtain⟨st3,d3,hd⟩:=bx hd
  have:st3=st:=by
   cases hb:(aI7 ([]++nX st3.m)&&al8 ([]++kF ([]:List OSk) st3.m) st3.lent)with
   |false=>rw[hb]at hd;cases hd
   |true=>rw[hb]at hd;injection hd
  subst this;simp only[tz]at d3;cases hb:Nat.beq 0 st2.m.length with
  |false=>rw[hb]at d3;cases d3
  |true=>
   rw[hb]at d3;injection d3 with d3
   subst d3;exact List.length_eq_zero_iff.1 (Nat.eq_of_beq_eq_true hb).symm
 refine ds6 (S:=(FSum.mk f vals [] aL9 run).spec) h hT hrows hargs ?_;refine⟨uf (mD w.heap.size rows),vs,st,t,Za,⟨⟨.ret,[],⟨[.leaf .bool],[],[]⟩⟩,Za⟩, .bool Za,[],[],cond (ao8 [.bool Za] [] []) (ap0 st.lent []) [],rfl,cw6 di4,hv,hd,hl,by rw[hm];rfl,by rw[hm];rfl,hr,rfl,rfl,by rw[hm];rfl, ?_⟩;rintro r Y' ⟨ct,_,_,_,_,hrel,_⟩;exact hrel.bool_inv
end
section
open List renaming getElem?_eq_getElem -> aB
theorem cK6 {α γ:Type}{f:α->Option (α⊕γ)}(I:α->Prop)(m:α->Nat)(Q:γ->Prop)(h: ∀a,I a->(∃b,f a=C (.inl b)/\I b/\m b<m a)∨∃c,f a=C (.inr c)/\Q c): ∀(n:Nat) (a:α),I a->m a<n->∃c,ca f n a=C c/\Q c:=by
 intro n;induction n with
 |zero=>intro a _ h1;omega
 |succ n ih=>
  intro a hI hm;rcases h a hI with⟨b,h1,h2,h3⟩|⟨c,h1,h2⟩
  .obtain⟨c,h4,h5⟩:=ih b h2 (by omega);exact⟨c,by rw[df,h1];exact h4,h5⟩
  .exact⟨c,by rw[df,h1];rfl,h2⟩
theorem lx {α γ:Type}{f:α->Option (α⊕γ)}{a:α}(I:α->Prop)(m:α->Nat)(Q:γ->Prop)(h0:I a)(hm:m a<18446744073709551616)(h: ∀a,I a->(∃b,f a=C (.inl b)/\I b/\m b<m a)∨∃c,f a=C (.inr c)/\Q c): ∃c,ca f dq a=C c/\Q c:=
 cK6 I m Q h dq a h0 hm
theorem df3 {α γ:Type}{f:α->Option (α⊕γ)}{a:α}{c:γ}(I:α->Prop)(m:α->Nat)(h0:I a)(hm:m a<18446744073709551616)(h: ∀a,I a->(∃b,f a=C (.inl b)/\I b/\m b<m a)∨f a=C (.inr c)):ca f dq a=C c:=by
 obtain⟨c',h1,h2⟩:=lx I m (· =c) h0 hm λa ha=>by
  rcases h a ha with h|h
  .exact .inl h
  .exact .inr ⟨c,h,rfl⟩
 rw[h1,h2]
theorem bv {α:Type}{p:Prop}[Decidable p]{x y:α}:cond (decide p) x y=if p then x else y:=by by_cases h:p<;>simp[h]
theorem fq {β:Type}{x:Option β}:gd Za x=x:=rfl
theorem dr2 {β:Type}{p:Prop}[Decidable p]{x:Option β}(h:p):gd (decide p) x=x:=by rw[zB h];rfl
theorem dh {β:Type}{n b:Nat}{x:Option β}(h:n*b<=140737488355328)(hb:1<=b):gd (ie n b) x=x:=by
 have:ie n b=Za:=by
  unfold ie;rw[zB h,Bool.true_and];exact Nat.ble_eq_true_of_le hb
 rw[this];rfl
theorem ci {α:Type}{l:List α}{i:Nat}(h:i<l.length):rd l (i:Int)=C l[i]:=by
 unfold rd;rw[zB (by omega),zC,Int.toNat_natCast,aB h]
theorem cc6 {α:Type}{l:List α}{i:Int}(h0:0<=i)(h:i<l.length):rd l i=C (l[i.toNat]'(by omega)):=by
 unfold rd;rw[zB h0,zC,aB (by omega)]
theorem bq {n:Int}(h: -9223372036854775808<=n/\n<=9223372036854775807):IntKind.i64.wrap n=n:=IntWalk.i64_in _ h
theorem de {α γ β:Type}{a:α}{f:α->Option β}{g:γ->Option β}:ck (.inl a) f g=f a:=rfl
theorem cn {α γ β:Type}{a:γ}{f:α->Option β}{g:γ->Option β}:ck (.inr a) f g=g a:=rfl
theorem bc8.lst {k:IntKind}{w:World}{a:Option Addr}{len cap:Nat}{zs:Zd}{rows:List Row}{j:Nat}(h:bc8 k w a len cap zs)(hr:rows[j]?=C (aV2 k a cap zs)):
  VRel (uf (mD w.heap.size rows)) (.lst (.int k) (zs.take len)) (cY1 j a len cap):=by
 rcases h with⟨rfl,rfl,rfl,rfl⟩|⟨x,rfl,hl,hm,hz,hc,hw⟩
 .exact .lstn λz hz=>by cases hz
 .by_cases h0:cap=0
  .have:len=0:=by omega
   subst h0;subst this;have:zs.take 0=([]:Zd):=rfl;rw[this];exact .lstn λz hz=>by injection hz with hz;rw[<-hz]
  .have hz0:0<zs.length:=by omega
   have hlt:x.block<w.heap.size:=bZ2 (x:=⟨x.block,x.off+0,O⟩) (ym (aE4 (hc 0 hz0)) (hc 0 hz0))
   have hm:(mD w.heap.size rows).m j=C ⟨zs.map (Value.int k),Zb,1⟩:=by
    simp only[mD,hr,zG,aV2,zE hlt]
   refine .lst (aL8 j) hm rfl (by rw[List.length_take];omega) hl ?_ ?_
   .simp only[List.length_map,Nat.zero_add];show len*1<=zs.length;omega
   .rw[List.drop_zero];show F2 _ _ ((zs.map (Value.int k)).take (len*1));rw[Nat.mul_one,<-List.map_take];generalize zs.take len=l;induction l with
    |nil=>exact .nil
    |cons n l ih=>exact .cons (.int _ _) ih
end
section
def ay3 (a:AFn)(tab:Tab)(vals:List Sk)(objs:List OSk)(outs:List Alt)(at':AT)(t:Tup (yj.shs ⟨vals,[],objs⟩)):Option (vk outs):=
 match pj id ⟨vals,[],objs⟩ (toL _ t)with
 |some (vs,_,S)=>gd (Nat.ble vs.length a.ntmps) (eval tab a.body at' (vk outs) vs S λx e S'=>match x with
  | .exit _=>O
  |_=>(match aV1 e S' a.results with
   |some rs=>vP S' S.length (tC objs 0) (λ_=>[cr9 rs]) (λ_=>Za) outs
   |none=>O))
 |_=>O
theorem bI3 {P:Program}{f:FuncId}{af:AFn}{tab:Tab}{vals:List Sk}{objs:List OSk}{outs:List Alt}{at':AT}{run:Tup (yj.shs ⟨vals,[],objs⟩)->Option (vk outs)}(ht:jW P tab.fs)(hi:br P tab.is)(htr:cr7 P f=C af)(hen0: ∀t:Tup (yj.shs ⟨vals,[],objs⟩),∃r,pj id ⟨vals,[],objs⟩ (toL _ t)=C r)
  (he: ∀t o vs fs S,run t=C o->pj id ⟨vals,[],objs⟩ (toL _ t)=C (vs,fs,S)->∀(c:Ctx) args,F2 (VRel c) vs args->
   ∃b,ay3 ⟨af.ntmps,af.results,b⟩ tab vals objs outs at' t=C o/\∀T (_:rO T) Q Y,wC T b Q (dn.of args) Y->wC T af.body Q (dn.of args) Y):wv P ⟨f,vals,objs,outs,run⟩:=by
 intro B Z Y w args cargs K hs hR0 ha;obtain⟨c,vals',st,t,o,p,v,fs,bs,S',h1,hR,hf,hd,hl,hcut,hok,hrun,hp,henc,hS,hK⟩:=hs;subst h1;have htl:toL (yj.shs ⟨vals,[],objs⟩) t=st.ls:=aT9 hl;cases hen:pj id ⟨vals,[],objs⟩ (toL (yj.shs ⟨vals,[],objs⟩) t)with
 |none=>
  obtain⟨r,q⟩:=hen0 t;rw[hen]at q;cases q
 |some tr=>
 obtain⟨vs,fs0,S0⟩:=tr;refine cC9 htr (cy tab) (aA8 ht hi) B Z c.Y w args cargs K ?_ hR0 ha;have hen':=hen;rw[htl]at hen;obtain⟨hE,hfv⟩:=enter hR rfl hd hen hf;obtain⟨bd,hev,himp⟩:=he t o vs fs0 S0 hrun hen' _ _ hfv;unfold ay3 at hev;rw[hen']at hev;obtain⟨hg,hev⟩:=ce hev;have hlen:args.length<=af.ntmps:=by rw[<-hfv.length];exact Nat.le_of_ble_eq_true hg
 refine⟨hlen,himp _ (cy tab) _ _ ?_⟩;obtain⟨l1,l2⟩:=hE.len;have hbody:=rh bd at' (c:=mf c st S0) hE.rel (br2 hfv) hev;refine ia (cy tab) bd _ _ (λx ea Y' hx=> ?_) _ _ hbody;obtain⟨e',c',h2,h3,h4,h5,h6⟩:=hx;subst h2
 have fin:(match aV1 e' c'.S af.results with
   |some rs=>vP c'.S S0.length (tC objs 0) (λ_=>[cr9 rs]) (λ_=>Za) outs
   |none=>O)=C o->(match ba9 ea c'.Y af.results with
   |some vs=>K (zT vs) c'.Y
   |none=>False):=by
  intro h7;split at h7
  .rename_i rs hrs;obtain⟨us,h8,h9⟩:=bm0 h4 h5 hrs;rw[h8];simp only;obtain⟨p',q1,_,q3⟩:=aC4 h7;simp only at hp;rw[hp]at q1;injection q1 with q1
   subst q1;obtain⟨hro,st',q4,q5⟩:=aC5 q3;obtain⟨ap1,_⟩:=pi hd;have hnd:=pg ap1;rw[List.nil_append]at hnd;simp only at henc hS hcut hok;rw[q5]at henc
   have hlent: ∀(i:Nat) (o:OSk) (x:Src),objs[i]?=C o->o.ro=Za->st.m[i]?=C (C x)->x.k∈st.lent:=by
    intro i o x g1 g2 g3;unfold nW at hd;obtain⟨st1,d1,hd⟩:=bx hd;obtain⟨st2,d2,hd⟩:=bx hd;obtain⟨st3,d3,hd⟩:=bx hd
    have:st3=st:=by
     cases hb:(aI7 ([]++nX st3.m)&&al8 ([]++kF (FSum.ins ⟨f,vals,objs,outs,run⟩).free st3.m) st3.lent)with
     |false=>rw[hb]at hd;cases hd
     |true=>rw[hb]at hd;injection hd
    subst this;exact cd2 d3 i o x g1 g2 (by rw[Nat.zero_add];exact g3)
   obtain⟨ct,r1,r2,r3,r4,r5,r6⟩:=bx8 hR rfl hE h3 h4 hcut hok hnd hlent hro (by rw[<-l1];exact q4) henc (.cons (ce5 h9) .nil) hS;cases r5 with
   |cons r5 _=>exact hK _ _ ⟨ct,r1,r2,r3,r4,r5,r6⟩
  .cases h7
 cases x with
 |exit i=>cases h6
 |normal=>exact fin h6
 |ret=>exact fin h6
def cv1 (es bytes:Nat)(z:List Value)(c:AOp)(n:AOp):AC:=
 .seq (.region [⟨C 2, .move (.const (.slice O 0 0)),O⟩]) (.seq (.seq (.region [⟨C 3, .move (.tmp 0),O⟩,⟨C 4,c,O⟩]) (.cond (.tmp 4) (.seq (.region [⟨C 2,n,O⟩]) .ret) .skip))
  (.seq (.region [⟨C 5, .buildSlice es 0 z [],O⟩,⟨C 6, .move (.tmp 0),O⟩,⟨C 7, .append es bytes (.tmp 5) (.tmp 6),O⟩,⟨C 2, .move (.tmp 7),O⟩]) .ret))
def bZ4 (es bytes:Nat)(z:List Value):AFn:=⟨8,[.tmp 2],cv1 es bytes z (.eqv 2 Zb (.tmp 3) (.const (.slice O 0 0))) (.move (.const (.slice O 0 0)))⟩
def db9 (es bytes:Nat)(z:List Value):AFn:=⟨8,[.tmp 2],cv1 es bytes z (.move (.const (.bool Zb))) (.move (.const (.slice O 0 0)))⟩
def cR4 (es bytes:Nat)(z:List Value):AFn:=⟨8,[.tmp 2],cv1 es bytes z (.move (.const (.bool Za))) (.append es bytes (.const (.slice O 0 0)) (.tmp 0))⟩
def yn (s:Sh):List Alt:=[⟨.ret,[],⟨[.full 0],[],[.arr Zb s]⟩⟩]
theorem ay0 {P:Program}{f:FuncId}{es bytes:Nat}{z:List Value}{s:Sh}(htr:cr7 P f=C (bZ4 es bytes z))
  (h0: ∀t:Tup (yj.shs ⟨[.leaf (.list s)],[],[]⟩),pj id ⟨[.leaf (.list s)],[],[]⟩ (toL _ t)=C ([.lst s t],[],[]))
  (h1: ∀l:List (El s),ay3 (db9 es bytes z) ⟨[],[]⟩ [.leaf (.list s)] [] (yn s) .no l=gd (ie (0+l.length) bytes) (C l))
  (h2:ay3 (cR4 es bytes z) ⟨[],[]⟩ [.leaf (.list s)] [] (yn s) .no ([]:List (El s))=gd (ie (0+0) bytes) (C ([]:List (El s)))):
  wv P ⟨f,[.leaf (.list s)],[],yn s,λl:List (El s)=>gd (ie (0+l.length) bytes) (C l)⟩:=by
 refine bI3 (at':= .no) (tab:=⟨[],[]⟩) (jW.nil P) (br.nil P) htr (λt=>⟨_,h0 t⟩) λt o vs fs S hrun hen c args ha=> ?_
 have hvs:vs=[.lst s t]:=by
  rw[h0 t]at hen;injection hen with hen
  injection hen with hen
  exact hen.symm
 subst hvs;cases ha with
 |cons ha hb=>
 cases hb
 have no: ∀q n cp (args:List Value),args=[.slice (C q) n cp]->∃b,ay3 ⟨(bZ4 es bytes z).ntmps,(bZ4 es bytes z).results,b⟩ ⟨[],[]⟩ [.leaf (.list s)] [] (yn s) .no t=C o/\
   ∀T (_:rO T) Q Y,wC T b Q (dn.of args) Y->wC T (bZ4 es bytes z).body Q (dn.of args) Y:=by
  rintro q n cp args rfl;exact⟨_,(h1 t).trans hrun,λT _ Q Y h=>h⟩
 cases ha with
 | @lst s l b p n cp y h3 h4 h5 h6 h7 h8 h9=>exact no _ _ _ _ rfl
 | @lstn s q h3=>
  cases q with
  |some q=>exact no _ _ _ _ rfl
  |none=>exact⟨_,h2.trans hrun,λT _ Q Y h=>h⟩
theorem an0 {P:Program}{f:FuncId}{vals:List Sk}{objs:List OSk}{outs:List Alt}{run:Tup (yj.shs ⟨vals,[],objs⟩)->Option (vk outs)}(h: ∀t,run t=O):wv P ⟨f,vals,objs,outs,run⟩:=by
 intro B Z Y w args cargs K hs;obtain⟨c,vals',st,t,o,p,v,fs,bs,S',h1,hR,hf,hd,hl,hcut,hok,hrun,_⟩:=hs;have hrun:run t=C o:=hrun;rw[h t]at hrun;cases hrun
end
open Go.Ab Go.ChangeShapes Go.WideShapes
section
theorem cK3 {P:Program}{f:FuncId}{vals:List Sk}{run:Tup (yj.shs ⟨vals,[],[]⟩)->Option (vk aL9)}(h:wv P ⟨f,vals,[],aL9,run⟩){w:World}(hT:cH1 P w){rows:List Row}{args:List Value}{cargs:Array Value}{vs:List VV}(t:Tup (yj.shs ⟨vals,[],[]⟩))
  (hrows: ∀r∈rows,∀(i:Nat) (v:Value),r.cells[i]?=C v->∃v',w.cell? ⟨r.c,r.o+i,O⟩=C v'/\VR (mZ rows) v v') (hargs:F2 (VR (mZ rows)) args cargs.toList)
  (hv:F2 (VRel (uf (mD w.heap.size rows))) vs args) (hd:((nW [] 0 [] ⟨vals,[],[]⟩ vs).bind λst=>ofL _ st.ls)=C t) (hr:run t=C Za):
  Calls P f cargs w λe w'=>e= .returned (.bool Za)/\Go.RowKit.Below w.heap.size w w':=by
 obtain⟨st,h1,h2⟩:=bx hd;exact cT6 h hT hrows hargs hv h1 h2 hr
end
section
open Int renaming tmod -> aB, tmod_lt_of_pos -> aD
theorem nL {α δ:Type}{f:α->Option (α⊕δ)}{n:Nat}(F:Nat->α){c:δ}(hn:n<9223372036854775808)(hs: ∀i,i<n->f (F i)=C (.inl (F (i+1))))(he:f (F n)=C (.inr c)):ca f dq (F 0)=C c:=by
 have key: ∀k i m,i+k=n->k<m->ca f m (F i)=C c:=by
  intro k;induction k with
  |zero=>
   intro i m h1 h2;obtain⟨m,rfl⟩: ∃m',m=m'+1:=⟨m-1,by omega⟩
   have:i=n:=by omega
   subst this;show(f (F i)).bind _=_;rw[he];rfl
  |succ k ih=>
   intro i m h1 h2;obtain⟨m,rfl⟩: ∃m',m=m'+1:=⟨m-1,by omega⟩
   show(f (F i)).bind _=_;rw[hs i (by omega)];exact ih (i+1) m (by omega) (by omega)
 exact key n 0 dq (by omega) (by unfold dq;omega)
theorem ff {γ δ:Type}{f:(Int×γ)->Option ((Int×γ)⊕δ)}{n:Nat}(F:Nat->γ){c:δ}(hn:n<9223372036854775808)(hs: ∀i,i<n->f ((i:Int),F i)=C (.inl (((i+1:Nat):Int),F (i+1))))(he:f ((n:Int),F n)=C (.inr c)):ca f dq (0,F 0)=C c:=
 nL (λi=>((i:Int),F i)) hn hs he
theorem ug {δ:Type}{f:Int->Option (Int⊕δ)}{n:Nat}{c:δ}(hn:n<9223372036854775808)(hs: ∀i:Nat,i<n->f (i:Int)=C (.inl ((i+1:Nat):Int)))(he:f (n:Int)=C (.inr c)):ca f dq 0=C c:=
 nL (λi=>(i:Int)) hn hs he
theorem aZ8 {α γ δ:Type}{f:(Int×γ)->Option ((Int×γ)⊕δ)}{l:List α}(g:γ->α->γ)(s:γ){c:γ->δ}(hn:l.length<9223372036854775807)
  (hs: ∀(i:Nat) (h:i<l.length) s,f ((i:Int),s)=C (.inl (((i+1:Nat):Int),g s l[i]))) (he: ∀s,f ((l.length:Int),s)=C (.inr (c s))):ca f dq (0,s)=C (c (l.foldl g s)):=by
 have h:=ff (f:=f) (n:=l.length) (λi=>(l.take i).foldl g s) (c:=c (l.foldl g s)) (by omega) ?_ ?_
 .exact h
 .intro i hi;rw[hs i hi,List.take_succ_eq_append_getElem hi,List.foldl_append];rfl
 .rw[he,List.take_length]
theorem cw8 {γ δ:Type}{f:(Int×γ)->Option ((Int×γ)⊕δ)}(F:Nat->γ)(n:Nat)(hn:n<9223372036854775808)(stop:Nat->Prop)[DecidablePred stop](c:Nat->δ)
  (hs: ∀i,i<n->¬stop i->(∀j,j<i->¬stop j)->f ((i:Int),F i)=C (.inl (((i+1:Nat):Int),F (i+1)))) (hx: ∀i,i<n->stop i->(∀j,j<i->¬stop j)->f ((i:Int),F i)=C (.inr (c i))) (e:δ) (he:(∀j,j<n->¬stop j)->f ((n:Int),F n)=C (.inr e)):
  (∃i,i<n/\stop i/\(∀j,j<i->¬stop j)/\ca f dq (0,F 0)=C (c i))∨((∀j,j<n->¬stop j)/\ca f dq (0,F 0)=C e):=by
 by_cases h: ∃i,i<n/\stop i
 .obtain⟨i,h1,h2⟩:=h
  have hex: ∃i,i<n/\stop i/\∀j,j<i->¬stop j:=by
   induction i using Nat.strongRecOn with
   |ind i ih=>
    by_cases hj: ∃j,j<i/\stop j
    .obtain⟨j,h3,h4⟩:=hj;exact ih j h3 (by omega) h4
    .exact⟨i,h1,h2,λj h h3=>hj ⟨j,h,h3⟩⟩
  obtain⟨i,h1,h2,h3⟩:=hex;exact .inl ⟨i,h1,h2,h3,ff F (n:=i) (by omega) (λj hj=>hs j (by omega) (h3 j hj) λk hk=>h3 k (by omega)) (hx i h1 h2 h3)⟩
 .have h': ∀j,j<n->¬stop j:=λj hj hs=>h ⟨j,hj,hs⟩
  exact .inr ⟨h',ff F hn (λj hj=>hs j hj (h' j hj) λk hk=>h' k (by omega)) (he h')⟩
theorem bN8 (n:Int):IntKind.u64.wrap n=n % 18446744073709551616:=by rfl
theorem bc2 {n:Nat}(h:n<9223372036854775808):IntKind.u64.wrap (n:Int)=n:=by
 rw[bN8];omega
theorem nZ {n:Int}(h:0<=n/\n<18446744073709551616):IntKind.u64.wrap n=n:=by
 rw[bN8];omega
theorem aU7 {l:Zd}{i:Nat}(h:i<l.length):rd l (i:Int)=C (l.getD i 0):=by
 rw[ci h,List.getD_eq_getElem?_getD,List.getElem?_eq_getElem h];rfl
theorem cl {k n:Nat}(h:k<n):ix (k:Int) n=C k:=by
 unfold ix;rw[zB (show(0:Int)<=k by omega),zB (show(k:Int)<n by omega)];rfl
theorem lF {a b:Int}{n:Nat}(h:0<=a/\a<=b/\b<=n):lq a b n=Za:=by
 unfold lq;rw[zB h.1,zB h.2.1,zB h.2.2];rfl
theorem cG3 {a b:Int}(h:0<=a):Int.tdiv a b=a / b:=Int.tdiv_eq_ediv_of_nonneg h
theorem spot {L:Nat}(h0:0<L)(hL:L<=1000000){a:Int}(ha: -9223372036854775808<=a/\a<=9223372036854775807): ∃k:Nat,k<L/\aB (IntKind.i64.wrap (aB a (L:Int)+(L:Int))) (L:Int)=(k:Int):=by
 have hp:(0:Int)<(L:Int):=by omega
 have h1:=aD a hp;have h2:=Int.lt_tmod_of_pos a hp;rw[bq (by omega)];have h3:=Int.tmod_nonneg (L:Int) (show 0<=aB a (L:Int)+(L:Int)by omega);have h4:=aD (aB a (L:Int)+(L:Int)) hp;exact⟨(aB (aB a (L:Int)+(L:Int)) (L:Int)).toNat,by omega,by omega⟩
end
end Go.V
