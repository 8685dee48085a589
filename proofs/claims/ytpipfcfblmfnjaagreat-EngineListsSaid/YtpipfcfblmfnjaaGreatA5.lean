/- A part of the proofs of this claim: what functions of the program answer on an abstract machine, and plain laws. No condition. -/
import Derived.Test.YtpipfcfblmfnjaaGreatA4
import Derived.Test.YtpipfcfblmfnjaaGreatA2
import Derived.IntWalk
import Derived.KernelRfl
import Derived.WideKeyArr2
import Derived.RowKit
set_option linter.unusedVariables false
set_option linter.unusedSimpArgs false
set_option linter.unusedSectionVars false
namespace Go.V
open Go.Ab
section
open List renaming getElem?_eq_getElem → aB, nodup_nil → aD, getElem?_eq_none → aW, mem_cons_self → aX
theorem bh9 : ∀{m:List (Option Src)},bh8 m=true→∀(i:Nat) (x:Option Src),m[i]?=some x→∃k,x=some ⟨k,none⟩
 |[],_,i,x,h=>by simp at h
 |none::_,h,_,_,_=>by cases h
 |some ⟨k,some n⟩::_,h,_,_,_=>by cases h
 |some ⟨k,none⟩::r,h,0,x,hx=>by simp at hx;exact⟨k,hx.symm⟩
 |some ⟨k,none⟩::r,h,i+1,x,hx=>bh9 (m:=r) h i x (by simpa using hx)
theorem aB6 : ∀{os:List OSk} {i j:Nat},j∈pT os i↔∃p o,os[p]?=some o∧o.ro=false∧j=i+p
 |[],i,j=>by simp[pT]
 |o::os,i,j=>by
  simp only[pT];have ih:= @aB6 os (i+1) j;constructor
  ·intro h;cases hr:o.ro with
   |true=>
    rw[hr,zC]at h;obtain⟨p,o',h1,h2,h3⟩:=ih.1 h;exact⟨p+1,o',by simpa using h1,h2,by omega⟩
   |false=>
    rw[hr,zD]at h;rcases List.mem_cons.1 h with h|h
    ·exact⟨0,o,rfl,hr,by omega⟩
    ·obtain⟨p,o',h1,h2,h3⟩:=ih.1 h;exact⟨p+1,o',by simpa using h1,h2,by omega⟩
  ·rintro⟨p,o',h1,h2,h3⟩;cases p with
   |zero=>
    simp at h1;subst h1;rw[h2,zD];exact List.mem_cons.2 (.inl (by omega))
   |succ p=>
    have:=ih.2 ⟨p,o',by simpa using h1,h2,by omega⟩;cases o.ro with
    |true=>exact this
    |false=>exact List.mem_cons_of_mem _ this
theorem bg4 : ∀{os:List OSk} {m:List (Option Src)} {i:Nat} {f:Nat→Nat},os.length=m.length→(∀(p:Nat) (x:Option Src),m[p]?=some x→∃k,x=some ⟨k,none⟩∧f (i+p)=k)→(pT os i).map f=iE os m
 |[],[],i,f,_,_=>rfl
 |[],_::_,_,_,h,_=>by simp at h
 |_::_,[],_,_,h,_=>by simp at h
 |o::os,x::m,i,f,h,hf=>by
  obtain⟨k,h1,h2⟩:=hf 0 x rfl;subst h1
  have ih:= @bg4 os m (i+1) f (by simpa using h) fun p y hy=>by
   obtain⟨k',h3,h4⟩:=hf (p+1) y (by simpa using hy);exact⟨k',h3,by rw[←h4];congr 1;omega⟩
  simp only[pT,iE];cases o.ro with
  |true=>exact ih
  |false=>
   simp only[zD,List.map_cons,ih];rw[Nat.add_zero]at h2;rw[h2]
theorem ah5 : ∀{os:List OSk} {m:List (Option Src)} {k:Nat},k∈iE os m→∃(i:Nat) (o:OSk) (x:Src),m[i]?=some (some x)∧os[i]?=some o∧o.ro=false∧x.k=k
 |[],[],k,h=>by simp[iE]at h
 |[],_::_,k,h=>by simp[iE]at h
 |_::_,[],k,h=>by simp[iE]at h
 |o::os,none::m,k,h=>by
  obtain⟨i,o',x,h1,h2,h3,h4⟩:=ah5 (os:=os) (m:=m) h;exact⟨i+1,o',x,by simpa using h1,by simpa using h2,h3,h4⟩
 |o::os,some x::m,k,h=>by
  simp only[iE]at h;cases hr:o.ro with
  |true=>
   rw[hr,zC]at h;obtain⟨i,o',x',h1,h2,h3,h4⟩:=ah5 (os:=os) (m:=m) h;exact⟨i+1,o',x',by simpa using h1,by simpa using h2,h3,h4⟩
  |false=>
   rw[hr,zD]at h;rcases List.mem_cons.1 h with h|h
   ·exact⟨0,o,x,rfl,rfl,hr,h.symm⟩
   ·obtain⟨i,o',x',h1,h2,h3,h4⟩:=ah5 (os:=os) (m:=m) h;exact⟨i+1,o',x',by simpa using h1,by simpa using h2,h3,h4⟩
theorem aU9 : ∀{m:List (Option Src)} {k:Nat},k∈lC m→∃(i:Nat) (x:Src),m[i]?=some (some x)∧x.k=k
 |[],k,h=>by simp[lC]at h
 |none::m,k,h=>by
  obtain⟨i,x,h1,h2⟩:=aU9 (m:=m) h;exact⟨i+1,x,by simpa using h1,h2⟩
 |some x::m,k,h=>by
  rcases List.mem_cons.1 h with h|h
  ·exact⟨0,x,rfl,h.symm⟩
  ·obtain⟨i,x',h1,h2⟩:=aU9 (m:=m) h;exact⟨i+1,x',by simpa using h1,h2⟩
theorem qI : ∀{os:List OSk} {m:List (Option Src)},(lC m).Nodup→(iE os m).Nodup
 |[],[],_=>aD
 |[],_::_,_=>aD
 |_::_,[],_=>aD
 |o::os,none::m,h=>qI (os:=os) (m:=m) h
 |o::os,some x::m,h=>by
  have h1:=List.nodup_cons.1 h;have ih:=qI (os:=os) h1.2;simp only[iE];cases o.ro with
  |true=>exact ih
  |false=>
   refine List.nodup_cons.2 ⟨fun h2=>h1.1 ?_,ih⟩;obtain⟨i,o',x',h3,_,_,h4⟩:=ah5 h2;rw[←h4];exact uo h3
theorem bu8 {S:co}{N:Nat}: ∀{os:List OSk} {i:Nat} {st st1:DSt},pP S N os i st=some st1→∀(p:Nat) (o:OSk) (x:Src),os[p]?=some o→o.ro=true→st1.m[i+p]?=some (some x)→x.k∈st1.lent
 |[],i,st,st1,h,p,o,x,ho,_,_=>by simp at ho
 |o'::os,i,st,st1,h,p,o,x,ho,hr,hx=>by
  simp only[pP]at h;split at h
  ·rename_i y hy;obtain⟨st2,h1,h2⟩:=cm h;cases p with
   |succ p=>exact bu8 h2 p o x (by simpa using ho) hr (by rw[←hx];congr 1;omega)
   |zero=>
    simp at ho;subst ho;obtain⟨t1,t2⟩:=(av3 h1).m;obtain⟨t3,t4⟩:=(mE h2).m
    have hx':st1.m[i]?=some y:=by
     rw[←sm,t4,t2];exact aw7 (aw7 hy)
    rw[Nat.add_zero,hx']at hx;injection hx with hx
    subst hx;refine(mE h2).lent _ ?_;unfold bL5 at h1;split at h1
    ·cases hr
    ·rename_i hxx;injection hxx with hxx
     subst hxx;split at h1
     ·rename_i es ro l k _ es' fz cs hb;simp only[OSk.ro]at hr;subst hr;cases hk:(Nat.beq es es'&&(true|| !fz))with
      |false=>rw[hk]at h1;cases h1
      |true=>
       rw[hk,zC]at h1;exact(pQ _ _ _ _ h1).lent _ aX
     ·cases h1
    ·rename_i hxx;cases hxx
    ·rename_i hxx;injection hxx with hxx
     subst hxx;rename_i ro s cut _ _;simp only[OSk.ro]at hr;subst hr;cases hk:(true|| !(cl S _).frozen)with
     |false=>rw[hk]at h1;cases h1
     |true=>
      rw[hk,zC]at h1;obtain⟨l,h3,h4⟩:=cm h1;injection h4 with h4
      subst h4;exact aX
    ·cases h1
  ·cases h
def jx (c:Ctx)(st:DSt)(bs:List Blk):Ctx:=⟨fun i=>match st.m[i]? with
 |some x=>wR c x
 |none=>none,bs,c.σ,fun b=>c.mut b∧¬∃k,(k∈lC st.m∨k∈st.lent)∧(cl c.S k).dim≠none∧c.μ k=some b⟩
structure Entered (c c0:Ctx)(objs:List OSk)(st:DSt)(bs:List Blk):Prop where
 rel:eI c0
 sub: ∀i,(cl c0.S i).dim≠none→∃x,st.m[i]?=some x∧c0.μ i=wR c x∧∀y,x=some y→(cl c.S y.k).dim≠none∧(y.cut=none→(cl c0.S i).dim=(cl c.S y.k).dim)∧((cl c0.S i).frozen=false→(cl c.S y.k).frozen=false)
 own: ∀b,c0.own b→c.own b
 fz: ∀(i:Nat) (o:OSk),objs[i]?=some o→o.ro=true→(cl c0.S i).frozen=true∧(cl c0.S i).dim≠none
 len:bs.length=objs.length∧st.m.length=objs.length
theorem enter {c:Ctx}{sk:tZ}{vals vs:List VV}{as:List Value}{st:DSt}{fs bs:List Blk}(hR:eI c)(h0:sk.fix=[])(hd:lB c.S 0 [] sk vals=some st)(he:mG id sk st.ls=some (vs,fs,bs))(hf:F2 (VRel c) vals as):
  Entered c (jx c st bs) sk.free st bs∧F2 (VRel (jx c st bs)) vs as:=by
 obtain⟨ct0,vs0,fs0,bs0,p1,p2,p3⟩:=bg0 (f:=id) hR hd hf;rw[he]at p1;injection p1 with p1
 injection p1 with q1 p1
 injection p1 with q2 q3
 subst q1;subst q2;subst q3;obtain⟨ap1,ap2⟩:=mF hd;have hnd:=mD ap1;rw[List.nil_append]at hnd ap2;obtain⟨y1,y2,y3⟩:=p3.get
 have sub: ∀i,(cl bs i).dim≠none→∃(x:Option Src) (o:OSk),st.m[i]?=some x∧sk.free[i]?=some o∧qJ c ct0 o x (cl bs i):=by
  intro i hi;have hlt:=jP hi;have hb:=aB hlt;have hm:i<st.m.length:=by rw[y1];exact hlt
  obtain⟨o,h1,h2⟩:=y3 i _ _ (aB hm) hb;rw[rL hb];exact⟨_,o,aB hm,h1,h2⟩
 have hmu: ∀i x,st.m[i]?=some x→(jx c st bs).μ i=wR c x:=by
  intro i x hx
  show(match st.m[i]? with
   |some x=>wR c x
   |none=>none)=_
  rw[hx]
 have src: ∀i,(cl bs i).frozen=false→∀b,(jx c st bs).μ i=some b→∃x,st.m[i]?=some (some x)∧(cl c.S x.k).frozen=false∧c.μ x.k=some b∧x.k∈iE sk.free st.m:=by
  intro i hz b hm;obtain⟨x,o,h1,h2,h3⟩:=sub i (jH hz);rw[hmu i x h1]at hm;rcases h3 with⟨_,h3⟩|⟨h3,h4⟩
  ·rw[h3]at hz;cases hz
  ·cases x with
   |none=>cases hm
   |some x=>
    obtain⟨k,cut⟩:=x;rw[h3]at hz;exact⟨_,h1,h4.1 hz,hm,ay8 h1 h2 hz⟩
 have src2: ∀i,(cl bs i).dim≠none→∀b,(jx c st bs).μ i=some b→∃x,st.m[i]?=some (some x)∧(cl c.S x.k).dim≠none∧c.μ x.k=some b:=by
  intro i hz b hm;obtain⟨x,o,h1,h2,h3⟩:=sub i hz;rw[hmu i x h1]at hm;rcases h3 with⟨_,h3⟩|⟨h3,h4⟩
  ·rw[h3]at hz;exact(hz rfl).elim
  ·cases x with
   |none=>cases hm
   |some x=>
    obtain⟨k,cut⟩:=x;obtain⟨_,d,h5,_⟩:=h4;exact⟨_,h1,by rw[h5];simp,hm⟩
 have hT:Tell c (jx c st bs) 0 id st:=by
  refine⟨⟨rfl,fun b y hy hn=> ?_⟩,fun j x hl=> ?_,fun s hs hsd b hm=> ?_⟩
  ·rintro(⟨i,h1,h2⟩|h)
   ·obtain⟨x,_,h3,h4,_⟩:=src i h1 b h2;exact hn (.inl ⟨x.k,h3,h4⟩)
   ·exact hn h.1
  ·rcases hl with⟨h1,_⟩|⟨_,h2⟩
   ·omega
   ·rw[Nat.sub_zero,sm]at h2
    have hlt:j<bs.length:=by
     rw[←y1];rcases Nat.lt_or_ge j st.m.length with h|h
     ·exact h
     ·rw[aW h]at h2;cases h2
    refine⟨hlt,fun d' hd'=> ?_⟩;obtain⟨x',o,h1,h3,h4⟩:=sub j (by rw[show(cl bs j).dim=some d' from hd'];simp);rw[h2]at h1;injection h1 with h1
    subst h1;have hd'':(cl bs j).dim=some d':=hd';rcases h4 with⟨_,h4⟩|⟨h4,h5⟩
    ·rw[h4]at hd'';cases hd''
    ·cases x with
     |none=>
      obtain⟨_,s,h6⟩:=h5;rw[h6]at hd'';injection hd'' with hd''
      subst hd'';exact⟨by simp,hmu j _ h2⟩
     |some x=>
      obtain⟨k,cut⟩:=x;obtain⟨_,d,h6,h7,_⟩:=h5;refine⟨d,h6, ?_⟩;cases cut with
      |none=>
       simp only at h7;rw[h7]at hd'';injection hd'' with hd''
       subst hd'';exact⟨rfl,hmu j _ h2,rfl⟩
      |some n=>
       simp only at h7;rw[h7]at hd'';injection hd'' with hd''
       subst hd'';exact⟨rfl,hmu j _ h2,rfl⟩
  ·rintro(⟨i,h1,h2⟩|h)
   ·obtain⟨x,_,h3,h4,h5⟩:=src i h1 b h2;have:=hR.inj x.k s b h3 hsd h4 hm;rw[this]at h5;exact aU0 ap2 h5 hs
   ·exact h.2 ⟨s, .inr hs,hsd,hm⟩
 obtain⟨vs1,fs1,bs1,r1,r2,r3,r4⟩:=aB4 hR hT hd hf;rw[he]at r1;injection r1 with r1
 injection r1 with e1 r1
 injection r1 with e2 e3
 subst e1;subst e2;subst e3;obtain⟨_,_,y4⟩:=r4.get;refine⟨⟨⟨hR.ok,fun i i' b hz hdm hm hm'=> ?_,fun i=> ?_,fun i b hdm hm hb=> ?_,fun b hb=> ?_⟩,fun i hi=> ?_,fun b hb=> ?_,fun i o ho hr=> ?_,⟨y2.symm,by rw[y1,y2]⟩⟩,r2⟩
 ·obtain⟨x,h1,h2,h3,_⟩:=src i hz b hm;obtain⟨x',h4,h5,h6⟩:=src2 i' hdm b hm';exact aw2 hnd h1 h4 (hR.inj _ _ b h2 h5 h3 h6)
 ·by_cases hdm:(cl bs i).dim=none
  ·intro d hd';rw[show(cl (jx c st bs).S i).dim=none from hdm]at hd';cases hd'
  ·have hlt:=jP hdm;have hb:=aB hlt;have hm:i<st.m.length:=by rw[y1];exact hlt
   obtain⟨o,h1,h2⟩:=y4 i _ _ (aB hm) hb;exact h2.blkRel (ct:=jx c st bs) hR rfl (rL hb) fun _=>hmu i _ (aB hm)
 ·obtain⟨x',h4,h5,h6⟩:=src2 i hdm b hm;exact hb.2 ⟨x'.k, .inl (uo h4),h5,h6⟩
 ·rcases hb.1 with⟨k,h1,h2⟩|h
  ·cases hdd:(cl c.S k).dim with
   |none=>exact(jH h1 hdd).elim
   |some d=>
    obtain⟨y,_,_,hy,_⟩:=hR.block hdd h2;exact hR.ok b y hy
  ·exact hR.fbl b h
 ·obtain⟨x,o,h1,h2,h3⟩:=sub i hi;refine⟨x,h1,hmu i x h1,fun y hy=> ?_⟩;subst hy;rcases h3 with⟨_,h3⟩|⟨h3,h4,d,h5,h6,_⟩
  ·rw[show cl (jx c st bs).S i=cl bs i from rfl,h3]at hi;exact(hi rfl).elim
  ·refine⟨by rw[h5];simp,fun hc=> ?_,fun hz=>h4 (by rw[←h3];exact hz)⟩;rw[hc]at h6;rw[h5];exact h6
 ·obtain⟨i,h1,h2⟩:=hb;obtain⟨x,_,h3,h4,_⟩:=src i h1 b h2;exact⟨x.k,h3,h4⟩
 ·have hi:i<bs.length:=by
   rw[←y2];rcases Nat.lt_or_ge i sk.free.length with h|h
   ·exact h
   ·rw[aW h]at ho;cases ho
  have hm:i<st.m.length:=by rw[y1];exact hi
  obtain⟨o',h1,h2⟩:=y3 i _ _ (aB hm) (aB hi);rw[ho]at h1;injection h1 with h1
  subst h1;rw[show cl (jx c st bs).S i=cl bs i from rfl,rL (aB hi)];rcases h2 with⟨h2,_⟩|⟨h2,h3⟩
  ·subst h2;cases hr
  ·refine⟨h2.trans hr, ?_⟩;cases hx:st.m[i]with
   |none=>rw[hx]at h3;obtain⟨h3,_⟩:=h3;rw[h3]at hr;cases hr
   |some x=>
    obtain⟨k,cut⟩:=x;rw[hx]at h3;obtain⟨_,d,_,h4,_⟩:=h3;cases cut with
    |none=>simp only at h4;rw[h4];simp
    |some n=>simp only at h4;rw[h4];simp
end
section
open List renaming getElem?_eq_getElem → aB, getElem?_eq_none → aD
open Nat renaming lt_or_ge → aW, add_sub_cancel_left → aX
theorem bg7 : ∀{l:List Nat} {S:co} {k:Nat},k∈l→(cl (yU l S) k).frozen=true
 |[],S,k,h=>by simp at h
 |a::l,S,k,h=>by
  simp only[yU];by_cases hk:k∈l
  ·exact bg7 hk
  ·have:k=a:=by
    rcases List.mem_cons.1 h with h|h
    ·exact h
    ·exact(hk h).elim
   subst this;rcases(qC l (ja S k (cl S k).freeze)).2 k with h1|h1
   ·rw[h1,tx];split
    ·exact ko
    ·rename_i hn;have: ¬k<S.length:=fun e=>hn ⟨rfl,e⟩
     rw[rM (by omega)];rfl
   ·rw[h1];exact ko
theorem ca7 {c c0 c':Ctx}{objs:List OSk}{sk:tZ}{vals vs:List VV}{as:List Value}{st st':DSt}{fs bs bs0:List Blk}{Sf:co}(hR:eI c)(h0:c0=jx c st bs0)(hE:Entered c c0 objs st bs0)(hle:Le c0 c')(hR':eI c')
  (hcut:bh8 st.m=true) (hok:aK5 c.S (iE objs st.m)=true) (hnd:(lC st.m).Nodup) (hlent: ∀(i:Nat) (o:OSk) (x:Src),objs[i]?=some o→o.ro=true→st.m[i]?=some (some x)→x.k∈st.lent)
  (hro:sk.noRo=true) (hd:lB c'.S objs.length (pT objs 0) sk vals=some st') (he:mG (se st.m objs.length c.S.length) sk st'.ls=some (vs,fs,bs)) (hf:F2 (VRel c') vals as) (hS:rO (iE objs st.m) fs (yU st.lent c.S)=some Sf):
  ∃ct:Ctx,ct.σ=c'.σ∧ct.S=Sf++bs∧ct.fb=c.fb∧(∀k,k<c.S.length→ct.μ k=c.μ k)∧Le c ct∧eI ct∧F2 (VRel ct) vs as∧
   (∀k,k<c.S.length→k∉iE objs st.m→(cl c.S k).dim≠none→∀b y,c.μ k=some b→c.σ.m b=some y→ct.σ.m b=some y):=by
 have hσ0:c0.σ=c.σ:=by rw[h0];rfl
 have hfb0: ∀b,c0.fb b↔(c.mut b∧¬∃k,(k∈lC st.m∨k∈st.lent)∧(cl c.S k).dim≠none∧c.μ k=some b):=by rw[h0];exact fun b=>Iff.rfl
 have hS0:c0.S=bs0:=by rw[h0];rfl
 have hfb':c'.fb=c0.fb:=hle.fb;obtain⟨l1,l2⟩:=hE.len;obtain⟨s1,s2,s3,s4⟩:=iD hS;rw[(qC st.lent c.S).1]at s2 s4;have hfz:=qC st.lent c.S
 have pos: ∀i,i<objs.length→∃k,st.m[i]?=some (some ⟨k,none⟩)∧se st.m objs.length c.S.length i=k:=by
  intro i hi;have hm:i<st.m.length:=by omega
  obtain⟨k,hk⟩:=bh9 hcut i _ (aB hm);have h1:st.m[i]?=some (some ⟨k,none⟩):=by rw[aB hm,hk]
  refine⟨k,h1, ?_⟩;unfold se;rw[show Nat.blt i objs.length=true from Nat.ble_eq_true_of_le hi,zC,sm,h1]
 have fmap:(pT objs 0).map (se st.m objs.length c.S.length)=iE objs st.m:=by
  refine bg4 l2.symm fun p x hx=> ?_
  have hp:p<objs.length:=by
   rw[←l2];rcases aW p st.m.length with h|h
   ·exact h
   ·rw[aD h]at hx;cases hx
  obtain⟨k,h1,h2⟩:=pos p hp;rw[hx]at h1;injection h1 with h1
  exact⟨k,h1,by rw[Nat.zero_add];exact h2⟩
 have fxlt: ∀j,j∈pT objs 0→j<objs.length∧∃o,objs[j]?=some o∧o.ro=false:=by
  intro j hj;obtain⟨p,o,h1,h2,h3⟩:=aB6.1 hj;rw[Nat.zero_add]at h3;subst h3;refine⟨?_,o,h1,h2⟩;rcases aW j objs.length with h|h
  ·exact h
  ·rw[aD h]at h1;cases h1
 have fxw: ∀j,j∈pT objs 0→se st.m objs.length c.S.length j∈iE objs st.m:=fun j hj=>by rw[←fmap];exact List.mem_map_of_mem hj
 have wfx: ∀k,k∈iE objs st.m→∃j,j∈pT objs 0∧se st.m objs.length c.S.length j=k:=fun k hk=>by rw[←fmap]at hk;obtain⟨j,h1,h2⟩:=List.mem_map.1 hk;exact⟨j,h1,h2⟩
 have oth: ∀k,(∀j,j∈pT objs 0→se st.m objs.length c.S.length j≠k)→k∉iE objs st.m:=fun k hk h=>by obtain⟨j,h1,h2⟩:=wfx k h;exact hk j h1 h2
 let ct:Ctx:=⟨fun i=>if i<c.S.length then c.μ i else match st'.m[i-c.S.length]? with
  |some x=>wR c' x
  |none=>none,Sf++bs,c'.σ,c.fb⟩
 have hget: ∀k,k<c.S.length→cl ct.S k=cl Sf k:=fun k hk=>kr (by rw[s2];exact hk)
 have hoth: ∀k,k<c.S.length→k∉iE objs st.m→cl ct.S k=cl (yU st.lent c.S) k:=fun k hk hn=>by rw[hget k hk,s3 k hn]
 have own0: ∀b,c0.own b→∃k,k∈iE objs st.m∧(cl c.S k).frozen=false∧c.μ k=some b:=by
  rintro b ⟨i,h1,h2⟩;obtain⟨x,h3,h4,h5⟩:=hE.sub i (jH h1);rw[h4]at h2;cases x with
  |none=>cases h2
  |some x=>
   obtain⟨h6,_,h8⟩:=h5 x rfl
   have hi:i<objs.length:=by
    rw[←l2];rcases aW i st.m.length with h|h
    ·exact h
    ·rw[aD h]at h3;cases h3
   have ho:objs[i]?=some objs[i]:=aB hi;refine⟨x.k,ay8 h3 ho ?_,h8 h1,h2⟩;cases hr:(objs[i]).ro with
   |false=>rfl
   |true=>rw[(hE.fz i _ ho hr).1]at h1;cases h1
 have nown: ∀k,k∉iE objs st.m→(cl c.S k).dim≠none→∀b,c.μ k=some b→¬c0.own b:=by
  intro k hk hdm b hm h;obtain⟨k',h1,h2,h3⟩:=own0 b h;have:=hR.inj k' k b h2 hdm h3 hm;subst this;exact hk h1
 have hun: ∀k,k<c.S.length→k∉iE objs st.m→(cl c.S k).dim≠none→∀b y,c.μ k=some b→c.σ.m b=some y→c'.σ.m b=some y:=fun k _ hk hdm b y hm hy=>hle.un b y (by rw[hσ0];exact hy) (nown k hk hdm b hm)
 have exists_blk: ∀k b,(cl c.S k).dim≠none→c.μ k=some b→∃y,c.σ.m b=some y:=by
  intro k b hdm hm;cases hdd:(cl c.S k).dim with
  |none=>exact(hdm hdd).elim
  |some d=>
   obtain⟨y,_,_,hy,_⟩:=hR.block hdd hm;exact⟨y,hy⟩
 have dimo: ∀k,k<c.S.length→k∉iE objs st.m→(cl ct.S k).dim=(cl c.S k).dim:=fun k hk hn=>by rw[hoth k hk hn];exact hfz.dim k
 have notin: ∀k,k<c.S.length→k∉iE objs st.m→(cl ct.S k).frozen=false→∀b,c.μ k=some b→(cl c.S k).frozen=false∧¬∃k',(k'∈lC st.m∨k'∈st.lent)∧(cl c.S k').dim≠none∧c.μ k'=some b:=by
  intro k hk hn hz b hm;rw[hoth k hk hn]at hz;have hz':(cl c.S k).frozen=false:=by rw[←hfz.fz hz];exact hz
  refine⟨hz', ?_⟩;rintro⟨k',h1,h2,h3⟩;have:=hR.inj k k' b hz' h2 hm h3;subst this;have hnl:k∉st.lent:=fun e=>by rw[bg7 e]at hz;cases hz
  rcases h1 with h1|h1
  ·obtain⟨i,x,h4,h5⟩:=aU9 h1
   have hi:i<objs.length:=by
    rw[←l2];rcases aW i st.m.length with h|h
    ·exact h
    ·rw[aD h]at h4;cases h4
   have ho:objs[i]?=some objs[i]:=aB hi;cases hr:(objs[i]).ro with
   |true=>exact hnl (by rw[←h5];exact hlent i _ x ho hr h4)
   |false=>exact hn (by rw[←h5];exact ay8 h4 ho hr)
  ·exact hnl h1
 have g:GT c c' ct objs.length (se st.m objs.length c.S.length) (pT objs 0) sk st' fs bs:=by
  refine⟨rfl,rfl,by simp[ct,s2],fun k hk hn=> ?_,fun i j b hi hb=> ?_,fun j hj=>(jy hok (fxw j hj)).1,fun i b hb=> ?_,fun i=> ?_,fun k hk=>zE hk,fun i x hx=> ?_,fun b y hy hn=>hle.un b y (by rw[hσ0];exact hy) fun e=>hn (hE.own b e),fun b y hy hn=>hle.ow b y (by rw[hσ0];exact hy) fun e=>hn (hE.own b e),by rw[←hσ0];exact hle.n,fun k hk hn hdm b y hm hy=> ?_,fun k hk hn hdm s hs hz b hm e=> ?_,fun j hj hdm=> ?_,fun j hj=>(jy hok (fxw j hj)).2,
   fun j j' hj hj' e=> ?_,fun k b hdm hm hb=> ?_,fun j hj hn=> ?_,fun k hk hn hz b y hm hy=> ?_,fun k hk hn hz s hs hsd b hm e=> ?_,fun b hb=> ?_,fun j hj=>(fxlt j hj).1,hro⟩
  ·rw[hoth k hk (oth k hn)];rcases hfz.2 k with h|h
   ·exact .inl h
   ·exact .inr (.inl h)
  ·have hj:=List.mem_of_getElem? hi;have hw:=fxw j hj;have hlt:=(jy hok hw).1;show cl ct.S _=b;rw[hget _ hlt];refine s4 (qI hnd) i _ b ?_ hb hlt;rw[←fmap,List.getElem?_map,hi];rfl
  ·show cl (Sf++bs) (c.S.length+i)=b;rw[←s2,oK];exact rL hb
  ·unfold se
   have:Nat.blt (objs.length+i) objs.length=false:=by
    cases hb:Nat.blt (objs.length+i) objs.length with
    |false=>rfl
    |true=>have:=Nat.le_of_ble_eq_true hb;omega
   rw[this,zD,aX]
  ·show(if c.S.length+i<c.S.length then _ else _)=_;rw[zF (by omega),aX,hx]
  ·exact hun k hk (oth k hn) (by rw[←dimo k hk (oth k hn)];exact hdm) b y hm hy
  ·have hdm':(cl c.S k).dim≠none:=by rw[←dimo k hk (oth k hn)];exact hdm
   obtain⟨y,hy⟩:=exists_blk k b hdm' e;exact hle.ow b y (by rw[hσ0];exact hy) (nown k (oth k hn) hdm' b e) ⟨s,hz,hm⟩
  ·obtain⟨k,h1,h2⟩:=pos j (fxlt j hj).1;have hj0:j<c0.S.length:=by rw[hS0,l1];exact(fxlt j hj).1
   cases hdd:(cl c'.S j).dim with
   |none=>exact(hdm hdd).elim
   |some d=>
    obtain⟨h3,h4⟩:=hle.al j d hj0 hdd;obtain⟨x,h5,h6,h7⟩:=hE.sub j (by rw[h3];simp);rw[h1]at h5;injection h5 with h5
    subst h5;obtain⟨h8,h9,_⟩:=h7 _ rfl;rw[h2];refine⟨by rw[←h9 rfl,h3],h4.trans h6,fun b y hm hy=>hle.ln j d b y hj0 hdd (h6.trans hm) (by rw[hσ0];exact hy)⟩
  ·obtain⟨k,h1,h2⟩:=pos j (fxlt j hj).1;obtain⟨k',h3,h4⟩:=pos j' (fxlt j' hj').1;rw[h2,h4]at e;subst e;exact aw2 hnd h1 h3 rfl
  ·have h1:=hR'.fbk k b hdm hm;rw[hfb',hfb0]at h1;refine h1 ⟨.inr hb, ?_⟩;rintro⟨k',_,h3,h4⟩;exact hR.fbk k' b h3 h4 hb
  ·obtain⟨k,h1,h2⟩:=pos j hj;have ho:objs[j]?=some objs[j]:=aB hj
   have hr:(objs[j]).ro=true:=by
    cases hr:(objs[j]).ro with
    |true=>rfl
    |false=>exact(hn (aB6.2 ⟨j,_,ho,hr,by omega⟩)).elim
   obtain⟨h3,h4⟩:=hE.fz j _ ho hr;obtain⟨x,h5,h6,h7⟩:=hE.sub j h4;rw[h1]at h5;injection h5 with h5
   subst h5;obtain⟨h8,h9,_⟩:=h7 _ rfl;simp only at h8 h9;have hkl:k<c.S.length:=jP h8
   have hkw:k∉iE objs st.m:=by
    intro hk;obtain⟨i,o,x,g1,g2,g3,g4⟩:=ah5 hk;have:=aw2 hnd g1 h1 g4;subst this;rw[ho]at g2;injection g2 with g2
    rw[g2,g3]at hr;cases hr
   have hj0:j<c0.S.length:=by rw[hS0,l1];exact hj
   have hsame:=hle.fz j h3 h4;rw[h2];refine⟨by simp only[ct,List.length_append,s2];omega,fun d' hd'=> ?_⟩;rw[dimo k hkl hkw]at hd';refine⟨d',by rw[hsame,h9 trivial];exact hd',rfl, ?_,rfl⟩;show(if k<c.S.length then c.μ k else _)=_;rw[zE hkl,(hle.al j d' hj0 (by rw[hsame,h9 trivial];exact hd')).2,h6];rfl
  ·obtain⟨h1,h2⟩:=notin k hk (oth k hn) hz b hm;exact .inr (by rw[hfb',hfb0];exact⟨.inl ⟨k,h1,hm⟩,h2⟩)
  ·obtain⟨h1,h2⟩:=notin k hk (oth k hn) hz b e;have h3:=hR'.fbk s b hsd hm;rw[hfb',hfb0]at h3;exact h3 ⟨.inl ⟨k,h1,e⟩,h2⟩
  ·refine .inr ?_;rw[hfb',hfb0];refine⟨.inr hb, ?_⟩;rintro⟨k',_,h3,h4⟩;exact hR.fbk k' b h3 h4 hb
 obtain⟨r1,r2,r3⟩:=g.all hR hR' hd he hf;exact⟨ct,rfl,rfl,rfl,fun k hk=>zE hk,r1,r2,r3,hun⟩
end
section
open Bool renaming or_eq_false_iff → aW
open List renaming getElem?_eq_getElem → aB, getElem_mem → aD, all_eq_true → aX, any_eq_false → aY, length_append → aZ
theorem aD5 : ∀{js:List Nat} {bs:List Blk} {S S1:co},js.length=bs.length→∃S2,rO js bs S1=some S2
 |[],[],_,S1,_=>⟨S1,rfl⟩
 |[],_::_,_,_,h=>by simp at h
 |_::_,[],_,_,h=>by simp at h
 |j::js,b::bs,S,S1,h=>by
  obtain⟨S2,h1⟩:=aD5 (js:=js) (bs:=bs) (S:=S) (S1:=ja S1 j b) (by simpa using h);exact⟨S2,h1⟩
theorem aT4 {f:Nat→Nat}: ∀{os:List OSk} {ls rest:List Leaf} {bs:List Blk},yS f os ls=some (bs,rest)→(∀o,o∈os→o.ro=false)→∀b,b∈bs→b.dim≠none→b.frozen=false
 |[],ls,rest,bs,h,_,b,hb,_=>by
  simp only[yS]at h;injection h with h
  injection h with h1 h2
  subst h1;simp at hb
 |o::os,ls,rest,bs,h,hr,b,hb,hd=>by
  simp only[yS]at h;obtain⟨p,h1,h⟩:=cm h;obtain⟨q,h2,h⟩:=cm h;injection h with h
  injection h with h3 h4
  subst h3;rcases List.mem_cons.1 hb with hb|hb
  ·subst hb;have ho:=hr o List.mem_cons_self;cases o with
   |dead=>
    simp only[be3]at h1;injection h1 with h1
    rw[←h1]at hd;exact(hd rfl).elim
   |cells es ro l=>
    simp only[be3]at h1;obtain⟨v,h5,h6⟩:=cm h1;injection h6 with h6
    rw[←h6];exact ho
   |arr ro s=>
    cases ls with
    |nil=>simp[be3]at h1
    |cons x ls=>
     simp only[be3]at h1;obtain⟨v,h5,h6⟩:=cm h1;injection h6 with h6
     rw[←h6];exact ho
  ·exact aT4 h2 (fun o ho=>hr o (List.mem_cons_of_mem _ ho)) b hb hd
theorem bA7 {f:Nat→Nat}{sk:tZ}{ls:List Leaf}{vs:List VV}{fs bs:List Blk}(h:mG f sk ls=some (vs,fs,bs))(hr:sk.noRo=true):(∀b,b∈fs→b.dim≠none→b.frozen=false)∧∀b,b∈bs→b.dim≠none→b.frozen=false:=by
 unfold tZ.noRo at hr;rw[Bool.and_eq_true,aX,aX]at hr;unfold mG at h;obtain⟨p,h1,h⟩:=cm h;obtain⟨q,h2,h⟩:=cm h;obtain⟨r,h3,h⟩:=cm h;split at h
 ·injection h with h
  injection h with e1 h
  injection h with e2 e3
  subst e2;subst e3;exact⟨aT4 (rest:=q.2) h2 fun o ho=>by simpa using hr.1 o ho,aT4 (rest:=r.2) h3 fun o ho=>by simpa using hr.2 o ho⟩
 ·cases h
theorem bz0 {vs:List VV}{fs bs:List Blk}(h:yR vs fs bs=false):alL vs=false∧(∀b,b∈fs→alB b=false)∧∀b,b∈bs→alB b=false:=by
 unfold yR at h;rw[aW,aW,aY,aY]at h;exact⟨h.1.1,fun b hb=>by simpa using h.1.2 b hb,fun b hb=>by simpa using h.2 b hb⟩
theorem bG5 {l:List Blk}{i:Nat}(h:(cl l i).dim≠none):cl l i∈l:=by
 have hi:=jP h;rw[rL (aB hi)];exact aD hi
theorem bj2 {c ctf:Ctx}{js:List Nat}{vs:List VV}{as:List Value}{fs bs:List Blk}{Sa Sb S1 S2:co}(hR:eI c)(hle:Le c ctf)(hRf:eI ctf)(hf:F2 (VRel ctf) vs as)(hal:yR vs fs bs=false)
  (hz1: ∀b,b∈fs→b.dim≠none→b.frozen=false) (hz2: ∀b,b∈bs→b.dim≠none→b.frozen=false) (hla:Sa.length=c.S.length) (hlb:Sb.length=c.S.length) (hS1:rO js fs Sa=some S1) (hS2:rO js fs Sb=some S2) (hjs:js.Nodup) (hjl: ∀j,j∈js→j<c.S.length)
  (hS:ctf.S=S1++bs) (hμ: ∀k,k<c.S.length→ctf.μ k=c.μ k)
  (hoth: ∀k,k<c.S.length→k∉js→(cl Sa k=cl Sb k∧((cl Sa k).dim≠none→cl Sa k=cl c.S k))∨(cl Sb k=cl c.S k∧cl Sa k=(cl c.S k).freeze))
  (hun: ∀k,k<c.S.length→k∉js→(cl Sa k).dim≠none→∀b y,c.μ k=some b→c.σ.m b=some y→ctf.σ.m b=some y):
  Le c ⟨ctf.μ,S2++bs,ctf.σ,ctf.fb⟩∧eI ⟨ctf.μ,S2++bs,ctf.σ,ctf.fb⟩∧F2 (VRel ⟨ctf.μ,S2++bs,ctf.σ,ctf.fb⟩) vs as:=by
 obtain⟨a1,a2,a3⟩:=bz0 hal;obtain⟨p1,p2,p3,p4⟩:=iD hS1;obtain⟨q1,q2,q3,q4⟩:=iD hS2;refine thaw hR hle hRf hf a1 (by rw[hS,aZ,aZ,p2,q2,hla,hlb]) hμ fun k=> ?_
 by_cases hk:k<c.S.length
 ·have g1:cl (S2++bs) k=cl S2 k:=kr (by rw[q2,hlb];exact hk);have g2:cl ctf.S k=cl S1 k:=by rw[hS];exact kr (by rw[p2,hla];exact hk)
  by_cases hj:k∈js
  ·obtain⟨i,hi,e⟩:=List.mem_iff_getElem.1 hj;have hi':i<fs.length:=by rw[←p1];exact hi
   have e1:=p4 hjs i k _ (by rw[aB hi,e]) (aB hi') (by rw[hla];exact hk);have e2:=q4 hjs i k _ (by rw[aB hi,e]) (aB hi') (by rw[hlb];exact hk);refine .inl ⟨by rw[g1,g2,e1,e2],fun hdm=> .inl ?_⟩;rw[g2,e1]at hdm⊢;exact⟨hz1 _ (aD hi') hdm,a2 _ (aD hi')⟩
  ·rw[g1,g2,q3 k hj,p3 k hj];rcases hoth k hk hj with⟨h1,h2⟩|⟨h1,h2⟩
   ·exact .inl ⟨h1.symm,fun hdm=> .inr ⟨hk,h2 hdm,hun k hk hj hdm⟩⟩
   ·exact .inr ⟨hk,h1,h2,fun hdm=>hun k hk hj (by rw[h2,fc];exact hdm)⟩
 ·have h1:k=c.S.length+(k-c.S.length):=by omega
  have g1:cl (S2++bs) k=cl bs (k-c.S.length):=by
   rw[h1,←hlb,←q2,oK]
   congr 1
   omega
  have g2:cl ctf.S k=cl bs (k-c.S.length):=by
   rw[hS,h1,←hla,←p2,oK]
   congr 1
   omega
  refine .inl ⟨by rw[g1,g2],fun hdm=> .inl ?_⟩;rw[g2]at hdm⊢;exact⟨hz2 _ (bG5 hdm) hdm,a3 _ (bG5 hdm)⟩
theorem aW6 {c c0 c':Ctx}{objs:List OSk}{sk:tZ}{vals vs:List VV}{as:List Value}{st st':DSt}{fs bs bs0:List Blk}{S2:co}(hR:eI c)(h0:c0=jx c st bs0)(hE:Entered c c0 objs st bs0)(hle:Le c0 c')(hR':eI c')
  (hcut:bh8 st.m=true) (hok:aK5 c.S (iE objs st.m)=true) (hnd:(lC st.m).Nodup) (hlent: ∀(i:Nat) (o:OSk) (x:Src),objs[i]?=some o→o.ro=true→st.m[i]?=some (some x)→x.k∈st.lent)
  (hro:sk.noRo=true) (hd:lB c'.S objs.length (pT objs 0) sk vals=some st') (he:mG (se st.m objs.length c.S.length) sk st'.ls=some (vs,fs,bs)) (hf:F2 (VRel c') vals as)
  (hS:rO (iE objs st.m) fs (cond (yR vs fs bs) (yU st.lent c.S) c.S)=some S2):
  ∃ct:Ctx,ct.σ=c'.σ∧ct.S=S2++bs∧Le c ct∧eI ct∧F2 (VRel ct) vs as∧qX (iE objs st.m) c ct:=by
 obtain⟨q1,q2,q3,q4⟩:=iD hS;obtain⟨Sf,hSf⟩:=aD5 (S:=c.S) (S1:=yU st.lent c.S) q1;obtain⟨ct,e1,e2,e3,e4,e5,e6,e7,e8⟩:=ca7 hR h0 hE hle hR' hcut hok hnd hlent hro hd he hf hSf
 have calm: ∀ct':Ctx,ct'.σ=ct.σ→(∀k,(cl ct'.S k).dim=(cl ct.S k).dim)→qX (iE objs st.m) c ct':=by
  intro ct' h1 h2 k hk hn hdm;obtain⟨_,p2,p3,_⟩:=iD hSf;have hl:(yU st.lent c.S).length=c.S.length:=(qC st.lent c.S).1;refine⟨?_,fun b hm=> ?_⟩
  ·rw[h2,e2,kr (by rw[p2,hl];exact hk),p3 k hn,(qC st.lent c.S).dim];exact hdm
  ·cases hdd:(cl c.S k).dim with
   |none=>exact(hdm hdd).elim
   |some d=>
    obtain⟨y,_,_,hy,_⟩:=hR.block hdd hm;rw[hy,h1];exact e8 k hk hn hdm b y hm hy
 cases hal:yR vs fs bs with
 |true=>
  rw[hal,zC,hSf]at hS;injection hS with hS
  subst hS;exact⟨ct,e1,e2,e5,e6,e7,calm ct rfl fun _=>rfl⟩
 |false=>
  rw[hal,zD]at hS;obtain⟨z1,z2⟩:=bA7 he hro;have hfz:=qC st.lent c.S
  obtain⟨r1,r2,r3⟩:=bj2 hR e5 e6 e7 hal z1 z2 hfz.1 rfl hSf hS (qI hnd) (fun j hj=>(jy hok hj).1) e2 e4 (fun k hk hn=>by
   rcases hfz.2 k with h|h
   ·exact .inl ⟨h,fun _=>h⟩
   ·exact .inr ⟨rfl,h⟩) (fun k hk hn hdm=>e8 k hk hn (by rw[←hfz.dim];exact hdm))
  refine⟨⟨ct.μ,S2++bs,ct.σ,ct.fb⟩,e1,rfl,r1,r2,r3,calm _ rfl fun k=> ?_⟩;obtain⟨_,p2,p3,p4⟩:=iD hSf;rw[e2];show(cl (S2++bs) k).dim=(cl (Sf++bs) k).dim;by_cases hk:k<c.S.length
  ·rw[kr (S:=S2) (by rw[q2,hal];exact hk),kr (S:=Sf) (by rw[p2,hfz.1];exact hk)];by_cases hw:k∈iE objs st.m
   ·obtain⟨i,hi,e⟩:=List.mem_iff_getElem.1 hw;have hi':i<fs.length:=by rw[←q1];exact hi
    obtain⟨_,_,_,t4⟩:=iD hS
    rw[t4 (qI hnd) i k _ (by rw[aB hi,e]) (aB hi') hk,
     p4 (qI hnd) i k _ (by rw[aB hi,e]) (aB hi') (by rw[hfz.1];exact hk)]
   ·obtain⟨_,_,t3,_⟩:=iD hS;rw[t3 k hw,p3 k hw,hfz.dim]
  ·have h1:k=c.S.length+(k-c.S.length):=by omega
   have g1:cl (S2++bs) k=cl bs (k-c.S.length):=by
    obtain⟨_,t2,_,_⟩:=iD hS;rw[h1,←t2,oK]
    congr 1
    omega
   have g2:cl (Sf++bs) k=cl bs (k-c.S.length):=by
    rw[h1,←hfz.1,←p2,oK]
    congr 1
    omega
   rw[g1,g2]
theorem ct5 {c c1 c':Ctx}{fx mov:List Nat}{sk:tZ}{vals vs:List VV}{as:List Value}{st:DSt}{fs bs:List Blk}{S2:co}(hR:eI c)(hR':eI c')(hw:Within c c1 fx mov)(hR1:eI c1)(hle:Le c1 c')
  (hok:aK5 c.S fx=true) (hro:sk.noRo=true) (hd:lB c'.S c.S.length fx sk vals=some st) (he:mG id sk st.ls=some (vs,fs,bs)) (hf:F2 (VRel c') vals as) (hS:rO fx fs (iw fx mov (yR vs fs bs) 0 c.S)=some S2):
  ∃ct:Ctx,ct.σ=c'.σ∧ct.S=S2++bs∧Le c ct∧eI ct∧F2 (VRel ct) vs as:=by
 obtain⟨q1,q2,q3,q4⟩:=iD hS;obtain⟨Sf,hSf⟩:=aD5 (S:=c.S) (S1:=iw fx mov true 0 c.S) q1;obtain⟨ct,e1,e2,e3,e4,e5,e6,e7,e8⟩:=cA4 hR hR' hw hR1 hle hok hro hd he hf hSf;cases hal:yR vs fs bs with
 |true=>
  rw[hal,hSf]at hS;injection hS with hS
  subst hS;exact⟨ct,e1,e2,e5,e6,e7⟩
 |false=>
  rw[hal]at hS;obtain⟨z1,z2⟩:=bA7 he hro;obtain⟨ap1,_⟩:=mF hd;have hnd:=mD ap1;rw[List.nodup_append]at hnd;obtain⟨_,p2,p3,_⟩:=iD hSf;rw[jG]at p2
  obtain⟨r1,r2,r3⟩:=bj2 hR e5 e6 e7 hal z1 z2 jG jG hSf hS hnd.1 (fun j hj=>(jy hok hj).1) e2 e4 (fun k hk hn=>by
   rw[jF hk,jF hk,Nat.zero_add,iy hn];cases jN k mov with
   |true=>
    refine .inl ⟨rfl,fun h=> ?_⟩;cases hz:(cl c.S k).frozen with
    |true=>rfl
    |false=>rw[hz]at h;exact(h rfl).elim
   |false=>exact .inr ⟨rfl,rfl⟩) (fun k hk hn hdm=>(e8 k hk hn (by rw[e2,kr (by rw[p2];exact hk),p3 k hn];exact hdm)).2)
  exact⟨⟨ct.μ,S2++bs,ct.σ,ct.fb⟩,e1,rfl,r1,r2,r3⟩
end
section
open List renaming mem_cons_of_mem → aB, mem_cons_self → aD
open Nat renaming eq_of_beq_eq_true → aW
def ce9 (l:List Alt)(s:rG l):Option (Σ a:Alt,a.Ty):=ce8 l s fun a u=>some ⟨a,u⟩
theorem bq4 {β:Type}: ∀(l:List Alt) (s:rG l) (k:(a:Alt)→a.Ty→Option β),ce8 l s k=(ce9 l s).bind fun p=>k p.1 p.2
 |[],_,_=>rfl
 |[a],t,k=>rfl
 |a::b::r, .inl t,k=>rfl
 |a::b::r, .inr s,k=>bq4 (b::r) s k
def FSum.spec (F:FSum):Ab.aA3:=fun args σ K=> ∃(c:Ctx) (vals:List VV) (st:DSt) (t:Tup F.ins.shs) (o:rG F.outs) (p:Σ a:Alt,a.Ty) (v:VV) (fs bs:List Blk) (S':co),
 c.σ=σ∧eI c∧F2 (VRel c) vals args∧lB c.S 0 [] F.ins vals=some st∧ofL F.ins.shs st.ls=some t∧bh8 st.m=true∧aK5 c.S (iE F.objs st.m)=true∧F.run t=some o∧ce9 F.outs o=some p∧
 mG (se st.m F.objs.length c.S.length) p.1.sk (toL p.1.sk.shs p.2)=some ([v],fs,bs)∧rO (iE F.objs st.m) fs (cond (yR [v] fs bs) (yU st.lent c.S) c.S)=some S'∧
 ∀r σ',(∃ct:Ctx,ct.σ=σ'∧ct.S=S'++bs∧Le c ct∧eI ct∧VRel ct v r∧qX (iE F.objs st.m) c ct)→K r σ'
theorem FSum.mono (F:FSum):aE7 F.spec:=by
 rintro args σ K K' hk ⟨c,vals,st,t,o,p,v,fs,bs,S',h1,h2,h3,h4,h5,h6,h7,h8,h9,h10,h11,h12⟩;exact⟨c,vals,st,t,o,p,v,fs,bs,S',h1,h2,h3,h4,h5,h6,h7,h8,h9,h10,h11,fun r σ' h=>hk r σ' (h12 r σ' h)⟩
def Inl.spec (I:Inl):Ab.aA3:=fun args σ K=> ∃(β:Type) (y:β) (c:Ctx) (vals:List VV) (k:VV→co→Option β),c.σ=σ∧eI c∧F2 (VRel c) vals args∧I.run β vals c.S k=some y∧∀r σ',ia c (aR7 c.S.length) k y r σ'→K r σ'
theorem Inl.mono (I:Inl):aE7 I.spec:=by
 rintro args σ K K' hk ⟨β,y,c,vals,k,h1,h2,h3,h4,h5⟩;exact⟨β,y,c,vals,k,h1,h2,h3,h4,fun r σ' h=>hk r σ' (h5 r σ' h)⟩
def fP (tab:Tab):Ab.fB:=fun f args σ K=>(∃F,F∈tab.fs∧F.f=f∧F.spec args σ K)∨∃I,I∈tab.is∧I.f=f∧I.spec args σ K
theorem du (tab:Tab):oq (fP tab):=by
 rintro f args σ K K' hk (⟨F,h1,h2,h3⟩|⟨F,h1,h2,h3⟩)
 ·exact .inl ⟨F,h1,h2,F.mono args σ K K' hk h3⟩
 ·exact .inr ⟨F,h1,h2,F.mono args σ K K' hk h3⟩
def sH (P:Program)(F:FSum):Prop:=yQ P F.f F.spec
def bJ8 (P:Program)(I:Inl):Prop:=yQ P I.f I.spec
def gT (P:Program)(tab:List FSum):Prop:= ∀F,F∈tab→sH P F
def cj (P:Program)(is:List Inl):Prop:= ∀I,I∈is→bJ8 P I
theorem cj.nil (P:Program):cj P []:=fun F h=>by cases h
theorem cj.cons {P:Program}{F:Inl}{tab:List Inl}(h:bJ8 P F)(ht:cj P tab):cj P (F::tab):=fun G hG=>by
 rcases List.mem_cons.1 hG with rfl|hG
 ·exact h
 ·exact ht G hG
theorem gT.nil (P:Program):gT P []:=fun F h=>by cases h
theorem gT.cons {P:Program}{F:FSum}{tab:List FSum}(h:sH P F)(ht:gT P tab):gT P (F::tab):=fun G hG=>by
 rcases List.mem_cons.1 hG with rfl|hG
 ·exact h
 ·exact ht G hG
theorem gT.app {P:Program}{a b:List FSum}(h:gT P a)(k:gT P b):gT P (a++b):=fun G hG=>by
 rcases List.mem_append.1 hG with hG|hG
 ·exact h G hG
 ·exact k G hG
theorem ag5 {P:Program}{tab:Tab}(h:gT P tab.fs)(h':cj P tab.is)(f:FuncId):yQ P f (fP tab f):=by
 rintro B μ σ w args cargs K (⟨F,h1,h2,h3⟩|⟨F,h1,h2,h3⟩) hR ha
 ·subst h2;exact h F h1 B μ σ w args cargs K h3 hR ha
 ·subst h2;exact h' F h1 B μ σ w args cargs K h3 hR ha
theorem bA0 {β:Type}{c:Ctx}{k:VV→co→Option β}{y:β}{f:Nat}{args:List VV}{as:List Value}(hR:eI c)(hf:F2 (VRel c) args as): ∀{tab:List FSum},aS7 tab f args c.S k=some y→(fun f args σ K=> ∃F,F∈tab∧F.f=f∧F.spec args σ K:Ab.fB) f as c.σ (ia c (qA tab f args c.S) k y)
 |[],h=>by cases h
 |F::r,h=>by
  have next:aS7 r f args c.S k=some y→qA (F::r) f args c.S=qA r f args c.S→(fun f args σ K=> ∃G,G∈F::r∧G.f=f∧G.spec args σ K:Ab.fB) f as c.σ (ia c (qA (F::r) f args c.S) k y):=by
   intro h1 h2;obtain⟨G,h3,h4,h5⟩:=bA0 hR hf h1;rw[h2];exact⟨G,aB _ h3,h4,h5⟩
  simp only[aS7]at h;cases hb:Nat.beq F.f f with
  |false=>
   rw[hb,zD]at h;exact next h (by simp only[qA,hb,zD])
  |true=>
   rw[hb,zC]at h;cases hd:lB (ae6 F.vals args c.S) 0 [] F.ins args with
   |none=>
    rw[hd]at h;exact next h (by simp only[qA,hb,zC,hd])
   |some st=>
    rw[hd]at h;simp only at h;cases ht:ofL F.ins.shs st.ls with
    |none=>
     rw[ht]at h;exact next h (by simp only[qA,hb,zC,hd,ht])
    |some t=>
     rw[ht]at h;simp only at h;obtain⟨h1,h2⟩:=cx h;rw[Bool.and_eq_true]at h1;have hdirty:qA (F::r) f args c.S=iE F.objs st.m:=by simp only[qA,hb,zC,hd,ht]
     rw[hdirty];unfold cz8 at h2;obtain⟨o,h3,h4⟩:=cm h2;rw[bq4]at h4;obtain⟨p,h5,h6⟩:=cm h4;have hfz:=aU1 F.vals args c.S;split at h6
     ·rename_i v fs bs he;split at h6
      ·rename_i S' hS;refine⟨F,aD,aW hb,⟨c.μ,ae6 F.vals args c.S,c.σ,c.fb⟩,args,st,t,o,p,v,fs,bs,S',rfl,hfz.rel hR,VRel.frames hfz.le hf,hd,ht,h1.1,h1.2,h3,h5,he,hS, ?_⟩;rintro rv σ' ⟨ct,e1,e2,e3,e4,e5,e6⟩;exact⟨v,ct,e1,hfz.le.trans e3,e4,(hfz.calm _).trans e6 hfz.le,e5,by rw[e2];exact h6⟩
      ·cases h6
     ·cases h6
theorem bA1 {β:Type}{c:Ctx}{k:VV→co→Option β}{y:β}{f:Nat}{args:List VV}{as:List Value}(hR:eI c)(hf:F2 (VRel c) args as): ∀{is:List Inl},bR6 is f args c.S k=some y→∃I,I∈is∧I.f=f∧I.spec as c.σ (ia c (aR7 c.S.length) k y)
 |[],h=>by cases h
 |I::r,h=>by
  simp only[bR6]at h;cases hb:Nat.beq I.f f with
  |false=>
   rw[hb,zD]at h;obtain⟨J,h1,h2,h3⟩:=bA1 hR hf h;exact⟨J,aB _ h1,h2,h3⟩
  |true=>
   rw[hb,zC]at h;exact⟨I,aD,aW hb,β,y,c,args,k,rfl,hR,hf,h,fun r σ' h=>h⟩
theorem bA2 {β:Type}{c:Ctx}{k:VV→co→Option β}{y:β}{f:Nat}{args:List VV}{as:List Value}(hR:eI c)(hf:F2 (VRel c) args as){tab:Tab}(h:bR7 tab f args c.S k=some y):fP tab f as c.σ (ia c (br8 tab f args c.S) k y):=by
 unfold bR7 at h;unfold br8;cases hb:cs7 tab.is f with
 |false=>
  rw[hb,zD]at h;rw[zD];exact .inl (bA0 hR hf h)
 |true=>
  rw[hb,zC]at h;rw[zC];exact .inr (bA1 hR hf h)
theorem av5 {β:Type}{tab:Tab}{c:Ctx}{e:ed}{ea:dM}{k:VV→co→Option β}{y:β}(hR:eI c)(he:cy c e ea){op:AOp}(h:aT5 tab op e c.S k=some y):dv (fP tab) op ea c.σ (ia c (av4 tab op e c.S) k y):=by
 cases op<;>simp only[aT5]at h
 case move x=>exact cu3 hR he h
 case pick t a b=>
  split at h
  ·rename_i p hp;exact cw2 hR he hp h
  ·cases h
 case alloc es z=>exact ce7 hR h
 case box es x=>exact cC5 hR he h
 case build z ps=>
  split at h
  ·rename_i cs hc;exact cg2 hR he hc h
  ·cases h
 case buildSlice es ln z ps=>
  split at h
  ·rename_i cs hc;exact bd9 hR he hc h
  ·cases h
 case load x=>exact ct6 hR he h
 case loadN n x=>exact cj4 hR he h
 case store n a x=>exact co3 hR he (fun q hq=>aT2 _ hq) h
 case nilCheck x=>exact bC8 hR he h
 case bin op x z=>exact cC4 hR he h
 case eqv kd neg x z=>
  split at h
  ·rename_i p hp;exact cC9 hR he hp h
  ·cases h
 case eqCells neg ks x z=>
  split at h
  ·rename_i a b h1 h2;split at h
   ·rename_i p hp;exact bL9 hR he h1 h2 hp h
   ·cases h
  ·cases h
 case un op x=>exact cM2 hR he h
 case conv kd x=>
  split at h
  ·rename_i n hn;exact cq5 hR he hn h
  ·cases h
 case mkFunc f a b=>exact ca9 hR he h
 case makeSlice es bytes z l m=>exact cu1 hR he h
 case slice es x lo hi=>exact co2 hR he h
 case sliceArr es n x lo hi=>exact bG9 hR he h
 case off n x=>exact cE7 hR he h
 case idx es x i=>exact cD5 hR he h
 case idxA ln es x i=>exact ct2 hR he h
 case fieldV o n agg x=>
  split at h
  ·rename_i cs hc;exact bZ2 hR he hc h
  ·cases h
 case indexV ln es agg x i=>
  split at h
  ·rename_i cs kd i h1 h2;exact ca4 hR he h1 h2 h
  ·cases h
 case indexS x i=>
  split at h
  ·rename_i l kd i h1 h2;exact ca3 hR he h1 h2 h
  ·cases h
 case extract x i=>
  split at h
  ·rename_i vs hc;exact bM1 hR he hc h
  ·cases h
 case call f xs=>exact bA2 hR (aL6 he xs) h
 case callv x xs=>
  have hx:=dy he x;split at h
  ·rename_i f a b hv;rw[hv]at hx
   have: ∃a' b',ea.ev x= .func (.func f) a' b'∧F2 (VRel c) a a'.toList∧F2 (VRel c) b b'.toList:=by
    generalize ea.ev x=xa at hx;cases hx;exact⟨_,_,rfl,by assumption,by assumption⟩
   obtain⟨a',b',h1,h2,h3⟩:=this;have:=bA2 hR ((h2.append (aL6 he xs)).append h3) h;simp only[dv,h1,av4,hv];exact this
  ·cases h
 case append es bytes s x=>exact bK0 hR he (fun q hq=>aT2 _ hq) h fun h=>bX1 hR he (fun q hq=>aT2 _ hq) h
 case stuck=>cases h
 case capN x=>
  split at h
  ·rename_i hx;exact cq2 hR he hx h
  ·cases h
 case sliceX x hi mx=>exact cc8 hR he h
 case appendZ es bytes z s x=>exact bK1 hR he (fun q hq=>aT2 _ hq) h
 case copy es s x=>exact cq6 hR he (fun q hq=>aT2 _ hq) h
 case len x=>
  split at h
  ·cases h
  ·rename_i hns;split at h
   ·rename_i n hn;exact cE1 hR he hns hn h
   ·cases h
 case lenC n=>exact dK rfl (ia.same hR (.int _ _) h)
 case most x z=>
  split at h
  ·rename_i kd a kd' b h1 h2;exact cu2 hR he h1 h2 h
  ·cases h
 case least x z=>
  split at h
  ·rename_i kd a kd' b h1 h2;exact ci8 hR he h1 h2 h
  ·cases h
end
section
open Bool renaming and_eq_true → aD, or_eq_true → aZ
open List renaming mem_cons_of_mem → aY, map_congr_left → bD
open Nat renaming beq → aB, eq_of_beq_eq_true → aW, lt_of_lt_of_le → aX, beq_refl → bA, le_of_ble_eq_true → bB, le_refl → bC
def ot {β:Type}(c:Ctx)(k:ed→co→Option β)(y:β):dM→Hp→Prop:=fun ea σ'=> ∃e' c',c'.σ=σ'∧Le c c'∧eI c'∧cy c' e' ea∧k e' c'.S=some y
theorem ot.of {β:Type}{c c1:Ctx}{k:ed→co→Option β}{y:β}(h:Le c c1){ea:dM}{σ':Hp}(hp:ot c1 k y ea σ'):ot c k y ea σ':=by
 obtain⟨e',c',h1,h2,h3⟩:=hp;exact⟨e',c',h1,h.trans h2,h3⟩
def oN {β:Type}(c:Ctx)(k:AExit→ed→co→Option β)(y:β):AExit→dM→Hp→Prop:=fun x=>ot c (k x) y
section
variable {β:Type} {tab:Tab} {y:β}
theorem aT6 : ∀{ops:List AOper} {c:Ctx} {e:ed} {ea:dM} {k:ed→co→Option β},eI c→cy c e ea→ae2 tab ops e c.S k=some y→Ab.uz (fP tab) (ot c k y) ops ea c.σ
 |[],c,e,ea,k,hR,he,h=>⟨e,c,rfl,Le.refl c,hR,he,h⟩
 |o::r,c,e,ea,k,hR,he,h=>by
  have step: ∀e1,cy c e1 ea→aT5 tab o.op e1 c.S (fun v S'=>ae2 tab r (putO e1 o.dst v) S' k)=some y→dv (fP tab) o.op ea c.σ fun v σ'=>Ab.uz (fP tab) (ot c k y) r (ea.putO o.dst v) σ':=by
   intro e1 he1 h1;refine lu (du tab) (fun v σ' hv=> ?_) (av5 hR he1 h1);obtain⟨vv,c',h2,h3,h4,_,h6,h7⟩:=hv;subst h2;exact Ab.yK (du tab) (fun ea' σ'' hp=>hp.of h3) _ _ _ (aT6 h4 ((he1.frame h3).putO h6) h7)
  have skip: ∀e1,cy c e1 ea→ae2 tab r (putO e1 o.dst (.tup [])) c.S k=some y→Ab.uz (fP tab) (ot c k y) r (ea.putO o.dst undef) c.σ:=fun e1 he1 h1=>aT6 hR (he1.putO (.tup .nil)) h1
  simp only[ae2]at h;simp only[Ab.uz];split at h
  ·rename_i hg;have:wanted o ea=true:=by simp only[wanted,hg]
   rw[zE this];exact step e he h
  ·rename_i t w hg;split at h
   ·rename_i p hp;have ht:=he t;rw[hp]at ht;have ht:=ht.bool_inv;have hw:wanted o ea=(p==w):=by simp only[wanted,hg,ht]
    have hput:cy c (na e t (.bool p)) ea:=by
     have:=he.put (d:=t) (VRel.bool (c:=c) p);intro i;have h1:=this i;unfold dM.put at h1;by_cases hi:i=t
     ·rw[zE hi]at h1;subst hi;rw[ht];exact h1
     ·rw[zF hi]at h1;exact h1
    rw[hw];cases p<;>cases w<;>simp only[zC,zD]at h
    ·rw[zE (by decide)];exact step _ hput h
    ·rw[zF (by decide)];exact skip _ hput h
    ·rw[zF (by decide)];exact skip _ hput h
    ·rw[zE (by decide)];exact step _ hput h
   ·rename_i hp;have ht:=he t;rw[hp]at ht
    have hw:wanted o ea=false:=by
     simp only[wanted,hg];generalize ea t=u at ht;cases ht;rfl
    rw[hw,zF (by decide)];exact skip _ he h
   ·cases h
def ce3 :Value→Option Nat
 | .pointer (some a)=>some a.block
 | .slice (some a) _ _=>some a.block
 |_=>none
def zV :AOp→Operand
 | .load x| .loadN _ x| .sliceArr _ _ x _ _| .slice _ x _ _=>x
 |_=> .global 0
theorem aV1 {op:AOp}{ea:dM}{σ σ1 σ':Hp}{v:Value}(hl:op.isLoad=true)(h:op.run ea σ=some (v,σ1))(hd: ∀b,ce3 (ea.ev (zV op))=some b→σ'.m b=σ.m b):op.run ea σ'=some (v,σ'):=by
 cases op<;>try(cases hl;done)
 case load x=>
  simp only[AOp.run,zV]at h hd⊢;split at h
  ·rename_i b o hx;rw[hx]at hd;rw[hd b rfl];split at h
   ·rename_i blk hb;cases hc:blk.cells[o]? with
    |none=>rw[hc]at h;cases h
    |some u=>
     rw[hc]at h;injection h with h
     injection h with h1 h2
     subst h1;rfl
   ·cases h
  ·cases h
 case loadN n x=>
  simp only[AOp.run,zV]at h hd⊢;split at h
  ·rename_i b o hx;rw[hx]at hd;rw[hd b rfl];split at h
   ·rename_i blk hb;cases hc:mK blk o n with
    |none=>rw[hc]at h;cases h
    |some u=>
     rw[hc]at h;injection h with h
     injection h with h1 h2
     subst h1;rfl
   ·cases h
  ·cases h
 case slice es x lo hi=>
  cases lo with
  |none=>cases hl
  |some l=>
   simp only[AOp.run,zV]at h hd⊢;split at h
   ·rename_i a ln cap hx;rw[hx]at hd
    have hm:vZ σ' es a (some l)=vZ σ es a (some l):=by
     cases a with
     |none=>rfl
     |some a=>simp only[vZ];rw[hd a.block rfl]
    rw[hm];cases hc:(cap==0||vZ σ es a (some l))with
    |false=>rw[hc]at h;simp at h
    |true=>
     rw[hc,zE rfl]at h;rw[zE rfl];split at h
     ·split at h
      ·injection h with h
       injection h with h1 h2
       subst h1;rfl
      ·cases h
     ·cases h
   ·cases h
 case sliceArr es n x lo hi=>
  simp only[AOp.run,zV]at h hd⊢;split at h
  ·rename_i b o hx;rw[hx]at hd;rw[hd b rfl];split at h
   ·rename_i blk hb;split at h
    ·rename_i hc;rw[zE hc];split at h
     ·split at h
      ·split at h
       ·rename_i hlt;injection h with h
        injection h with h1 h2
        subst h1;rw[zE hlt]
       ·cases h
      ·cases h
     ·cases h
    ·cases h
   ·cases h
  ·cases h
theorem cj5 {op:AOp}{ea:dM}{σ σ1:Hp}{v:Value}{q:Option Addr}(hl:op.isLoad=true)(hx:ea.ev (zV op)= .slice q 0 0)(h:op.run ea σ=some (v,σ1))(σ':Hp):op.run ea σ'=some (v,σ'):=by
 cases op<;>try(cases hl;done)
 case load x=>
  simp only[zV]at hx;simp only[AOp.run,hx]at h;cases h
 case loadN n x=>
  simp only[zV]at hx;simp only[AOp.run,hx]at h;cases h
 case slice es x lo hi=>
  simp only[zV]at hx;simp only[AOp.run,hx,beq_self_eq_true,Bool.true_or,if_true]at h⊢;split at h
  ·split at h
   ·injection h with h
    injection h with h1 h2
    subst h1;rfl
   ·cases h
  ·cases h
 case sliceArr es n x lo hi=>
  simp only[zV]at hx;simp only[AOp.run,hx]at h;cases h
def ao6 (c:Ctx)(p:Hp→Prop):Option (Option Nat)→Prop
 |none=>True
 |some none=>p c.σ∧∀σ',(∀b y,c.σ.m b=some y→¬c.mut b→σ'.m b=some y)→p σ'
 |some (some q)=>(cl c.S q).dim≠none∧p c.σ∧∀σ',(∀b,c.μ q=some b→σ'.m b=c.σ.m b)→p σ'
inductive ChkRel (c:Ctx):List (Nat×(Hp→Prop))→Chk→Prop where
 |nil:ChkRel c [] []
 |cons {i:Nat} {p:Hp→Prop} {s:Option (Option Nat)} {l:List (Nat×(Hp→Prop))} {m:Chk}:ao6 c p s→ChkRel c l m→ChkRel c ((i,p)::l) ((i,s)::m)
theorem ao6.now {c:Ctx}{p:Hp→Prop}{s:Option Nat}(h:ao6 c p (some s)):p c.σ:=by
 cases s with
 |none=>exact h.1
 |some q=>exact h.2.1
theorem ao6.next {c c':Ctx}{p:Hp→Prop}{d:List Nat}(hl:Le c c')(hc:qX d c c'): ∀{s:Option (Option Nat)},ao6 c p s→ao6 c' p (match s with
  |some (some q)=>cond (jN q d) none (some (some q))
  |s=>s)
 |none,_=>trivial
 |some none,h=>by
  refine⟨h.2 _ fun b y hy hn=>(hl.rd b y hy hn).1,fun σ' hσ=>h.2 σ' fun b y hy hn=> ?_⟩;obtain⟨h1,h2⟩:=hl.rd b y hy hn;exact hσ b y h1 h2
 |some (some q),h=>by
  cases hm:jN q d with
  |true=>
   show ao6 c' p (cond (jN q d) none (some (some q)));rw[hm];exact trivial
  |false=>
   show ao6 c' p (cond (jN q d) none (some (some q)));rw[hm];obtain⟨h1,h2,h3⟩:=h;have hq:q∉d:=fun e=>by rw[iZ.2 e]at hm;cases hm
   obtain⟨h4,h5⟩:=hc q (jP h1) hq h1
   have hmu:c'.μ q=c.μ q:=by
    cases hdd:(cl c'.S q).dim with
    |none=>exact(h4 hdd).elim
    |some dd=>exact(hl.al q dd (jP h1) hdd).2
   exact⟨h4,h3 _ h5,fun σ' hσ=>h3 σ' fun b hb=>by rw[hσ b (by rw[hmu];exact hb),h5 b hb]⟩
theorem ChkRel.next {c c':Ctx}{d:List Nat}(hl:Le c c')(hc:qX d c c'): ∀{l:List (Nat×(Hp→Prop))} {m:Chk},ChkRel c l m→ChkRel c' l (aL1 d m)
 |_,_, .nil=> .nil
 |_,_, .cons (s:=s) h1 h2=>by
  have h3:=h1.next hl hc
  have h4:=ChkRel.next hl hc h2
  cases s with
  |none=>exact .cons h3 h4
  |some s=>
   cases s with
   |none=>exact .cons h3 h4
   |some q=>exact .cons h3 h4
theorem uy : ∀m:Chk,aL1 [] m=m
 |[]=>rfl
 |(i,none)::r=>by simp only[aL1,uy r]
 |(i,some none)::r=>by simp only[aL1,uy r]
 |(i,some (some q))::r=>by simp only[aL1,uy r,jN,zD]
theorem ar0 {c:Ctx}{is:List Nat}: ∀{l:List (Nat×(Hp→Prop))} {m:Chk},ChkRel c l m→jz is m=true→ti is c.σ l
 |_,_, .nil,_=>trivial
 |_,_, .cons (i:=i) (s:=s) h1 h2,h=>by
  simp only[jz]at h;simp only[ti]
  have hc:is.contains i=jN i is:=by
   cases hm:jN i is with
   |true=>simpa using iZ.1 hm
   |false=>
    cases hh:is.contains i with
    |false=>rfl
    |true=>
     have:i∈is:=by simpa using hh
     rw[iZ.2 this]at hm;cases hm
  rw[hc];cases hm:jN i is with
  |false=>
   rw[hm,zD]at h;rw[zF (by decide)];exact ar0 h2 h
  |true=>
   rw[hm,zC]at h;rw[zE rfl];cases s with
   |none=>cases h
   |some s=>exact⟨h1.now,ar0 h2 h⟩
theorem bf4 {c:Ctx}{e:ed}{ea:dM}{op:AOp}{v:Value}{σ1:Hp}(hR:eI c)(he:cy c e ea)(hl:op.isLoad=true)(h:op.run ea c.σ=some (v,σ1)):ao6 c (fun σ'=>op.run ea σ'=some (v,σ')) (cp9 c.S op e):=by
 have hx:=dy he (zV op);have hself:op.run ea c.σ=some (v,c.σ):=aV1 hl h fun _ _=>rfl
 have key:ao6 c (fun σ'=>op.run ea σ'=some (v,σ')) (cf2 c.S (ev e (zV op))):=by
  generalize ev e (zV op)=xv at*
  have blkcase: ∀q,ua xv=some q→(∀b,ce3 (ea.ev (zV op))=some b→(cl c.S q).dim≠none→c.μ q=some b)→ao6 c (fun σ'=>op.run ea σ'=some (v,σ')) (cond (cl c.S q).live (some (some q)) none):=by
   intro q hq hb;cases hlv:(cl c.S q).live with
   |false=>trivial
   |true=>
    obtain⟨dm,hdm⟩:=pW hlv;exact⟨by rw[hdm];simp,hself,fun σ' hσ=>aV1 hl h fun b hbb=>hσ b (hb b hbb (by rw[hdm];simp))⟩
  have novalue:(∀b,ce3 (ea.ev (zV op))=some b→∃y,c.σ.m b=some y∧¬c.mut b)→ao6 c (fun σ'=>op.run ea σ'=some (v,σ')) (some none):=by
   intro hb;refine⟨hself,fun σ' hσ=>aV1 hl h fun b hbb=> ?_⟩;obtain⟨y,h1,h2⟩:=hb b hbb;rw[hσ b y h1 h2,h1]
  cases xv<;>simp only[cf2,ua]<;>try exact trivial
  case ptr q o=>
   refine blkcase q rfl fun b hb hdm=> ?_
   cases hx with
   |ptr hk ho hd=>
    cases hdd:(cl c.S q).dim with
    |none=>exact(hdm hdd).elim
    |some d=>
     obtain⟨b',h1,h2⟩:=hd d hdd;rw[h2]at hb;injection hb with hb
     subst hb;exact h1
  case it q l=>
   refine blkcase q rfl fun b hb hdm=> ?_
   obtain⟨s,_,hd⟩:=hx.it_inv;cases hdd:(cl c.S q).dim with
   |none=>exact(hdm hdd).elim
   |some d=>
    obtain⟨b',h1,h2⟩:=hd d hdd;rw[h2]at hb;cases hb
  case bld q=>
   refine blkcase q rfl fun b hb hdm=> ?_
   cases hx with
   |bld _ _ hd=>
   cases hdd:(cl c.S q).dim with
   |none=>exact(hdm hdd).elim
   |some d=>
    obtain⟨b',h1,h2⟩:=hd d hdd;rw[h2]at hb;cases hb
  case pix q o n i=>
   refine blkcase q rfl fun b hb hdm=> ?_
   cases hx with
   |pix hk ho hi hd=>
    cases hdd:(cl c.S q).dim with
    |none=>exact(hdm hdd).elim
    |some d=>
     obtain⟨b',h1,h2⟩:=hd d hdd;rw[h2]at hb;injection hb with hb
     subst hb;exact h1
  case pel q i o=>
   refine blkcase q rfl fun b hb hdm=> ?_
   cases hx with
   |pel hk ho hd=>
    cases hdd:(cl c.S q).dim with
    |none=>exact(hdm hdd).elim
    |some d=>
     obtain⟨b',h1,h2⟩:=hd d hdd;rw[h2]at hb;injection hb with hb
     subst hb;exact h1
  case full q=>
   refine blkcase q rfl fun b hb hdm=> ?_
   cases hx with
   |full hk ho hd=>
    cases hdd:(cl c.S q).dim with
    |none=>exact(hdm hdd).elim
    |some d=>
     obtain⟨n,_,h2⟩:=hd d hdd;rcases h2 with⟨h2,_⟩|⟨b',cp,yb,h2,h3,_⟩
     ·rw[h2]at hb;cases hb
     ·rw[h2]at hb;injection hb with hb
      subst hb;exact h3
  case part q lo n=>
   refine blkcase q rfl fun b hb hdm=> ?_
   cases hx with
   |part hk ho hd=>
    cases hdd:(cl c.S q).dim with
    |none=>exact(hdm hdd).elim
    |some d=>
     rcases hd d hdd with⟨h2,_⟩|⟨b',cp,yb,h2,h3,_⟩
     ·rw[h2]at hb;cases hb
     ·rw[h2]at hb;injection hb with hb
      subst hb;exact h3
  case pin s x o=>
   refine novalue fun b hb=> ?_
   generalize ea.ev (zV op)=xa at*;cases hx with
   |pin hn hy hl hf=>
    injection hb with hb
    subst hb;exact⟨_,hy,hn⟩
  case lst s l=>
   generalize hxa:ea.ev (zV op)=xa at*;cases hx with
   |lstn hq=>
    refine⟨hself,fun σ' hσ=> ?_⟩;have:=cj5 hl hxa h;exact this σ'
   |lst hn hy _ _ _ _ _=>
    refine novalue fun b hb=> ?_
    injection hb with hb
    subst hb;exact⟨_,hy,hn⟩
  case nils=>
   refine novalue fun b hb=> ?_
   generalize ea.ev (zV op)=xa at*;cases hx;cases hb
 cases op<;>first|(cases hl;done)|exact key
theorem af7 {T:Ab.fB}{op:AOp}{e:dM}{σ:Hp}(hs:op.still=true){k:Value→Hp→Prop}:(match op.run e σ with
  |some (v,σ')=>k v σ'
  |none=>False)=dv T op e σ k:=by
 cases op<;>first|(cases hs;done)|rfl
theorem bZ1 {it:SItem}{c:Ctx}{e:ed}{ea:dM}{chk:Chk}{ach:List (Nat×(Hp→Prop))}{k:Chk→ed→co→Option β}(hR:eI c)(he:cy c e ea)(hc:ChkRel c ach chk)(h:aB5 tab it chk e c.S k=some y){Q:List (Nat×(Hp→Prop))→dM→Hp→Prop}
  (hQ: ∀c' ach' chk' e' ea',Le c c'→eI c'→ChkRel c' ach' chk'→cy c' e' ea'→k chk' e' c'.S=some y→Q ach' ea' c'.σ):
  if it.mover then dv (fP tab) it.o.op ea c.σ (fun v σ'=>ti it.chks σ' ach∧Q ach (ea.putO it.o.dst v) σ')
  else match it.o.op.run ea c.σ with
   |some (v,_)=>Q (if it.keep then(it.idx,fun σ'=>it.o.op.run ea σ'=some (v,σ'))::ach else ach) (ea.putO it.o.dst v) c.σ
   |none=>False:=by
 unfold aB5 at h;cases hm:it.mover with
 |true=>
  rw[hm,zC]at h;rw[zE rfl];obtain⟨h1,h2⟩:=cx h;refine lu (du tab) (fun v σ' hv=> ?_) (av5 hR he h2);obtain⟨vv,c',h3,h4,h5,h6,h7,h8⟩:=hv;subst h3;have hn:=hc.next h4 h6
  exact⟨ar0 hn h1,hQ c' ach _ _ _ h4 h5 hn ((he.frame h4).putO h7) h8⟩
 |false=>
  rw[hm,zD]at h;rw[zF (by decide)];obtain⟨h1,h2⟩:=cx h;rw[aD]at h1;have h3:=av5 hR he h2;rw[←af7 h1.1]at h3;cases hr:it.o.op.run ea c.σ with
  |none=>rw[hr]at h3;exact h3
  |some p=>
   obtain⟨v,σ1⟩:=p;rw[hr]at h3;obtain⟨vv,c',h4,h5,h6,h7,h8,h9⟩:=h3;simp only
   have hd:av4 tab it.o.op e c.S=[]:=by
    have:=h1.1;cases hop:it.o.op<;>rw[hop]at this<;>first|(cases this;done)|rfl
   have hn:=hc.next h5 h7
   rw[hd,uy]at hn;have hσ1:σ1=c.σ:=ar4 h1.1 hr;rw[←hσ1,←h4];cases hk:it.keep with
   |false=>
    rw[hk,zD]at h9;rw[zF (by decide)];exact hQ c' ach chk _ _ h5 h6 hn ((he.frame h5).putO h8) h9
   |true=>
    rw[hk,zC]at h9;rw[zE rfl];have hld:it.o.op.isLoad=true:=by have:=h1.2;rw[hk]at this;simpa using this
    have hkp:=bf4 hR he hld hr;have hn2:=(ChkRel.cons (i:=it.idx) hkp hc).next h5 h7
    rw[hd,uy]at hn2;exact hQ c' _ _ _ _ h5 h6 hn2 ((he.frame h5).putO h8) h9
end
structure LeV (c c':Ctx):Prop where
 len:c.S.length≤c'.S.length
 al: ∀k d,k<c.S.length→(cl c'.S k).dim=some d→(cl c.S k).dim=some d∧c'.μ k=c.μ k
 ln: ∀k d b y,k<c.S.length→(cl c'.S k).dim=some d→c.μ k=some b→c.σ.m b=some y→∃y',c'.σ.m b=some y'∧y'.cells.length=y.cells.length
 rd: ∀b y,c.σ.m b=some y→¬c.mut b→c'.σ.m b=some y∧¬c'.mut b
theorem SlR.frameV {c c':Ctx}(h:LeV c c'){k lo n:Nat}{d:Nat×Nat}{a:Value}(hk:k<c.S.length)(hd:(cl c'.S k).dim=some d)(hs:SlR c k lo n d a):SlR c' k lo n d a:=by
 obtain⟨h1,h2⟩:=h.al k d hk hd;rcases hs with⟨rfl,rfl,rfl,hm,hz⟩|⟨b,cp,y,rfl,hm,h3,h4,hy,h5⟩
 ·exact .inl ⟨rfl,rfl,rfl,h2.trans hm,hz⟩
 ·obtain⟨y',hy',hl⟩:=h.ln k d b y hk hd hm hy;exact .inr ⟨b,cp,y',rfl,h2.trans hm,h3,h4,hy',by rw[hl];exact h5⟩
theorem VRel.frameV {c c':Ctx}(h:LeV c c'): ∀{v:VV} {a:Value},VRel c v a→VRel c' v a
 |_,_, .undef a=> .undef a
 |_,_, .bool b=> .bool b
 |_,_, .int k n=> .int k n
 |_,_, .str hs=> .str hs
 |_,_, .nilp=> .nilp
 |_,_, .nils=> .nils
 |_,_, .nilf=> .nilf
 |_,_, .ptr hk h1 hd=> .ptr (aX hk h.len) h1 fun d hd'=>by
  obtain⟨h1,h2⟩:=h.al _ d hk hd';obtain⟨b,h3,h4⟩:=hd d h1;exact⟨b,h2.trans h3,h4⟩
 |_,_, .it hk h1 hs hd=> .it (aX hk h.len) h1 hs fun d hd'=>by
  obtain⟨h1,h2⟩:=h.al _ d hk hd';obtain⟨b,h3,h4⟩:=hd d h1;exact⟨b,h2.trans h3,h4⟩
 |_,_, .bld hk h1 hd=> .bld (aX hk h.len) h1 fun d hd'=>by
  obtain⟨h1,h2⟩:=h.al _ d hk hd';obtain⟨b,h3,h4⟩:=hd d h1;exact⟨b,h2.trans h3,h4⟩
 |_,_, .pix hk h1 hi hd=> .pix (aX hk h.len) h1 hi fun d hd'=>by
  obtain⟨h1,h2⟩:=h.al _ d hk hd';obtain⟨b,h3,h4⟩:=hd d h1;exact⟨b,h2.trans h3,h4⟩
 |_,_, .pel hk h1 hd=> .pel (aX hk h.len) h1 fun d hd'=>by
  obtain⟨h1,h2⟩:=h.al _ d hk hd';obtain⟨b,h3,h4⟩:=hd d h1;exact⟨b,h2.trans h3,h4⟩
 |_,_, .pin hn hy hl hf=> .pin (h.rd _ _ hy hn).2 (h.rd _ _ hy hn).1 hl (go hf)
 |_,_, .lstn hq=> .lstn hq
 |_,_, .tgtn hq=> .tgtn hq
 |_,_, .tgt hn hy he h3 hf=> .tgt (h.rd _ _ hy hn).2 (h.rd _ _ hy hn).1 he h3 (go hf)
 |_,_, .lst hn hy he h1 h2 h3 hf=> .lst (h.rd _ _ hy hn).2 (h.rd _ _ hy hn).1 he h1 h2 h3 (go hf)
 |_,_, .full hk h1 hd=> .full (aX hk h.len) h1 fun d hd'=>by
  obtain⟨h1,h2⟩:=h.al _ d hk hd';obtain⟨n,h3,h4⟩:=hd d h1;exact⟨n,h3,h4.frameV h hk hd'⟩
 |_,_, .part hk h1 hd=> .part (aX hk h.len) h1 fun d hd'=>by
  obtain⟨h1,h2⟩:=h.al _ d hk hd';exact(hd d h1).frameV h hk hd'
 |_,_, .fn h1 h2=> .fn (go h1) (go h2)
 |_,_, .agg h1=> .agg (go h1)
 |_,_, .tup h1=> .tup (go h1)
where
 go: ∀{l:List VV} {m:List Value},F2 (VRel c) l m→F2 (VRel c') l m
  |_,_, .nil=> .nil
  |_,_, .cons h1 h2=> .cons (VRel.frameV h h1) (go h2)
theorem VRel.framesV {c c':Ctx}(h:LeV c c'){l:List VV}{m:List Value}(hf:F2 (VRel c) l m):F2 (VRel c') l m:=hf.imp fun _ _ hv=>hv.frameV h
theorem cy.frameV {c c':Ctx}{e:ed}{ea:dM}(h:cy c e ea)(hl:LeV c c'):cy c' e ea:=fun t=>(h t).frameV hl
def nY (op:AOp)(ea:dM)(x:Ab.Blk)(vf:Nat→Value):Prop:= ∀σ:Hp,op.run ea σ=some (vf σ.n,σ.add x)
theorem nY.unique {op:AOp}{ea:dM}{x x':Ab.Blk}{vf vf':Nat→Value}(h:nY op ea x vf)(h':nY op ea x' vf'):x=x'∧vf=vf':=by
 have key: ∀n,vf n=vf' n∧x=x':=by
  intro n;have h1:=h ⟨fun _=>none,n⟩;rw[h' ⟨fun _=>none,n⟩]at h1;injection h1 with h1
  injection h1 with h1 h2
  refine⟨h1.symm, ?_⟩;have h3:=congrArg (fun s:Hp=>s.m n) h2;simp only[Hp.add,if_true]at h3;injection h3 with h3
  exact h3.symm
 exact⟨(key 0).2,funext fun n=>(key n).1⟩
theorem bs4 {ea ea':dM}{x:Operand}(h: ∀t∈bD7 x,ea' t=ea t):ea'.ev x=ea.ev x:=by
 cases x with
 |tmp t=>exact h t (by simp[bD7])
 |_=>rfl
theorem nY.same {op:AOp}{ea ea':dM}{x:Ab.Blk}{vf:Nat→Value}(h:nY op ea x vf)(hf:uj op=true)(he: ∀t∈vo op,ea' t=ea t):nY op ea' x vf:=by
 intro σ;have h1:=h σ;cases op<;>first|(cases hf;done)|skip
 case alloc es z=>exact h1
 case makeSlice es bytes z l m=>
  have e1:ea'.ev l=ea.ev l:=bs4 fun t ht=>he t (by simp[vo,ht])
  have e2:ea'.ev m=ea.ev m:=bs4 fun t ht=>he t (by simp[vo,ht])
  simp only[AOp.run]at h1⊢;rw[e1,e2];exact h1
 case buildSlice es ln z ps=>
  have e1:(ps.map fun(o,s,x)=>(o,s,ea'.ev x))=ps.map fun(o,s,x)=>(o,s,ea.ev x):=by
   apply bD;rintro⟨o,s,x⟩ hx;simp only;rw[bs4 fun t ht=>he t (List.mem_flatMap.2 ⟨_,hx,ht⟩)]
  simp only[AOp.run]at h1⊢;rw[e1];exact h1
theorem aX4 {c c':Ctx}: ∀{l:List VV} {m:List Value},l.all bV6=true→F2 (VRel c) l m→F2 (VRel c') l m
 |_,_,_, .nil=> .nil
 |v::l,_,h, .cons h1 h2=>by
  rw[List.all_cons,aD]at h;refine .cons ?_ (aX4 h.2 h2);cases h1<;>first|(cases h.1;done)|skip
  ·exact .bool _
  ·exact .int _ _
  ·exact .str (by assumption)
structure FreshFact (op:AOp)(ea:dM)(blk:Blk)(w:Bool)(x:Ab.Blk)(vf:Nat→Value):Prop where
 run:nY op ea x vf
 fz:blk.frozen=false
 dm: ∃dm cs rest,blk.dim=some dm∧1≤dm.1∧x.es=dm.1∧x.own=true∧x.cells=cs++rest∧∀c':Ctx,F2 (VRel c') blk.vals cs
 vv: ∀(c':Ctx) (k b:Nat),k<c'.S.length→cl c'.S k=blk→c'.μ k=some b→c'.σ.m b=some x→VRel c' (vvF w k) (vf b)
theorem aq1 {β:Type}{c:Ctx}{e:ed}{ea:dM}{op:AOp}{k:Blk→Bool→Option β}{y:β}(he:cy c e ea)(h:yp op e k=some y):uj op=true∧∃blk w x vf,k blk w=some y∧FreshFact op ea blk w x vf:=by
 cases op<;>simp only[yp]at h<;>first|(cases h;done)|skip
 case alloc es z=>
  obtain⟨h1,h2⟩:=cx h;have h1:=bB h1;refine⟨rfl,_,_,⟨z,true,es⟩,fun n=> .pointer (some ⟨n,0,none⟩),h2,⟨fun σ=>rfl,(tc es z).2.1,⟨(es,z.length),z,[],(tc es z).1,h1,rfl,rfl,by simp,fun c'=>(tc es z).2.2 c'⟩,fun c' k b hk hs hm hy=> ?_⟩⟩;refine .ptr hk rfl fun d hd=>⟨b,hm,rfl⟩
 case makeSlice es bytes z l m=>
  have hl:=dy he l;have hm:=dy he m;split at h
  ·rename_i k1 a k2 b s h1 h2 hs;rw[h1]at hl;rw[h2]at hm;obtain⟨hg,hk⟩:=cx h;simp only[aD]at hg;obtain⟨⟨⟨⟨g1,g2⟩,g3⟩,g4⟩,g5⟩:=hg;have g1:=aW g1;have g2:=of_decide_eq_true g2;have g3:=of_decide_eq_true g3;have g4:=of_decide_eq_true g4;have g5:=bB g5;have hz: ∀c':Ctx,F2 (VRel c') (ei s (pZ s)) z:=fun c'=>wP (c:=c') hs
   have hzl:z.length=s.w:=by rw[←(hz c).length,eu]
   have hb:b≤bytes*b:=by
    have:(1:Int)*b≤bytes*b:=Int.mul_le_mul_of_nonneg_right (by omega) (by omega);omega
   refine⟨rfl,_,_,⟨er z b.toNat,true,es⟩,fun n=> .slice (some ⟨n,0,none⟩) a.toNat b.toNat,hk,⟨fun σ=> ?_,rfl,⟨(s.w,(List.replicate a.toNat (pZ s)).length*s.w),er z a.toNat,er z (b.toNat-a.toNat),rfl,kv s,g1,rfl, ?_,fun c'=> ?_⟩,fun c' k q hk hs' hm' hy=> ?_⟩⟩
   ·simp only[AOp.run,hl.int_inv,hm.int_inv];rw[zE ⟨g2,g3,by omega,by omega⟩]
   ·show er z b.toNat=_;rw[←bj3]
    congr 1
    omega
   ·show F2 (VRel c') (fg s (List.replicate a.toNat (pZ s))) (er z a.toNat);rw[ob];generalize a.toNat=n;induction n with
    |zero=>exact .nil
    |succ n ih=>
     simp only[er,List.replicate_succ,List.flatten_cons]at ih⊢;exact(hz c').append ih
   ·refine .full hk rfl fun d hd=> ?_
    rw[hs']at hd;injection hd with hd
    subst hd;refine⟨a.toNat,by simp, .inr ⟨q,b.toNat,_,by simp,hm',by simp,by omega,hy, ?_⟩⟩;rw[Nat.zero_add];show b.toNat*s.w≤(er z b.toNat).length;rw[bj4,hzl];exact bC _
  ·cases h
 case buildSlice es ln z ps=>
  split at h
  ·rename_i cs hf;obtain⟨h1,h2⟩:=cx h;simp only[aD]at h1;obtain⟨⟨⟨⟨g1,g2⟩,g3⟩,g4⟩,g5⟩:=h1;have g2:=aW g2;have g3:=bB g3;obtain⟨ra,h3,h4⟩:=tg he ps hf (aD7 ln z);refine⟨g5,_,_,⟨ra,true,es⟩,fun n=> .slice (some ⟨n,0,none⟩) ln ln,h2,⟨fun σ=> ?_,rfl,⟨(es,cs.length),ra,[],rfl,g3,rfl,rfl,by simp,fun c'=>aX4 g4 h4⟩,fun c' k q hk hs' hm' hy=> ?_⟩⟩
   ·simp only[AOp.run,h3];rw[zE (iV h4 g1)]
   ·refine .full hk rfl fun d hd=> ?_
    rw[hs']at hd;injection hd with hd
    subst hd;refine⟨ln,g2, .inr ⟨q,ln,_,by simp,hm',by simp[g2],bC _,hy, ?_⟩⟩;rw[Nat.zero_add];show ln*es≤ra.length;rw[←h4.length];exact Nat.le_of_eq g2
  ·cases h
theorem mY {i q:Nat}: ∀{l:List Nat},l.Nodup→(q∈an2 i l↔q∈l∧q≠i)
 |[],_=>by simp[an2]
 |a::r,h=>by
  obtain⟨h1,h2⟩:=List.nodup_cons.1 h;simp only[an2];cases hb:aB a i with
  |true=>
   have:=aW hb;subst this;rw[zC];constructor
   ·intro hq;exact⟨aY _ hq,fun e=>h1 (e▸hq)⟩
   ·rintro⟨hq,hn⟩;rcases List.mem_cons.1 hq with rfl|hq
    ·exact(hn rfl).elim
    ·exact hq
  |false=>
   have hne:a≠i:=fun e=>by subst e;rw[bA]at hb;cases hb
   rw[zD,List.mem_cons,List.mem_cons,mY h2];constructor
   ·rintro(rfl|⟨h3,h4⟩)
    ·exact⟨.inl rfl,hne⟩
    ·exact⟨.inr h3,h4⟩
   ·rintro⟨rfl|h3,h4⟩
    ·exact .inl rfl
    ·exact .inr ⟨h3,h4⟩
theorem aF8 {i:Nat}: ∀{l:List Nat},l.Nodup→(an2 i l).Nodup
 |[],h=>h
 |a::r,h=>by
  obtain⟨h1,h2⟩:=List.nodup_cons.1 h;simp only[an2];cases hb:aB a i with
  |true=>exact h2
  |false=>
   rw[zD,List.nodup_cons];exact⟨fun hq=>h1 ((mY h2).1 hq).1,aF8 h2⟩
section
variable {tab:Tab} {ops:List (AOper×List Nat)}
structure InvL (ops:List (AOper×List Nat))(c0 c:Ctx)(e:ed)(ea:dM)(ach:List (Nat×(Hp→Prop)))(chk:Chk)(P ls nd:List Nat)(r:List LItem)(pd:Nat→Nat):Prop where
 le:Le c0 ⟨c.μ,c.S,c.σ,c0.fb⟩
 R:eI c
 E:cy c e ea
 K:ChkRel c ach chk
 ks:ach.map (·.1)=ls
 nd:jz nd chk=true
 fb: ∀b,c.fb b↔(c0.fb b∨∃q∈P,pd q=b)
 nod:P.Nodup
 inj: ∀q q',q∈P→q'∈P→pd q=pd q'→q=q'
 new: ∀q∈P,c0.σ.n≤pd q
 pend: ∀q∈P,uj (dU ops q).op=true∧∃x vf,nY (dU ops q).op ea x vf∧c.σ.m (pd q)=some x∧∀t,(dU ops q).dst=some t→ea t=vf (pd q)
 und: ∀it∈r,aB it.kind 2=true→∀t,(dU ops it.i).dst=some t→jI e t= .undef
 ds:bg1 ops r=true
theorem ao6.frameV {c c':Ctx}{p:Hp→Prop}(hR:eI c)(hl:LeV c c')(hS: ∀q,q<c.S.length→cl c'.S q=cl c.S q)(hmu: ∀q,q<c.S.length→c'.μ q=c.μ q)(hσ: ∀b y,c.σ.m b=some y→c'.σ.m b=some y): ∀{s:Option (Option Nat)},ao6 c p s→ao6 c' p s
 |none,_=>trivial
 |some none,h=>by
  refine⟨h.2 _ fun b y hy _=>hσ b y hy,fun σ' hσ'=>h.2 σ' fun b y hy hn=> ?_⟩;obtain⟨h1,h2⟩:=hl.rd b y hy hn;exact hσ' b y h1 h2
 |some (some q),h=>by
  obtain⟨h1,h2,h3⟩:=h;have hq:=jP h1
  have hb: ∀b,c.μ q=some b→c'.σ.m b=c.σ.m b:=by
   intro b hb;cases hd:(cl c.S q).dim with
   |none=>exact(h1 hd).elim
   |some d=>
    obtain⟨_,h4⟩:=hR.blk q d hd;rcases h4 with⟨_,h4⟩|⟨b',y,cs,rest,h4,h5,_⟩
    ·rw[hb]at h4;cases h4
    ·rw[hb]at h4;injection h4 with h4
     subst h4;rw[h5];exact hσ _ _ h5
  exact⟨by rw[hS q hq];exact h1,h3 _ hb,fun σ' hs=>h3 σ' fun b hb'=>(hs b (by rw[hmu q hq];exact hb')).trans (hb b hb')⟩
theorem ChkRel.frameV {c c':Ctx}(hR:eI c)(hl:LeV c c')(hS: ∀q,q<c.S.length→cl c'.S q=cl c.S q)(hmu: ∀q,q<c.S.length→c'.μ q=c.μ q)(hσ: ∀b y,c.σ.m b=some y→c'.σ.m b=some y): ∀{l:List (Nat×(Hp→Prop))} {m:Chk},ChkRel c l m→ChkRel c' l m
 |_,_, .nil=> .nil
 |_,_, .cons h1 h2=> .cons (h1.frameV hR hl hS hmu hσ) (h2.frameV hR hl hS hmu hσ)
theorem um {c:Ctx}{m:Nat}{is:List Nat}: ∀{l:List (Nat×(Hp→Prop))} {chk:Chk},ChkRel c l chk→jz is chk=true→(∀i∈l.map (·.1),sf ops i m=true∨jN i is=true)→yW ops m c.σ l
 |_,_, .nil,_,_=>trivial
 |_,_, .cons (i:=i) (s:=s) h1 h2,h,hb=>by
  simp only[jz]at h;simp only[yW];have hrest:jz is _=true→yW ops m c.σ _:=fun h3=>um h2 h3 fun j hj=>hb j (by simp only[List.map_cons];exact aY _ hj)
  cases hbf:sf ops i m with
  |true=>
   rw[zE rfl];cases hm:jN i is with
   |false=>rw[hm,zD]at h;exact hrest h
   |true=>
    rw[hm,zC]at h;cases s with
    |none=>cases h
    |some s=>exact hrest h
  |false=>
   rw[zF (by decide)];rcases hb i (by simp)with h3|h3
   ·rw[hbf]at h3;cases h3
   ·rw[h3,zC]at h;cases s with
    |none=>cases h
    |some s=>exact⟨h1.now,hrest h⟩
theorem bT5 {β:Type}{c0 c:Ctx}{e:ed}{ea:dM}{ach:List (Nat×(Hp→Prop))}{chk:Chk}{P ls nd:List Nat}{it:LItem}{r:List LItem}{pd:Nat→Nat}{k:ed→co→Option β}{y:β}(h0:eI c0)
  (hI:InvL ops c0 c e ea ach chk P ls nd (it::r) pd) (hk:aB it.kind 2=true) (hP:it.i∈P) (h:evL tab ops (it::r) chk e c.S k=some y):
  ∃c' e',c'.σ=c.σ∧InvL ops c0 c' e' ea ach chk (an2 it.i P) ls nd r pd∧evL tab ops r chk e' c'.S k=some y:=by
 have hk3:aB it.kind 3=false:=by rw[aW hk];rfl
 simp only[evL,hk,hk3,zC,zD]at h;obtain⟨hfb,blk,w,x',vf',h1,h2⟩:=aq1 hI.E h;obtain⟨_,x,vf,h3,h4,h5⟩:=hI.pend _ hP;obtain⟨ex,ef⟩:=h2.run.unique h3;subst ex;subst ef;obtain⟨dm,cs,rest,d1,d2,d3,d4,d5,d6⟩:=h2.dm;have hlen:(c.S++[blk]).length=c.S.length+1:=by simp
 have hds:=hI.ds;simp only[bg1,aD]at hds
 let b:=pd it.i
 let c':Ctx:=⟨fun q=>if q=c.S.length then some b else c.μ q,c.S++[blk],c.σ,fun q=>c0.fb q∨∃j∈an2 it.i P,pd j=q⟩
 have hfbb:c.fb b:=(hI.fb b).2 (.inr ⟨it.i,hP,rfl⟩);have hS: ∀q,q<c.S.length→cl c'.S q=cl c.S q:=fun q hq=>kr hq
 have hmu: ∀q,q<c.S.length→c'.μ q=c.μ q:=fun q hq=>zF (Nat.ne_of_lt hq)
 have hnewS:cl c'.S c.S.length=blk:=bG6;have hnewmu:c'.μ c.S.length=some b:=zE rfl
 have hfb': ∀q,c'.fb q→c.fb q:=by
  rintro q (hq|⟨j,hj,rfl⟩)
  ·exact(hI.fb q).2 (.inl hq)
  ·exact(hI.fb _).2 (.inr ⟨j,((mY hI.nod).1 hj).1,rfl⟩)
 have hbnot: ¬c'.fb b:=by
  rintro(hq|⟨j,hj,hjb⟩)
  ·have:=h0.fbl _ hq;have:=hI.new _ hP;omega
  ·obtain⟨hj1,hj2⟩:=(mY hI.nod).1 hj;exact hj2 (hI.inj _ _ hj1 hP hjb)
 have hown: ∀q,c'.own q→c.own q∨q=b:=by
  rintro q ⟨j,hj1,hj2⟩;by_cases hj:j<c.S.length
  ·rw[hS j hj]at hj1;rw[hmu j hj]at hj2;exact .inl ⟨j,hj1,hj2⟩
  ·by_cases hj3:j=c.S.length
   ·subst hj3;rw[hnewmu]at hj2;injection hj2 with hj2
    exact .inr hj2.symm
   ·rw[rM (by show c'.S.length≤j;rw[hlen];omega)]at hj1;cases hj1
 have hV:LeV c c':=by
  refine⟨by rw[hlen];omega,fun q d hq hd=> ?_,fun q d b' y' hq hd hm hy=>⟨y',hy,rfl⟩,fun b' y' hy hn=>⟨hy,fun hm=> ?_⟩⟩
  ·rw[hS q hq]at hd;exact⟨hd,hmu q hq⟩
  ·rcases hm with hm|hm
   ·rcases hown b' hm with hm|hm
    ·exact hn (.inl hm)
    ·subst hm;exact hn (.inr hfbb)
   ·exact hn (.inr (hfb' _ hm))
 have hR':eI c':=by
  refine⟨hI.R.ok,fun q q' b' hq hq' hm hm'=> ?_,fun q d hd=> ?_,fun q b' hd hm=> ?_,fun b' hb'=>hI.R.fbl _ (hfb' _ hb')⟩
  ·have cases3: ∀j,(cl c'.S j).dim≠none→j<c.S.length∨j=c.S.length:=by
    intro j hj;have:=jP hj;rw[hlen]at this;omega
   rcases cases3 q (jH hq)with h6|h6
   ·rcases cases3 q' hq' with h7|h7
    ·rw[hS q h6]at hq;rw[hS q' h7]at hq';rw[hmu q h6]at hm;rw[hmu q' h7]at hm';exact hI.R.inj q q' b' hq hq' hm hm'
    ·subst h7;rw[hnewmu]at hm';injection hm' with hm'
     subst hm';rw[hmu q h6]at hm;rw[hS q h6]at hq;exact(hI.R.fbk q _ (jH hq) hm hfbb).elim
   ·rcases cases3 q' hq' with h7|h7
    ·subst h6;rw[hnewmu]at hm;injection hm with hm
     subst hm;rw[hmu q' h7]at hm';rw[hS q' h7]at hq';exact(hI.R.fbk q' _ hq' hm' hfbb).elim
    ·rw[h6,h7]
  ·by_cases hq:q<c.S.length
   ·rw[hS q hq]at hd⊢;obtain⟨h6,h7⟩:=hI.R.blk q d hd;refine⟨h6, ?_⟩;rcases h7 with⟨h7,h8⟩|⟨b',y',cs',rest',h7,h8,h9,h10,h11,h12⟩
    ·exact .inl ⟨h7,by rw[hmu q hq];exact h8⟩
    ·exact .inr ⟨b',y',cs',rest',by rw[hmu q hq];exact h7,h8,h9,h10,h11,VRel.framesV hV h12⟩
   ·by_cases hq2:q=c.S.length
    ·subst hq2;rw[hnewS]at hd⊢;rw[d1]at hd;injection hd with hd
     subst hd;exact⟨d2, .inr ⟨b,x',cs,rest,hnewmu,h4,d3,fun _=>d4,d5,d6 c'⟩⟩
    ·rw[rM (by show c'.S.length≤q;rw[hlen];omega)]at hd;cases hd
  ·by_cases hq:q<c.S.length
   ·rw[hS q hq]at hd;rw[hmu q hq]at hm;exact fun hf=>hI.R.fbk q b' hd hm (hfb' _ hf)
   ·have:=jP hd;rw[hlen]at this;have hq2:q=c.S.length:=by omega
    subst hq2;rw[hnewmu]at hm;injection hm with hm
    subst hm;exact hbnot
 have hvv:VRel c' (vvF w c.S.length) (vf' b):=h2.vv c' c.S.length b (by rw[hlen];omega) hnewS hnewmu h4
 have hE':cy c' (putO e (dU ops it.i).dst (vvF w c.S.length)) ea:=by
  have hE:=hI.E.frameV hV;cases hd:(dU ops it.i).dst with
  |none=>exact hE
  |some t=>
   intro t';show VRel c' (jI (na e t _) t') (ea t');rw[rK];by_cases ht:t'=t
   ·subst ht;rw[zE rfl,h5 _ hd];exact hvv
   ·rw[zF ht];exact hE t'
 refine⟨c',_,rfl,⟨?_,hR',hE',hI.K.frameV hI.R hV hS hmu (fun _ _ hy=>hy),hI.ks,hI.nd,fun q=>Iff.rfl,aF8 hI.nod,fun q q' hq hq'=>hI.inj q q' ((mY hI.nod).1 hq).1 ((mY hI.nod).1 hq').1,fun q hq=>hI.new q ((mY hI.nod).1 hq).1,fun q hq=>hI.pend q ((mY hI.nod).1 hq).1, ?_,hds.2⟩,h1⟩
 ·have hle:=hI.le;refine⟨Nat.le_trans hle.len (by show c.S.length≤c'.S.length;rw[hlen];omega),fun q d hq hd=> ?_,fun q hf hd=> ?_,fun q d b' y' hq hd hm hy=> ?_,fun b' y' hy hn=>hle.un b' y' hy hn,fun b' y' hy hn ho=> ?_,hle.n,rfl⟩
  ·have hq':q<c.S.length:=aX hq hle.len;have:=hS q hq';rw[show(⟨c'.μ,c'.S,c'.σ,c0.fb⟩:Ctx).S=c'.S from rfl,this]at hd;obtain⟨h6,h7⟩:=hle.al q d hq hd;exact⟨h6,(hmu q hq').trans h7⟩
  ·have hq':q<c.S.length:=aX (jP hd) hle.len;exact(hS q hq').trans (hle.fz q hf hd)
  ·have hq':q<c.S.length:=aX hq hle.len;have:=hS q hq';rw[show(⟨c'.μ,c'.S,c'.σ,c0.fb⟩:Ctx).S=c'.S from rfl,this]at hd;exact hle.ln q d b' y' hq hd hm hy
  ·have ho':c'.own b':=ho;rcases hown b' ho' with ho2|ho2
   ·exact hle.ow b' y' hy hn ho2
   ·subst ho2;have:=h0.ok _ _ hy;have:=hI.new _ hP;omega
 ·intro it' hit' hk' t ht;have hu:=hI.und it' (aY _ hit') hk' t ht;cases hd:(dU ops it.i).dst with
  |none=>exact hu
  |some t'=>
   show jI (na e t' _) t=_;rw[rK];by_cases htt:t=t'
   ·subst htt;have:=List.all_eq_true.1 hds.1 it' hit';rw[hk,hk']at this;simp only[Bool.not_true,Bool.false_or,neO,hd,ht,bA]at this;cases this
   ·rw[zF htt];exact hu
theorem bE4 {β:Type}{c0 c:Ctx}{e:ed}{ea:dM}{ach:List (Nat×(Hp→Prop))}{chk:Chk}{P ls nd:List Nat}{it:LItem}{r:List LItem}{pd:Nat→Nat}{k:ed→co→Option β}{y:β}
  (hI:InvL ops c0 c e ea ach chk P ls nd (it::r) pd) (hk:aB it.kind 3=true) (h:evL tab ops (it::r) chk e c.S k=some y):
  InvL ops c0 c e ea ach chk P ls nd r pd∧evL tab ops r chk e c.S k=some y:=by
 simp only[evL,hk,zC]at h;obtain⟨_,_,_,_,_,h1,_⟩:=aq1 hI.E h;have hds:=hI.ds;simp only[bg1,aD]at hds;exact⟨⟨hI.le,hI.R,hI.E,hI.K,hI.ks,hI.nd,hI.fb,hI.nod,hI.inj,hI.new,hI.pend,fun j hj hk t ht=>hI.und j (aY _ hj) hk t ht,hds.2⟩,h1⟩
theorem ay3 {β:Type}{c0:Ctx}{ea:dM}{ach:List (Nat×(Hp→Prop))}{chk:Chk}{ls nd:List Nat}{pd:Nat→Nat}{k:ed→co→Option β}{y:β}{i:Nat}(h0:eI c0): ∀(r:List LItem) {P P':List Nat} {it:LItem} {r':List LItem} {c:Ctx} {e:ed},yG r P i=some (P',it,r')→
  InvL ops c0 c e ea ach chk P ls nd r pd→evL tab ops r chk e c.S k=some y→
  ∃c' e',c'.σ=c.σ∧InvL ops c0 c' e' ea ach chk P' ls nd (it::r') pd∧evL tab ops (it::r') chk e' c'.S k=some y∧aB it.kind 2=false∧it.i=i∧∀q∈P',q∈P
 |[],P,P',it,r',c,e,h,_,_=>by cases h
 |a::r,P,P',it,r',c,e,h,hI,hv=>by
  simp only[yG]at h;cases hk3:aB a.kind 3 with
  |true=>
   rw[hk3,zC]at h;obtain⟨h1,h2⟩:=bE4 hI hk3 hv;exact ay3 h0 r h h1 h2
  |false=>
  rw[hk3,zD]at h;cases hk:aB a.kind 2 with
  |false=>
   rw[hk,zD]at h;cases hi:aB a.i i with
   |false=>rw[hi]at h;cases h
   |true=>
    rw[hi,zC]at h;injection h with h
    injection h with h1 h
    injection h with h2 h3
    subst h1;subst h2;subst h3;exact⟨c,e,rfl,hI,hv,hk,aW hi,fun q hq=>hq⟩
  |true=>
   rw[hk,zC]at h;cases hm:jN a.i P with
   |false=>rw[hm]at h;cases h
   |true=>
    rw[hm,zC]at h;obtain⟨c1,e1,h1,h2,h3⟩:=bT5 h0 hI hk (iZ.1 hm) hv;obtain⟨c2,e2,h4,h5,h6,h7,h8,h9⟩:=ay3 h0 r h h2 h3;exact⟨c2,e2,h4.trans h1,h5,h6,h7,h8,fun q hq=>((mY hI.nod).1 (h9 q hq)).1⟩
theorem bs5 {β:Type}{c0:Ctx}{ea:dM}{ach:List (Nat×(Hp→Prop))}{chk:Chk}{ls nd:List Nat}{pd:Nat→Nat}{k:ed→co→Option β}{y:β}(h0:eI c0): ∀(r:List LItem) {P:List Nat} {c:Ctx} {e:ed},bM2 r P=true→
  InvL ops c0 c e ea ach chk P ls nd r pd→evL tab ops r chk e c.S k=some y→ot c0 k y ea c.σ
 |[],P,c,e,h,hI,hv=>by
  have hP:P=[]:=by
   cases P with
   |nil=>rfl
   |cons a r=>simp[bM2]at h
  subst hP
  have hfb:c.fb=c0.fb:=by
   funext b
   refine propext ((hI.fb b).trans ⟨fun h=> ?_, .inl⟩);rcases h with h|⟨q,hq,_⟩
   ·exact h
   ·cases hq
  refine⟨e,c,rfl, ?_,hI.R,hI.E,hv⟩;have:=hI.le;rw[←hfb]at this;exact this
 |a::r,P,c,e,h,hI,hv=>by
  simp only[bM2]at h;cases hk3:aB a.kind 3 with
  |true=>
   rw[hk3,zC]at h;obtain⟨h1,h2⟩:=bE4 hI hk3 hv;exact bs5 h0 r h h1 h2
  |false=>
  rw[hk3,zD]at h;simp only[aD]at h;obtain⟨c1,e1,h1,h2,h3⟩:=bT5 h0 hI h.1.1 (iZ.1 h.1.2) hv;rw[←h1];exact bs5 h0 r h.2 h2 h3
theorem aL8 {β:Type}{c:Ctx}{ea:dM}{chk:Chk}{k:ed→co→Option β}{y:β}{m:Nat}: ∀(r:List LItem) {e e':ed} {S:co},aU2 ops r m=true→cy c e ea→(∀t∈vo (dU ops m).op,jI e' t=jI e t)→evL tab ops r chk e' S k=some y→∃x vf,uj (dU ops m).op=true∧nY (dU ops m).op ea x vf
 |[],e,e',S,h,_,_,_=>by cases h
 |a::r,e,e',S,h,he,hu,hv=>by
  have huse: ∀(vv:VV),aw6 (dU ops a.i).dst (vo (dU ops m).op)=true→∀t∈vo (dU ops m).op,jI (putO e' (dU ops a.i).dst vv) t=jI e t:=by
   intro vv h1 t ht;rw[←hu t ht];cases hd:(dU ops a.i).dst with
   |none=>rfl
   |some t'=>
    show jI (na e' t' _) t=_;rw[rK];by_cases htt:t=t'
    ·subst htt;rw[hd]at h1;simp only[aw6]at h1;rw[iZ.2 ht]at h1;cases h1
    ·rw[zF htt]
  have fresh_here: ∀{γ:Type} {k':Blk→Bool→Option γ} {z:γ},yp (dU ops m).op e' k'=some z→∃x vf,uj (dU ops m).op=true∧nY (dU ops m).op ea x vf:=by
   intro γ k' z hv
   have hv':yp (dU ops m).op e k'=some z:=by
    cases hop:(dU ops m).op<;>rw[hop]at hv hu<;>simp only[yp]at hv<;>first|(cases hv;done)|skip
    case alloc es z=>exact hv
    case makeSlice es bytes z l q=>
     have e1:ev e' l=ev e l:=by
      cases l with
      |tmp t=>exact hu t (by simp[vo,bD7])
      |_=>rfl
     have e2:ev e' q=ev e q:=by
      cases q with
      |tmp t=>exact hu t (by simp[vo,bD7])
      |_=>rfl
     rw[e1,e2]at hv;exact hv
    case buildSlice es ln z ps=>
     have e1:wb e' ps=wb e ps:=by
      unfold wb;apply bD;rintro⟨o,s,x⟩ hx;simp only
      have:ev e' x=ev e x:=by
       cases x with
       |tmp t=>exact hu t (List.mem_flatMap.2 ⟨_,hx,by simp[bD7]⟩)
       |_=>rfl
      rw[this]
     rw[e1]at hv;exact hv
   obtain⟨hf,blk,w,x,vf,_,h2⟩:=aq1 he hv';exact⟨x,vf,hf,h2.run⟩
  simp only[aU2]at h;cases hk3:aB a.kind 3 with
  |true=>
   rw[hk3,zC,aZ]at h;simp only[evL,hk3,zC]at hv;rcases h with h|h
   ·rw[aW h]at hv;exact fresh_here hv
   ·have hnext:evL tab ops r chk e' S k=some y:=by
     cases hop:(dU ops a.i).op<;>rw[hop]at hv<;>simp only[yp]at hv<;>first|(cases hv;done)|skip
     case alloc es z=>exact(cx hv).2
     case makeSlice es bytes z l q=>
      split at hv
      ·exact(cx hv).2
      ·cases hv
     case buildSlice es ln z ps=>
      split at hv
      ·exact(cx hv).2
      ·cases hv
    exact aL8 r h he hu hnext
  |false=>
  rw[hk3,zD]at h;simp only[aZ,aD]at h;rcases h with⟨hk,h⟩|⟨⟨⟨hk,hmv⟩,h1⟩,h2⟩
  ·simp only[evL,hk,hk3,zC,zD]at hv;by_cases hi:a.i=m
   ·rw[hi]at hv;exact fresh_here hv
   ·rcases h with h|⟨h1,h2⟩
    ·exact(hi (aW h)).elim
    ·have hnext: ∃blk w,evL tab ops r chk (putO e' (dU ops a.i).dst (vvF w S.length)) (S++[blk]) k=some y:=by
      cases hop:(dU ops a.i).op<;>rw[hop]at hv<;>simp only[yp]at hv<;>first|(cases hv;done)|skip
      case alloc es z=>exact⟨_,_,(cx hv).2⟩
      case makeSlice es bytes z l q=>
       split at hv
       ·exact⟨_,_,(cx hv).2⟩
       ·cases hv
      case buildSlice es ln z ps=>
       split at hv
       ·exact⟨_,_,(cx hv).2⟩
       ·cases hv
     obtain⟨blk,w,hv2⟩:=hnext;exact aL8 r h2 he (huse _ h1) hv2
  ·have hk2:aB a.kind 2=false:=by rw[aW hk];rfl
   have hk1:aB a.kind 1=false:=by rw[aW hk];rfl
   simp only[evL,hk2,hk1,hk3,zD]at hv;obtain⟨_,hv⟩:=cx hv;cases hop:(dU ops a.i).op<;>rw[hop]at hmv<;>first|(cases hmv;done)|skip
   case move x=>
    rw[hop]at hv;simp only[aT5,AOp.isLoad,zD]at hv;obtain⟨_,hv⟩:=cx hv;exact aL8 r h2 he (huse _ h1) hv
theorem bR2 {F:Nat→Prop}: ∀{l:List Nat},(∀m∈l,F m)→bd7 F l
 |[],_=>trivial
 |[m],h=>h m (by simp)
 |m::m'::r,h=>⟨h m (by simp),bR2 fun q hq=>h q (aY _ hq)⟩
theorem cu5 {D:List Nat}{i:Nat}(h:gN ops D=some i): ∃p,ops[i]?=some (dU ops i,p)∧(dU ops i).op.still=true:=by
 unfold gN at h;have h1:=List.find?_some h;simp only[aD]at h1;have h2:=h1.2;unfold yF at h2;unfold dU;split at h2
 ·rename_i o p ho;rw[ho];exact⟨p,rfl,h2⟩
 ·cases h2
theorem cj9 {D:List Nat}{m:Nat}(h:m∈ec ops D): ∃p,ops[m]?=some (dU ops m,p)∧(dU ops m).op.still=false:=by
 unfold ec at h;obtain⟨h1,h2⟩:=List.mem_filter.1 h;have h1:=List.mem_range.1 h1;simp only[aD]at h2;have h3:=h2.2;unfold yF at h3;unfold dU;rw[List.getElem?_eq_getElem h1]at h3⊢;exact⟨_,rfl,by simpa using h3⟩
theorem bU6 {self:Nat}{ex:Bool}{P:List Nat}{r:List LItem}(h:an4 ops self ex P r=true){q:Nat}(hq:q∈P):(∀t,(dU ops self).dst=some t→(dU ops q).dst≠some t)∧∀t,(dU ops self).dst=some t→t∉vo (dU ops q).op:=by
 simp only[an4,aD]at h;have h1:=List.all_eq_true.1 h.1 q hq;rw[aD]at h1;refine⟨fun t ht e=> ?_,fun t ht hu=> ?_⟩
 ·have:=h1.1;rw[ht,e]at this;simp only[neO,bA]at this;cases this
 ·have:=h1.2;rw[ht]at this;simp only[aw6]at this;rw[iZ.2 hu]at this;cases this
theorem cv2 {self:Nat}{ex:Bool}{P:List Nat}{r:List LItem}(h:an4 ops self ex P r=true){it:LItem}(hit:it∈r)(hk:aB it.kind 2=true)(hne:ex=true→it.i≠self){t:Nat}(ht:(dU ops self).dst=some t):(dU ops it.i).dst≠some t:=by
 simp only[an4,aD]at h;have h1:=List.all_eq_true.1 h.2 it hit
 have h2:(ex&&aB it.i self)=false:=by
  cases ex with
  |false=>rfl
  |true=>exact Bool.eq_false_iff.2 fun e=>hne rfl (aW e)
 rw[hk,h2]at h1;intro e;rw[ht,e]at h1;simp only[Bool.not_true,Bool.false_or,neO,bA]at h1;cases h1
theorem ax3 {ea:dM}{d:Option Nat}{v:Value}{t:Nat}(h: ∀t',d=some t'→t≠t'):(ea.putO d v) t=ea t:=by
 cases d with
 |none=>rfl
 |some t'=>exact zF (h t' rfl)
theorem cm3 {e:ed}{d:Option Nat}{v:VV}{t:Nat}(h: ∀t',d=some t'→t≠t'):jI (putO e d v) t=jI e t:=by
 cases d with
 |none=>rfl
 |some t'=>
  show jI (na e t' v) t=_;rw[rK,zF (h t' rfl)]
theorem InvL.on {c0 c c':Ctx}{e:ed}{ea:dM}{ach ach':List (Nat×(Hp→Prop))}{chk chk':Chk}{P ls ls' nd nd':List Nat}{it:LItem}{r:List LItem}{pd:Nat→Nat}{i:Nat}{vv:VV}{v:Value}
  (hI:InvL ops c0 c e ea ach chk P ls nd (it::r) pd) (hd:an4 ops i false P r=true) (hl:Le c c') (hR:eI c') (hv:VRel c' vv v) (hK:ChkRel c' ach' chk') (hks:ach'.map (·.1)=ls') (hnd:jz nd' chk'=true):
  InvL ops c0 c' (putO e (dU ops i).dst vv) (ea.putO (dU ops i).dst v) ach' chk' P ls' nd' r pd:=by
 have hds:=hI.ds;simp only[bg1,aD]at hds;refine⟨?_,hR,(hI.E.frame hl).putO hv,hK,hks,hnd,fun b=>by rw[hl.fb];exact hI.fb b,hI.nod,hI.inj,hI.new,fun q hq=> ?_,fun j hj hk t ht=> ?_,hds.2⟩
 ·have h1:=hI.le;have h2:Le ⟨c.μ,c.S,c.σ,c0.fb⟩ ⟨c'.μ,c'.S,c'.σ,c0.fb⟩:=⟨hl.len,hl.al,hl.fz,hl.ln,hl.un,hl.ow,hl.n,rfl⟩;exact h1.trans h2
 ·obtain⟨hf,x,vf,h1,h2,h3⟩:=hI.pend q hq;obtain⟨k1,k2⟩:=bU6 hd hq;refine⟨hf,x,vf,h1.same hf fun t ht=>ax3 fun t' ht' e=>k2 t' ht' (e▸ht),hl.un _ _ h2 fun ho=> ?_,fun t ht=> ?_⟩
  ·obtain⟨j,hj1,hj2⟩:=ho;exact hI.R.fbk j _ (jH hj1) hj2 ((hI.fb _).2 (.inr ⟨q,hq,rfl⟩))
  ·rw[ax3 fun t' ht' e=>k1 t' ht' (e▸ht)];exact h3 t ht
 ·rw[cm3 fun t' ht' e=>cv2 hd hj hk (fun h=>by cases h) ht' (e▸ht)];exact hI.und j (aY _ hj) hk t ht
theorem bs3 {β:Type}{c0:Ctx}{k:ed→co→Option β}{y:β}(h0:eI c0): ∀(f:Nat) {D P ls nd:List Nat} {r:List LItem} {c:Ctx} {e:ed} {ea:dM} {ach:List (Nat×(Hp→Prop))} {chk:Chk} {pd:Nat→Nat},br4 ops f D P ls nd r=true→InvL ops c0 c e ea ach chk P ls nd r pd→evL tab ops r chk e c.S k=some y→
  wpD (fP tab) (ot c0 k y) ops f D ach ea c.σ
 |0,D,P,ls,nd,r,c,e,ea,ach,chk,pd,h,hI,hv=>bs5 h0 r h hI hv
 |f+1,D,P,ls,nd,r,c,e,ea,ach,chk,pd,h,hI,hv=>by
  simp only[br4]at h;simp only[wpD];cases hns:gN ops D with
  |some i=>
   rw[hns]at h;simp only[aD]at h⊢;obtain⟨hg,h⟩:=h;obtain⟨p,ho,hst⟩:=cu5 hns;rw[ho]
   have hw:wanted (dU ops i) ea=true:=by
    unfold wanted;cases hgg:(dU ops i).guard with
    |none=>rfl
    |some q=>rw[hgg]at hg;cases hg
   simp only[hw,if_true];cases hs:yG r P i with
   |none=>rw[hs]at h;cases h
   |some q=>
    obtain⟨P',it,r'⟩:=q;rw[hs]at h;simp only[aD]at h;obtain⟨⟨hk0,hd⟩,hc⟩:=h;obtain⟨c1,e1,h1,h2,h3,h4,h5,h6⟩:=ay3 h0 r hs hI hv;subst h5;have hk1:aB it.kind 1=false:=by rw[aW hk0];rfl
    have hk3:aB it.kind 3=false:=by rw[aW hk0];rfl
    simp only[evL,h4,hk1,hk3,zD]at h3;obtain⟨_,h3⟩:=cx h3;have h7:=av5 h2.R h2.E h3;rw[←af7 hst,h1]at h7;cases hr:(dU ops it.i).op.run ea c.σ with
    |none=>rw[hr]at h7;exact h7.elim
    |some q=>
     obtain⟨v,σ1⟩:=q;rw[hr]at h7;obtain⟨vv,c2,g1,g2,g3,g4,g5,g6⟩:=h7;simp only
     have hdd:av4 tab (dU ops it.i).op e1 c1.S=[]:=by
      cases hop:(dU ops it.i).op<;>rw[hop]at hst<;>first|(cases hst;done)|rfl
     have hσ1:σ1=c.σ:=ar4 hst hr;obtain⟨g7,g8⟩:=cx g6;have hn:=h2.K.next g2 g4
     rw[hdd,uy]at hn
     have hstep: ∀{ach':List (Nat×(Hp→Prop))} {chk':Chk} {ls':List Nat},ChkRel c2 ach' chk'→ach'.map (·.1)=ls'→jz it.need chk'=true→evL tab ops r' chk' (putO e1 (dU ops it.i).dst vv) c2.S k=some y→br4 ops f (it.i::D) P' ls' it.need r'=true→
       wpD (fP tab) (ot c0 k y) ops f (it.i::D) ach' (ea.putO (dU ops it.i).dst v) c.σ:=by
      intro ach' chk' ls' q1 q2 q3 q4 q5;have:=bs3 h0 f q5 (h2.on hd g2 g3 g5 q1 q2 q3) q4;rw[g1,hσ1]at this;exact this
     cases hld:(dU ops it.i).op.isLoad with
     |false=>
      rw[hld]at g7 g8 hc;rw[zF (by decide)];exact hstep hn h2.ks g7 g8 hc
     |true=>
      rw[hld]at g7 g8 hc;rw[zE rfl];have hkp:=bf4 h2.R h2.E hld (by rw[h1];exact hr);have hn2:=(ChkRel.cons (i:=it.i) hkp h2.K).next g2 g4
      rw[hdd,uy]at hn2;exact hstep hn2 (by rw[List.map_cons,h2.ks];rfl) g7 g8 hc
  |none=>
   rw[hns]at h;simp only at h⊢
   have each: ∀{ms:List Nat},(∀m∈ms,m∈ec ops D)→(ms.all fun m=>(dU ops m).guard.isNone&&cond (uj (dU ops m).op)
    (!jN m P&&r.any (fun it=>aB it.kind 2&&aB it.i m)&&(bB8 (dU ops m).op||aU2 ops r m)&&an4 ops m true P r&&aw6 (dU ops m).dst (vo (dU ops m).op)&&ls.all (fun i=>sf ops i m||jN i nd)&&br4 ops f (m::D) (m::P) ls nd r)
    (match yG r P m with
    |some (P',it,r')=>aB it.kind 1&&an4 ops m false P' r'&&ls.all (fun i=>sf ops i m||jN i it.chks)&&br4 ops f (m::D) P' ls it.need r'
    |none=>false))=true→bd7 (fun m=>match ops[m]? with
     |some (o,_)=>if wanted o ea then dv (fP tab) o.op ea c.σ fun v σ'=>yW ops m σ' ach∧wpD (fP tab) (ot c0 k y) ops f (m::D) ach (ea.putO o.dst v) σ'
      else wpD (fP tab) (ot c0 k y) ops f (m::D) ach (ea.putO o.dst undef) c.σ
     |none=>False) ms:=by
    intro ms hms hall;refine bR2 fun m hm=> ?_
    have h:=List.all_eq_true.1 hall m hm;simp only[aD]at h;obtain⟨hg,h⟩:=h;obtain⟨p,ho,hst⟩:=cj9 (hms m hm);rw[ho]
    have hw:wanted (dU ops m) ea=true:=by
     unfold wanted;cases hgg:(dU ops m).guard with
     |none=>rfl
     |some q=>rw[hgg]at hg;cases hg
    simp only[hw,if_true];cases hfr:uj (dU ops m).op with
    |false=>
     rw[hfr,zD]at h;cases hs:yG r P m with
     |none=>rw[hs]at h;cases h
     |some q=>
      obtain⟨P',it,r'⟩:=q;rw[hs]at h;simp only[aD]at h;obtain⟨⟨⟨hk1,hd⟩,hls⟩,hc⟩:=h;obtain⟨c1,e1,h1,h2,h3,h4,h5,h6⟩:=ay3 h0 r hs hI hv;subst h5;have hk3:aB it.kind 3=false:=by rw[aW hk1];rfl
      simp only[evL,h4,hk1,hk3,zD,zC]at h3;have h7:=av5 h2.R h2.E h3;rw[h1]at h7;refine lu (du tab) (fun v σ' hx=> ?_) h7;obtain⟨vv,c2,g1,g2,g3,g4,g5,g6⟩:=hx;obtain⟨g7,g8⟩:=cx g6;rw[aD]at g7;have hn:=h2.K.next g2 g4
      subst g1;refine⟨um hn g7.1 fun i hi=> ?_,bs3 h0 f hc (h2.on hd g2 g3 g5 hn h2.ks g7.2) g8⟩;rw[h2.ks]at hi;have:=List.all_eq_true.1 hls i hi;rw[aZ]at this;exact this
    |true=>
     rw[hfr,zC]at h;simp only[aD]at h;obtain⟨⟨⟨⟨⟨⟨hnm,hany⟩,hor⟩,hd⟩,hself⟩,hls⟩,hc⟩:=h;have hmP:m∉P:=fun e=>by rw[iZ.2 e]at hnm;cases hnm
     obtain⟨x,vf,hF⟩: ∃x vf,nY (dU ops m).op ea x vf:=by
      rw[aZ]at hor;rcases hor with hor|hor
      ·cases hop:(dU ops m).op<;>rw[hop]at hor<;>first|(cases hor;done)|skip
       case alloc es z=>exact⟨⟨z,true,es⟩,fun n=> .pointer (some ⟨n,0,none⟩),fun σ=>rfl⟩
      ·obtain⟨x,vf,_,h1⟩:=aL8 r hor hI.E (fun t _=>rfl) hv;exact⟨x,vf,h1⟩
     let c':Ctx:=⟨c.μ,c.S,c.σ.add x,fun b=>c.fb b∨b=c.σ.n⟩
     have hadd: ∀b y,c.σ.m b=some y→(c.σ.add x).m b=some y:=by
      intro b y hy;have:=hI.R.ok b y hy;simp only[Hp.add];rw[zF (by omega)];exact hy
     have hV:LeV c c':=by
      refine⟨bC _,fun q d hq hdm=>⟨hdm,rfl⟩,fun q d b y hq hdm hm hy=>⟨y,hadd b y hy,rfl⟩,fun b y hy hn=>⟨hadd b y hy,fun hm=> ?_⟩⟩;rcases hm with hm|hm|hm
      ·exact hn (.inl hm)
      ·exact hn (.inr hm)
      ·have:=hI.R.ok b y hy;omega
     have hR':eI c':=by
      refine⟨fun b y hy=> ?_,hI.R.inj,fun q d hdm=> ?_,fun q b hdm hm hf=> ?_,fun b hb=> ?_⟩
      ·simp only[c',Hp.add]at hy⊢;split at hy
       ·omega
       ·have:=hI.R.ok b y hy;omega
      ·obtain⟨h6,h7⟩:=hI.R.blk q d hdm;refine⟨h6, ?_⟩;rcases h7 with h7|⟨b',y',cs',rest',h7,h8,h9,h10,h11,h12⟩
       ·exact .inl h7
       ·exact .inr ⟨b',y',cs',rest',h7,hadd _ _ h8,h9,h10,h11,VRel.framesV hV h12⟩
      ·rcases hf with hf|hf
       ·exact hI.R.fbk q b hdm hm hf
       ·subst hf;have hdm':(cl c.S q).dim≠none:=hdm;cases hd2:(cl c.S q).dim with
        |none=>exact hdm' hd2
        |some d=>
         obtain⟨_,h7⟩:=hI.R.blk q d hd2;have hm':c.μ q=some c.σ.n:=hm;rcases h7 with⟨_,h7⟩|⟨b',y',cs',rest',h7,h8,_⟩
         ·rw[hm']at h7;cases h7
         ·rw[hm']at h7;injection h7 with h7
          subst h7;have:=hI.R.ok _ _ h8;omega
      ·show b<c.σ.n+1;rcases hb with hb|hb
       ·have:=hI.R.fbl b hb;omega
       ·omega
     have hK':=hI.K.frameV hI.R hV (fun _ _=>rfl) (fun _ _=>rfl) hadd;refine dK (hF c.σ) ⟨um hK' hI.nd fun i hi=> ?_, ?_⟩
     ·rw[hI.ks]at hi;have:=List.all_eq_true.1 hls i hi;rw[aZ]at this;exact this
     ·refine bs3 (c:=c') (pd:=fun q=>if q=m then c.σ.n else pd q) h0 f hc ⟨?_,hR', ?_,hK',hI.ks,hI.nd,fun b=> ?_,List.nodup_cons.2 ⟨hmP,hI.nod⟩,fun q q' hq hq' he=> ?_,fun q hq=> ?_,fun q hq=> ?_,hI.und,hI.ds⟩ hv
      ·have hle:=hI.le;refine⟨hle.len,hle.al,hle.fz,fun q d b y hq hdm hm hy=> ?_,fun b y hy hn=>hadd _ _ (hle.un b y hy hn),hle.ow,Nat.le_trans hle.n (Nat.le_succ _),rfl⟩;obtain⟨y',q1,q2⟩:=hle.ln q d b y hq hdm hm hy;exact⟨y',hadd _ _ q1,q2⟩
      ·have hE:=hI.E.frameV hV;intro t;cases hdst:(dU ops m).dst with
       |none=>exact hE t
       |some t'=>
        show VRel c' (jI e t) (if t=t' then _ else ea t);by_cases htt:t=t'
        ·subst htt;rw[zE rfl];obtain⟨it,hit,hit2⟩:=List.any_eq_true.1 hany;rw[aD]at hit2;have hitm:=aW hit2.2;subst hitm;rw[hI.und it hit hit2.1 _ hdst];exact .undef _
        ·rw[zF htt];exact hE t
      ·constructor
       ·rintro(hb|hb)
        ·rcases(hI.fb b).1 hb with hb|⟨q,hq,hb⟩
         ·exact .inl hb
         ·refine .inr ⟨q,aY _ hq, ?_⟩;show(if q=m then c.σ.n else pd q)=b;rw[zF (fun e:q=m=>hmP (e▸hq))];exact hb
        ·exact .inr ⟨m,List.mem_cons_self,by simp[hb]⟩
       ·rintro(hb|⟨q,hq,hb⟩)
        ·exact .inl ((hI.fb b).2 (.inl hb))
        ·rcases List.mem_cons.1 hq with rfl|hq
         ·simp only[if_true]at hb;exact .inr hb.symm
         ·have hb:(if q=m then c.σ.n else pd q)=b:=hb;rw[zF (fun e:q=m=>hmP (e▸hq))]at hb;exact .inl ((hI.fb b).2 (.inr ⟨q,hq,hb⟩))
      ·have hlt: ∀q∈P,pd q<c.σ.n:=fun q hq=>hI.R.fbl _ ((hI.fb _).2 (.inr ⟨q,hq,rfl⟩))
       have he:(if q=m then c.σ.n else pd q)=if q'=m then c.σ.n else pd q':=he
       rcases List.mem_cons.1 hq with rfl|hq1
       ·rcases List.mem_cons.1 hq' with rfl|hq2
        ·rfl
        ·rw[zE rfl,zF (fun e:q'=q=>hmP (e▸hq2))]at he;have:=hlt _ hq2;omega
       ·rw[zF (fun e:q=m=>hmP (e▸hq1))]at he;rcases List.mem_cons.1 hq' with rfl|hq2
        ·rw[zE rfl]at he;have:=hlt _ hq1;omega
        ·rw[zF (fun e:q'=m=>hmP (e▸hq2))]at he;exact hI.inj q q' hq1 hq2 he
      ·show c0.σ.n≤(if q=m then c.σ.n else pd q);rcases List.mem_cons.1 hq with rfl|hq
       ·rw[zE rfl];exact hI.le.n
       ·rw[zF (fun e:q=m=>hmP (e▸hq))];exact hI.new q hq
      ·show uj (dU ops q).op=true∧∃x1 vf1,nY (dU ops q).op (ea.putO (dU ops m).dst (vf c.σ.n)) x1 vf1∧c'.σ.m (if q=m then c.σ.n else pd q)=some x1∧∀t,(dU ops q).dst=some t→ea.putO (dU ops m).dst (vf c.σ.n) t=vf1 (if q=m then c.σ.n else pd q)
       rcases List.mem_cons.1 hq with rfl|hq
       ·rw[zE rfl];refine⟨hfr,x,vf,hF.same hfr fun t ht=>ax3 fun t' ht' e=> ?_,zE rfl,fun t ht=> ?_⟩
        ·subst e;rw[ht']at hself;simp only[aw6]at hself;rw[iZ.2 ht]at hself;cases hself
        ·rw[ht];exact zE rfl
       ·rw[zF (fun e:q=m=>hmP (e▸hq))];obtain⟨hf',x',vf',q1,q2,q3⟩:=hI.pend q hq;obtain⟨k1,k2⟩:=bU6 hd hq;refine⟨hf',x',vf',q1.same hf' fun t ht=>ax3 fun t' ht' e=>k2 t' ht' (e▸ht),hadd _ _ q2,fun t ht=> ?_⟩;rw[ax3 fun t' ht' e=>k1 t' ht' (e▸ht)];exact q3 t ht
   cases hrm:ec ops D with
   |nil=>rw[hrm]at h;exact bs5 h0 r h hI hv
   |cons a l=>
    rw[hrm]at h;exact each (fun m hm=>by rw[hrm];exact hm) h
end
end
section
open Bool renaming and_eq_true → aB
open List renaming mem_cons_self → aD, mem_cons_of_mem → aY, mem_of_getElem? → aZ
open Nat renaming beq → aW, zero_add → aX, eq_of_beq_eq_true → bA
section
variable {tab:Tab}
theorem bE7 {c:Ctx}{e:ed}{ea:dM}{t:Nat}{p:Bool}(he:cy c e ea)(hp:jI e t= .bool p):cy c (na e t (.bool p)) ea:=by
 have ht:=he t;rw[hp]at ht;have ht:=ht.bool_inv;intro i;rw[rK];by_cases hi:i=t
 ·subst hi;rw[zE rfl,ht];exact .bool _
 ·rw[zF hi];exact he i
theorem aq0 {β:Type}{y:β}: ∀{its:List SItem} {c:Ctx} {e:ed} {ea:dM} {chk:Chk} {ach:List (Nat×(Hp→Prop))} {k:ed→co→Option β},eI c→cy c e ea→ChkRel c ach chk→pR tab its chk e c.S k=some y→wpI (fP tab) (ot c k y) its ach ea c.σ
 |[],c,e,ea,chk,ach,k,hR,he,hc,h=>⟨e,c,rfl,Le.refl c,hR,he,h⟩
 |it::r,c,e,ea,chk,ach,k,hR,he,hc,h=>by
  have step: ∀e1,cy c e1 ea→aB5 tab it chk e1 c.S (fun chk' e' S'=>pR tab r chk' e' S' k)=some y→
    (if it.mover then dv (fP tab) it.o.op ea c.σ (fun v σ'=>ti it.chks σ' ach∧wpI (fP tab) (ot c k y) r ach (ea.putO it.o.dst v) σ')
    else match it.o.op.run ea c.σ with
     |some (v,_)=>wpI (fP tab) (ot c k y) r (if it.keep then(it.idx,fun σ'=>it.o.op.run ea σ'=some (v,σ'))::ach else ach) (ea.putO it.o.dst v) c.σ
     |none=>False):=by
   intro e1 he1 h1;refine bZ1 (Q:=fun ach' ea' σ'=>wpI (fP tab) (ot c k y) r ach' ea' σ') hR he1 hc h1 fun c' ach' chk' e' ea' h2 h3 h4 h5 h6=> ?_
   exact ah3 (du tab) (fun ea'' σ'' hp=>hp.of h2) _ _ _ _ (aq0 h3 h5 h4 h6)
  have skip: ∀e1,cy c e1 ea→pR tab r chk (putO e1 it.o.dst (.tup [])) c.S k=some y→wpI (fP tab) (ot c k y) r ach (ea.putO it.o.dst undef) c.σ:=fun e1 he1 h1=>aq0 hR (he1.putO (.tup .nil)) hc h1
  simp only[pR]at h;simp only[wpI];split at h
  ·rename_i hg;have:wanted it.o ea=true:=by simp only[wanted,hg]
   rw[zE this];exact step e he h
  ·rename_i t w hg;split at h
   ·rename_i p hp;have ht:=he t;rw[hp]at ht;have ht:=ht.bool_inv;have hw:wanted it.o ea=(p==w):=by simp only[wanted,hg,ht]
    have hput:=bE7 he hp;rw[hw];cases p<;>cases w<;>simp only[zC,zD]at h
    ·rw[zE (by decide)];exact step _ hput h
    ·rw[zF (by decide)];exact skip _ hput h
    ·rw[zF (by decide)];exact skip _ hput h
    ·rw[zE (by decide)];exact step _ hput h
   ·rename_i hp;have ht:=he t;rw[hp]at ht
    have hw:wanted it.o ea=false:=by
     simp only[wanted,hg];generalize ea t=u at ht;cases ht;rfl
    rw[hw,zF (by decide)];exact skip _ he h
   ·cases h
def oo (as:List Nat)(e e':dM):Prop:= ∀t,t∉as→e' t=e t
theorem oo.refl (as:List Nat)(e:dM):oo as e e:=fun _ _=>rfl
theorem oo.put {as:List Nat}{e e':dM}{d:Option Nat}{v:Value}(h:oo as e e')(hd: ∀t,t∈br9 d→t∈as):oo as e (e'.putO d v):=by
 intro t ht;cases d with
 |none=>exact h t ht
 |some d=>
  have:t≠d:=by rintro rfl;exact ht (hd t (List.mem_singleton.2 rfl))
  simp only[dM.putO,dM.put,zF this];exact h t ht
theorem ar6 {T:Ab.fB}(hT:oq T){Q:dM→Hp→Prop}{as:List Nat}{e0:dM}: ∀{ops:List AOper} {e:dM} {σ:Hp},(∀o,o∈ops→∀t,t∈br9 o.dst→t∈as)→oo as e0 e→Ab.uz T Q ops e σ→Ab.uz T (fun e' σ'=>oo as e0 e'∧Q e' σ') ops e σ
 |[],e,σ,_,hk,h=>⟨hk,h⟩
 |o::r,e,σ,ha,hk,h=>by
  simp only[Ab.uz]at h⊢;have hr: ∀o,o∈r→∀t,t∈br9 o.dst→t∈as:=fun o ho=>ha o (aY _ ho)
  split at h
  ·rename_i hw;rw[zE hw];exact lu hT (fun v σ' hv=>ar6 hT hr (hk.put (ha o aD)) hv) h
  ·rename_i hw;rw[zF hw];exact ar6 hT hr (hk.put (ha o aD)) h
theorem ay7 {T:Ab.fB}(hT:oq T){Q:dM→Hp→Prop}{as:List Nat}{e0:dM}: ∀{its:List SItem} {chk:List (Nat×(Hp→Prop))} {e:dM} {σ:Hp},(∀o,o∈its→∀t,t∈br9 o.o.dst→t∈as)→oo as e0 e→wpI T Q its chk e σ→wpI T (fun e' σ'=>oo as e0 e'∧Q e' σ') its chk e σ
 |[],chk,e,σ,_,hk,h=>⟨hk,h⟩
 |it::r,chk,e,σ,ha,hk,h=>by
  simp only[wpI]at h⊢;have hr: ∀o,o∈r→∀t,t∈br9 o.o.dst→t∈as:=fun o ho=>ha o (aY _ ho)
  split at h
  ·rename_i hw;rw[zE hw];split at h
   ·rename_i hm;rw[zE hm];exact lu hT (fun v σ' hv=>⟨hv.1,ay7 hT hr (hk.put (ha it aD)) hv.2⟩) h
   ·rename_i hm;rw[zF hm];split at h
    ·exact ay7 hT hr (hk.put (ha it aD)) h
    ·exact h.elim
  ·rename_i hw;rw[zF hw];exact ay7 hT hr (hk.put (ha it aD)) h
theorem bz1 {F G:Nat→Prop}(h: ∀m,F m→G m): ∀{l:List Nat},bd7 F l→bd7 G l
 |[],_=>trivial
 |[m],q=>h m q
 |m::m'::r,q=>⟨h m q.1,bz1 h q.2⟩
theorem ah1 {T:Ab.fB}(hT:oq T){Q:dM→Hp→Prop}{as:List Nat}{e0:dM}{ops:List (AOper×List Nat)}(ha: ∀o,o∈ops→∀t,t∈br9 o.1.dst→t∈as): ∀(f:Nat) {D:List Nat} {chk:List (Nat×(Hp→Prop))} {e:dM} {σ:Hp},oo as e0 e→wpD T Q ops f D chk e σ→wpD T (fun e' σ'=>oo as e0 e'∧Q e' σ') ops f D chk e σ
 |0,D,chk,e,σ,hk,h=>⟨hk,h⟩
 |f+1,D,chk,e,σ,hk,h=>by
  simp only[wpD]at h⊢;cases hn:gN ops D with
  |some i=>
   rw[hn]at h;simp only at h⊢;cases ho:ops[i]? with
   |none=>rw[ho]at h;exact h
   |some p=>
    obtain⟨o,pr⟩:=p;rw[ho]at h;have hm:(o,pr)∈ops:=aZ ho;simp only at h⊢;split at h
    ·rename_i hw;rw[zE hw];split at h
     ·rename_i v σ' hr;exact ah1 hT ha f (hk.put (ha _ hm)) h
     ·exact h.elim
    ·rename_i hw;rw[zF hw];exact ah1 hT ha f (hk.put (ha _ hm)) h
  |none=>
   rw[hn]at h;simp only at h⊢;cases hr:ec ops D with
   |nil=>rw[hr]at h;exact⟨hk,h⟩
   |cons a l=>
    rw[hr]at h;simp only at h⊢;refine bz1 (fun m hm=> ?_) h;cases ho:ops[m]? with
    |none=>rw[ho]at hm;exact hm
    |some p=>
     obtain⟨o,pr⟩:=p;rw[ho]at hm;have hmem:(o,pr)∈ops:=aZ ho;simp only at hm⊢;split at hm
     ·rename_i hw;rw[zE hw];exact lu hT (fun v σ' hx=>⟨hx.1,ah1 hT ha f (hk.put (ha _ hmem)) hx.2⟩) hm
     ·rename_i hw;rw[zF hw];exact ah1 hT ha f (hk.put (ha _ hmem)) hm
theorem rP {T:Ab.fB}(hT:oq T){as:List Nat}{e0:dM}: ∀(c:AC) {Q:AExit→dM→Hp→Prop} {e:dM} {σ:Hp},af2 c=true→(∀t,t∈iW c→t∈as)→oo as e0 e→sK T c Q e σ→sK T c (fun x e' σ'=>oo as e0 e'∧Q x e' σ') e σ
 | .skip,_,_,_,_,_,hk,h=>⟨hk,h⟩
 | .exit _,_,_,_,_,_,hk,h=>⟨hk,h⟩
 | .ret,_,_,_,_,_,hk,h=>⟨hk,h⟩
 | .region ops,Q,e,σ,_,ha,hk,h=>ar6 hT (fun o ho t ht=>ha t (List.mem_flatMap.2 ⟨o,ho,ht⟩)) hk h
 | .sched its,Q,e,σ,_,ha,hk,h=>ay7 hT (fun o ho t ht=>ha t (List.mem_flatMap.2 ⟨o,ho,ht⟩)) hk h
 | .draw ops,Q,e,σ,_,ha,hk,h=>ah1 hT (fun o ho t ht=>ha t (List.mem_flatMap.2 ⟨o,ho,ht⟩)) _ hk h
 | .seq a b,Q,e,σ,hd,ha,hk,h=>by
  simp only[af2,aB]at hd;have h1:=rP hT a hd.1 (fun t ht=>ha t (List.mem_append.2 (.inl ht))) hk h;refine fC hT a _ _ (fun x e' σ' hx=> ?_) e σ h1;obtain⟨hx1,hx2⟩:=hx;cases x with
  |normal=>exact rP hT b hd.2 (fun t ht=>ha t (List.mem_append.2 (.inr ht))) hx1 hx2
  |exit i=>exact⟨hx1,hx2⟩
  |ret=>exact⟨hx1,hx2⟩
 | .cond c a b,Q,e,σ,hd,ha,hk,h=>by
  simp only[af2,aB]at hd;simp only[sK]at h⊢;split at h
  ·exact rP hT a hd.1 (fun t ht=>ha t (List.mem_append.2 (.inl ht))) hk h
  ·exact rP hT b hd.2 (fun t ht=>ha t (List.mem_append.2 (.inr ht))) hk h
  ·exact h.elim
 | .block id b,Q,e,σ,hd,ha,hk,h=>by
  have h1:=rP hT b hd ha hk h;refine fC hT b _ _ (fun x e' σ' hx=> ?_) e σ h1;obtain⟨hx1,hx2⟩:=hx;cases x with
  |normal=>exact⟨hx1,hx2⟩
  |exit i=>
   simp only at hx2⊢;split at hx2
   ·rename_i hi;rw[zE hi];exact⟨hx1,hx2⟩
   ·rename_i hi;rw[zF hi];exact⟨hx1,hx2⟩
  |ret=>exact⟨hx1,hx2⟩
 | .loop b,Q,e,σ,hd,ha,hk,h=>by
  obtain⟨n,hn⟩:=h;refine⟨n, ?_⟩;induction n generalizing e σ with
  |zero=>exact hn.elim
  |succ n ih=>
   simp only[iJ]at hn⊢;have h1:=rP hT b hd ha hk hn;refine fC hT b _ _ (fun x e' σ' hx=> ?_) e σ h1;obtain⟨hx1,hx2⟩:=hx;cases x with
   |normal=>exact ih _ _ hx1 hx2
   |exit i=>exact⟨hx1,hx2⟩
   |ret=>exact⟨hx1,hx2⟩
theorem ai1 {S:co}{N:Nat}{fx:List Nat}{sk:tZ}{vals:List VV}{t:Tup sk.shs}(h:ap9 S N fx sk vals=some t):sk.noRo=true∧∃st,lB S N fx sk vals=some st∧toL sk.shs t=st.ls:=by
 unfold ap9 at h;obtain⟨h1,h2⟩:=cx h;obtain⟨st,h3,h4⟩:=cm h2;exact⟨h1,st,h3,aw8 h4⟩
theorem ai0 {S:co}{N:Nat}{fx:List Nat}{vals:List Nat→List VV}{hit:XK→Bool}: ∀{l:List Alt} {s:rG l},sj S N fx vals hit l=some s→∃p,ce9 l s=some p∧hit p.1.x=true∧ap9 S N fx p.1.sk (vals p.1.ts)=some p.2
 |[],s,h=>by cases h
 |[a],s,h=>by
  simp only[sj]at h;cases hh:hit a.x with
  |false=>rw[hh]at h;cases h
  |true=>rw[hh]at h;exact⟨⟨a,s⟩,rfl,hh,h⟩
 |a::b::r,s,h=>by
  simp only[sj]at h;split at h
  ·rename_i t ht;injection h with h
   subst h;cases hh:hit a.x with
   |false=>rw[hh]at ht;cases ht
   |true=>rw[hh]at ht;exact⟨⟨a,t⟩,rfl,hh,ht⟩
  ·obtain⟨s',h1,h2⟩:=cm h;injection h2 with h2
   subst h2;obtain⟨p,h3,h4,h5⟩:=ai0 h1;exact⟨p,h3,h4,h5⟩
theorem XK.is_out {x:XK}{y:AExit}(h:x.is y=true):x.out=y:=by
 cases x<;>cases y<;>simp only[XK.is]at h<;>first|rfl|(cases h;done)|skip
 rename_i i j;rw[show(XK.exit i).out=AExit.exit i from rfl,bA h]
theorem ax4 {c:Ctx}: ∀{ts:List Nat} {e:ed} {ea:dM} {vs:List VV},cy c e ea→F2 (VRel c) vs (ts.map ea)→cy c (bE8 e ts vs) ea
 |[],e,ea,vs,he,hf=>by
  cases hf;exact he
 |t::ts,e,ea,vs,he,hf=>by
  cases hf with
  |cons h1 h2=>
   have:=ax4 he h2;intro i;simp only[bE8,rK];by_cases hi:i=t
   ·subst hi;rw[zE rfl];exact h1
   ·rw[zF hi];exact this i
theorem aB1 : ∀{ts:List Nat} {e:ed} {t:Nat},jI (ad9 e ts) t= .undef∨(t∉ts∧jI (ad9 e ts) t=jI e t)
 |[],e,t=> .inr ⟨by simp,rfl⟩
 |a::ts,e,t=>by
  simp only[ad9,rK];by_cases h:t=a
  ·rw[zE h];exact .inl rfl
  ·rw[zF h];rcases aB1 (ts:=ts) (e:=e) (t:=t)with h1|⟨h1,h2⟩
   ·exact .inl h1
   ·exact .inr ⟨by simp[h,h1],h2⟩
theorem ah8 {c:Ctx}{as:List Nat}{e:ed}{ea ea':dM}(he:cy c e ea)(hk:oo as ea ea'):cy c (ad9 e as) ea':=by
 intro t;rcases aB1 (ts:=as) (e:=e) (t:=t)with h|⟨h1,h2⟩
 ·rw[h];exact .undef _
 ·rw[h2,hk t h1];exact he t
theorem aM5 {c:Ctx}{e:ed}{ea:dM}(he:cy c e ea): ∀ts:List Nat,F2 (VRel c) (ts.map (jI e)) (ts.map ea)
 |[]=> .nil
 |t::ts=> .cons (he t) (aM5 he ts)
theorem bt0 {β:Type}{c c1 c':Ctx}{e0:ed}{ea0 ea':dM}{fx mov asg:List Nat}{exits:List Alt}{s:rG exits}{k:AExit→ed→co→Option β}{y:β}{e':ed}{x:AExit}(hR:eI c)(he0:cy c e0 ea0)(hR':eI c')(hw:Within c c1 fx mov)(hR1:eI c1)(hle:Le c1 c')(hok:aK5 c.S fx=true)
  (hke:oo asg ea0 ea') (he':cy c' e' ea') (hd:sj c'.S c.S.length fx (fun ts=>ts.map (jI e')) (fun y=>y.is x) exits=some s) (h:cs5 e0 c.S fx mov asg exits s k=some y):oN c k y x ea' c'.σ:=by
 obtain⟨p,h1,h2,h3⟩:=ai0 hd;obtain⟨hro,st,h4,h5⟩:=ai1 h3;unfold cs5 at h;rw[bq4,h1]at h;simp only[zG]at h;rw[XK.is_out h2]at h;unfold ag0 at h;rw[h5]at h;cases he:mG id p.1.sk st.ls with
 |none=>rw[he]at h;cases h
 |some q=>
  obtain⟨vs,fs,bs⟩:=q;rw[he]at h;simp only[Bool.false_or]at h;cases hS:rO fx fs (iw fx mov (yR vs fs bs) 0 c.S)with
  |none=>rw[hS]at h;cases h
  |some S2=>
   rw[hS]at h;obtain⟨ct,g1,g2,g3,g4,g5⟩:=ct5 hR hR' hw hR1 hle hok hro h4 he (aM5 he' _) hS;refine⟨_,ct,g1,g3,g4,ax4 (ah8 (he0.frame g3) hke) g5, ?_⟩;rw[g2];exact h
theorem bK3 {S:co}{fx:List Nat}:qb S (iw fx [] true 0 S):=by
 refine⟨jG,fun k=> ?_⟩;by_cases hk:k<S.length
 ·rw[jF hk];simp only[jN,zD,aX];cases jN k fx with
  |true=>exact .inl rfl
  |false=>exact .inr rfl
 ·rw[rM (by rw[jG];omega),rM (by omega)];exact .inl rfl
def cN0 (c:Ctx)(e0:ed)(ea0:dM)(fx mov asg:List Nat)(ts:List Nat)(sk:tZ)(t:Tup sk.shs)(ea:dM)(σ:Hp):Prop:=
 ∃c1 e1,c1.σ=σ∧ag0 e0 c.S fx mov asg true ts sk t=some (e1,c1.S)∧eI c1∧cy c1 e1 ea∧Within c c1 fx mov∧oo asg ea0 ea
theorem aX9 {e0 e1:ed}{S S1:co}{fx mov asg ts:List Nat}{sk:tZ}{t:Tup sk.shs}(h:ag0 e0 S fx mov asg true ts sk t=some (e1,S1)): ∃vs fs bs S',mG id sk (toL sk.shs t)=some (vs,fs,bs)∧rO fx fs (iw fx mov true 0 S)=some S'∧e1=bE8 (ad9 e0 asg) ts vs∧S1=S'++bs:=by
 unfold ag0 at h;split at h
 ·rename_i vs fs bs he;simp only[Bool.true_or]at h;split at h
  ·rename_i S' hS;injection h with h
   injection h with h1 h2
   exact⟨vs,fs,bs,S',he,hS,h1.symm,h2.symm⟩
  ·cases h
 ·cases h
theorem aG4 {ops:List (AOper×List Nat)}: ∀{r:List LItem} {it:LItem} {t:Nat},it∈r→aW it.kind 2=true→(dU ops it.i).dst=some t→t∈ai7 ops r
 |a::r,it,t,h,hk,ht=>by
  simp only[ai7];rcases List.mem_cons.1 h with rfl|h
  ·rw[hk,zC,ht];exact aD
  ·have:=aG4 h hk ht;cases aW a.kind 2 with
   |false=>exact this
   |true=>exact List.mem_append.2 (.inr this)
theorem dP {α γ:Type}(f:α→Option (α⊕γ))(n:Nat)(a:α):cv f (n+1) a=(f a).bind fun s=>dJ s (cv f n) some:=rfl
theorem aE3 {f:(AExit→dM→Hp→Prop)→dM→Hp→Prop}(hf: ∀(Q Q':AExit→dM→Hp→Prop),(∀x e σ,Q x e σ→Q' x e σ)→∀e σ,f Q e σ→f Q' e σ){Q:AExit→dM→Hp→Prop}:
  ∀(n m:Nat) (e:dM) (σ:Hp),n≤m→iJ f Q n e σ→iJ f Q m e σ
 |0,_,_,_,_,h=>h.elim
 |n+1,0,_,_,hm,_=>absurd hm (Nat.not_succ_le_zero _)
 |n+1,m+1,e,σ,hm,h=>by
  simp only[iJ]at h⊢;refine hf _ _ (fun x e' σ' hx=> ?_) e σ h;cases x with
  |normal=>exact aE3 hf n m e' σ' (Nat.le_of_succ_le_succ hm) hx
  |exit id=>exact hx
  |ret=>exact hx
theorem aw4 {b:AC}(ih: ∀(at':AT) {β:Type} {y:β} {c:Ctx} {e:ed} {ea:dM} {k:AExit→ed→co→Option β},eI c→cy c e ea→eval tab b at' β e c.S k=some y→sK (fP tab) b (oN c k y) ea c.σ):
  ∀(at':AT) {β:Type} {y:β} {c:Ctx} {e:ed} {ea:dM} {k:AExit→ed→co→Option β},eI c→cy c e ea→aV2 (eval tab b) at' β e c.S k=some y→iJ (sK (fP tab) b) (oN c k y) at'.rounds ea c.σ
 | .n l r,β,y,c,e,ea,k,hR,he,h=>by
  simp only[aV2]at h;have h1:=ih l hR he h;simp only[AT.rounds,iJ];refine fC (du tab) b _ _ (fun x ea' σ' hx=> ?_) ea c.σ h1;obtain⟨e',c',h2,h3,h4,h5,h6⟩:=hx;subst h2;cases x with
  |normal=>exact ah4 (fC (du tab) b) (fun x ea'' σ'' hp=>ot.of h3 hp) _ _ _ (aw4 ih r h4 h5 h6)
  |exit i=>exact⟨e',c',rfl,h3,h4,h5,h6⟩
  |ret=>exact⟨e',c',rfl,h3,h4,h5,h6⟩
 | .sz m l r,β,y,c,e,ea,k,hR,he,h=>by
  simp only[aV2]at h;simp only[AT.rounds];cases hm:aW m c.S.length with
  |true=>
   rw[hm]at h;exact aE3 (fC (du tab) b) _ _ _ _ (Nat.le_add_right _ _) (aw4 ih l hR he h)
  |false=>
   rw[hm]at h;exact aE3 (fC (du tab) b) _ _ _ _ (Nat.le_add_left _ _) (aw4 ih r hR he h)
 | .no,_,_,_,_,_,_,_,_,h=>by cases h
 | .lp _ _ _ _,_,_,_,_,_,_,_,_,h=>by cases h
 | .jn _ _ _ _ _,_,_,_,_,_,_,_,_,h=>by cases h
 | .dr _,_,_,_,_,_,_,_,_,h=>by cases h
theorem nZ : ∀(ac:AC) (at':AT) {β:Type} {y:β} {c:Ctx} {e:ed} {ea:dM} {k:AExit→ed→co→Option β},eI c→cy c e ea→eval tab ac at' β e c.S k=some y→sK (fP tab) ac (oN c k y) ea c.σ
 | .skip,_,_,_,c,e,ea,k,hR,he,h=>⟨e,c,rfl,Le.refl c,hR,he,h⟩
 | .exit i,_,_,_,c,e,ea,k,hR,he,h=>⟨e,c,rfl,Le.refl c,hR,he,h⟩
 | .ret,_,_,_,c,e,ea,k,hR,he,h=>⟨e,c,rfl,Le.refl c,hR,he,h⟩
 | .region ops,_,_,_,c,e,ea,k,hR,he,h=>aT6 hR he h
 | .sched its,_,_,_,c,e,ea,k,hR,he,h=>aq0 hR he .nil h
 | .draw ops,at',_,y,c,e,ea,k,hR,he,h=>by
  simp only[eval]at h;split at h
  ·rename_i L _;obtain⟨hg,h⟩:=cx h;rw[aB]at hg;refine bs3 hR ops.length (pd:=fun _=>0) hg.1 ⟨Le.refl c,hR,ah8 he (oo.refl _ ea), .nil,rfl,rfl,fun b=>⟨.inl,fun h=> ?_⟩,List.nodup_nil,(fun _ _ h=>by cases h),(fun _ h=>by cases h),(fun _ h=>by cases h),fun it hit hk t ht=> ?_,hg.2⟩ h
   ·rcases h with h|⟨_,h,_⟩
    ·exact h
    ·cases h
   ·rcases @aB1 (ai7 ops (yq ops L L [])) e t with h1|⟨h1,_⟩
    ·exact h1
    ·exact(h1 (aG4 hit hk ht)).elim
  ·cases h
 | .seq a b,at',β,y,c,e,ea,k,hR,he,h=>by
  have plain: ∀l r,(eval tab a l β e c.S fun x e' S'=>match x with
    | .normal=>eval tab b r β e' S' k
    |x=>k x e' S')=some y→sK (fP tab) (.seq a b) (oN c k y) ea c.σ:=by
   intro l r h1;refine fC (du tab) a _ _ (fun x ea' σ' hx=> ?_) ea c.σ (nZ a l hR he h1);obtain⟨e',c',h2,h3,h4,h5,h6⟩:=hx;subst h2;cases x with
   |normal=>exact fC (du tab) b _ _ (fun x ea'' σ'' hp=>ot.of h3 hp) _ _ (nZ b r h4 h5 h6)
   |exit i=>exact⟨e',c',rfl,h3,h4,h5,h6⟩
   |ret=>exact⟨e',c',rfl,h3,h4,h5,h6⟩
  simp only[eval]at h;split at h
  ·rename_i fx mov exits l r _;obtain⟨hg,h⟩:=cx h;rw[aB]at hg;obtain⟨s,h1,h2⟩:=cm h;have hfz:qb c.S (iw (fx++mov) [] true 0 c.S):=bK3;have hR1:eI ⟨c.μ,iw (fx++mov) [] true 0 c.S,c.σ,c.fb⟩:=hfz.rel hR
   have hw:Within c ⟨c.μ,iw (fx++mov) [] true 0 c.S,c.σ,c.fb⟩ fx mov:=by
    refine⟨hfz.le,fun q hq hn hm=> ?_,fun _ _ _ _ _ _ _ _ hy=>hy⟩;show cl (iw (fx++mov) [] true 0 c.S) q=_;rw[jF hq];simp only[jN,zD,aX];rcases hm with hm|hz
    ·rw[iy (by simp[hn,hm])];rfl
    ·cases jN q (fx++mov)with
     |true=>exact(wJ hz).symm
     |false=>rfl
   have h3:=rP (du tab) (as:=iW a) (e0:=ea) a hg.2 (fun t ht=>ht) (oo.refl _ ea) (nZ a l (c:=⟨c.μ,iw (fx++mov) [] true 0 c.S,c.σ,c.fb⟩) hR1 (he.frame hfz.le) h1);refine fC (du tab) a _ _ (fun x ea' σ' hx=> ?_) ea c.σ h3;obtain⟨hk,e',c',h4,h5,h6,h7,h8⟩:=hx;subst h4;have h9:=bt0 hR he h6 hw hR1 h5 hg.1 hk h7 h8 h2;cases x with
   |normal=>
    obtain⟨e2,c2,g1,g2,g3,g4,g5⟩:=h9;rw[←g1];exact fC (du tab) b _ _ (fun x ea'' σ'' hp=>ot.of g2 hp) _ _ (nZ b r g3 g4 g5)
   |exit i=>exact h9
   |ret=>exact h9
  ·exact plain _ _ h
  ·exact plain _ _ h
 | .cond t a b,at',β,y,c,e,ea,k,hR,he,h=>by
  simp only[eval]at h;split at h
  ·rename_i p hp;have ht:=dy he t;rw[hp]at ht;have ht:=ht.bool_inv
   have key: ∀(e1 e2:ed) (l r:AT),cy c e1 ea∨p=false→cy c e2 ea∨p=true→cond p (eval tab a l β e1 c.S k) (eval tab b r β e2 c.S k)=some y→sK (fP tab) (.cond t a b) (oN c k y) ea c.σ:=by
    intro e1 e2 l r h1 h2 h3;simp only[sK,ht];cases p with
    |true=>
     rcases h1 with h1|h1
     ·exact nZ a l hR h1 h3
     ·cases h1
    |false=>
     rcases h2 with h2|h2
     ·exact nZ b r hR h2 h3
     ·cases h2
   have pb: ∀(i:Nat),t= .tmp i→(cy c (na e i (.bool true)) ea∨p=false)∧(cy c (na e i (.bool false)) ea∨p=true):=by
    intro i hi;subst hi;have:=bE7 he hp;cases p with
    |true=>exact⟨.inl this, .inr rfl⟩
    |false=>exact⟨.inr rfl, .inl this⟩
   split at h
   ·exact key _ _ _ _ (pb _ rfl).1 (pb _ rfl).2 h
   ·exact key _ _ _ _ (pb _ rfl).1 (pb _ rfl).2 h
   ·exact key _ _ _ _ (.inl he) (.inl he) h
   ·exact key _ _ _ _ (.inl he) (.inl he) h
  ·cases h
 | .block id b,at',β,y,c,e,ea,k,hR,he,h=>by
  simp only[eval]at h;refine fC (du tab) b _ _ (fun x ea' σ' hx=> ?_) ea c.σ (nZ b _ hR he h);obtain⟨e',c',h2,h3,h4,h5,h6⟩:=hx;cases x with
  |normal=>exact⟨e',c',h2,h3,h4,h5,h6⟩
  |ret=>exact⟨e',c',h2,h3,h4,h5,h6⟩
  |exit i=>
   simp only at h6⊢;cases hi:aW i id with
   |true=>
    rw[hi]at h6;rw[zE (bA hi)];exact⟨e',c',h2,h3,h4,h5,h6⟩
   |false=>
    rw[hi]at h6;rw[zF (fun e=>by rw[e,Nat.beq_refl]at hi;cases hi)];exact⟨e',c',h2,h3,h4,h5,h6⟩
 | .loop b,at',β,y,c,e,ea,k,hR,he,h=>by
  simp only[eval]at h;split at h
  ·rename_i fx head exits l _;obtain⟨hg,h⟩:=cx h;rw[aB,aB]at hg;obtain⟨⟨g1,g2⟩,g3⟩:=hg;split at h
   ·rename_i st hd;obtain⟨t0,h1,h⟩:=cm h;obtain⟨s,h2,h3⟩:=cm h
    have round: ∀(n:Nat) (t:Tup head.sk.shs) (ea1:dM) (σ1:Hp),cN0 c e ea fx (lC st.m) (iW b) head.ts head.sk t ea1 σ1→cv (fun t=>match ag0 e c.S fx (lC st.m) (iW b) true head.ts head.sk t with
      |some (e1,S1)=>eval tab b l (Tup head.sk.shs⊕rG exits) e1 S1 fun x e' S'=>(match x with
       | .normal=>(ap9 S' c.S.length fx head.sk (head.ts.map (jI e'))).bind fun t=>some (.inl t)
       |x=>(sj S' c.S.length fx (fun ts=>ts.map (jI e')) (fun y=>y.is x) exits).bind fun s=>some (.inr s))
      |none=>none) n t=some s→iJ (sK (fP tab) b) (oN c k y) n ea1 σ1:=by
     intro n;induction n with
     |zero=>intro t ea1 σ1 _ hl;cases hl
     |succ n ih=>
      intro t ea1 σ1 hH hl;rw[dP]at hl;obtain⟨z,hl1,hl2⟩:=cm hl;obtain⟨c1,e1,q1,q2,q3,q4,q5,q6⟩:=hH;subst q1;rw[q2]at hl1;simp only at hl1;have h4:=rP (du tab) (as:=iW b) (e0:=ea) b g3 (fun t ht=>ht) q6 (nZ b l q3 q4 hl1);simp only[iJ];refine fC (du tab) b _ _ (fun x ea' σ' hx=> ?_) ea1 c1.σ h4;obtain⟨hk,e',c',h5,h6,h7,h8,h9⟩:=hx;subst h5;cases x with
      |normal=>
       simp only at h9⊢;obtain⟨t',h10,h11⟩:=cm h9;injection h11 with h11
       subst h11;simp only[dJ]at hl2;refine ih t' ea' c'.σ ?_ hl2;obtain⟨hro,st',h12,h13⟩:=ai1 h10
       have hset: ∃e2 S2,ag0 e c.S fx (lC st.m) (iW b) true head.ts head.sk t'=some (e2,S2):=by
        cases n with
        |zero=>cases hl2
        |succ n=>
         rw[dP]at hl2;obtain⟨z',hl3,_⟩:=cm hl2;cases hz:ag0 e c.S fx (lC st.m) (iW b) true head.ts head.sk t' with
         |none=>rw[hz]at hl3;cases hl3
         |some q=>exact⟨q.1,q.2,rfl⟩
       obtain⟨e2,S2,hset⟩:=hset;obtain⟨vs,fs,bs,S3,r1,r2,r3,r4⟩:=aX9 hset;rw[h13]at r1;obtain⟨ct,u1,u2,u3,u4,u5,u6,u7,u8⟩:=cA4 hR h7 q5 q3 h6 g2 hro h12 r1 (aM5 h8 _) r2;refine⟨ct,e2,u1,by rw[hset,r4,u2],u6, ?_,bj7 u5 r2 u2 fun q hq hn hm hdm b' y' hb hy=> ?_,hk⟩
       ·rw[r3];exact ax4 (ah8 (he.frame u5) hk) u7
       ·refine(u8 q hq hn ?_).2 b' y' hb hy;obtain⟨v1,v2,v3,_⟩:=iD r2;rw[jG]at v2;rw[u2,kr (by rw[v2];exact hq),v3 q hn,jF hq,aX,iy hn];rcases hm with hm|hz
        ·rw[iy hm,zD,zD,zC,fc];exact hdm
        ·rw[hz];cases jN q (lC st.m)with
         |true=>exact hdm
         |false=>rw[zD,zD,zC,fc];exact hdm
      |exit i=>
       simp only at h9⊢;obtain⟨s',h10,h11⟩:=cm h9;injection h11 with h11
       subst h11;simp only[dJ]at hl2;injection hl2 with hl2
       subst hl2;exact bt0 hR he h7 q5 q3 h6 g2 hk h8 h10 h3
      |ret=>
       simp only at h9⊢;obtain⟨s',h10,h11⟩:=cm h9;injection h11 with h11
       subst h11;simp only[dJ]at hl2;injection hl2 with hl2
       subst hl2;exact bt0 hR he h7 q5 q3 h6 g2 hk h8 h10 h3
    refine⟨fi,round fi t0 ea c.σ ?_ h2⟩
    have hset: ∃e2 S2,ag0 e c.S fx (lC st.m) (iW b) true head.ts head.sk t0=some (e2,S2):=by
     have hb:fi=(fi-1)+1:=rfl;rw[hb,dP]at h2;obtain⟨z',hl3,_⟩:=cm h2;cases hz:ag0 e c.S fx (lC st.m) (iW b) true head.ts head.sk t0 with
     |none=>rw[hz]at hl3;cases hl3
     |some q=>exact⟨q.1,q.2,rfl⟩
    obtain⟨e2,S2,hset⟩:=hset;obtain⟨vs,fs,bs,S3,r1,r2,r3,r4⟩:=aX9 hset;rw[aw8 h1]at r1;obtain⟨ct,u1,u2,u3,u4,u5,u6,u7⟩:=bY9 hR g2 g1 hd r1 (aM5 he _) r2;refine⟨ct,e2,u1,by rw[hset,r4,u2],u6, ?_,bj7 u5 r2 u2 fun q hq hn hm hdm b' y' hb hy=>by rw[u1];exact hy,oo.refl _ _⟩;rw[r3];exact ax4 (ah8 (he.frame u5) (oo.refl _ _)) u7
   ·cases h
  ·exact⟨_,aw4 (fun at'' {β y c e ea k} hR he h=>nZ b at'' hR he h) at' hR he h⟩
end
end
section
open Nat renaming le_of_ble_eq_true → aB, zero_add → aD
theorem aM7 {c:Ctx}{e:ed}{ea:dM}(hR:eI c)(he:cy c e ea): ∀{rs:List ARes} {vs:List VV},ax7 e c.S rs=some vs→∃us,aD0 ea c.σ rs=some us∧F2 (VRel c) vs us
 |[],vs,h=>by injection h with h;subst h;exact⟨[],rfl, .nil⟩
 |r::rs,vs,h=>by
  simp only[ax7]at h;obtain⟨v,h1,h⟩:=cm h;obtain⟨vs',h2,h⟩:=cm h;injection h with h
  subst h;obtain⟨us,h3,h4⟩:=aM7 hR he h2
  have key: ∃u,aW5 ea c.σ r=some u∧VRel c v u:=by
   cases r with
   |tmp t=>
    simp only[cw9]at h1;injection h1 with h1
    subst h1;exact⟨_,rfl,he t⟩
   |cell t=>
    simp only[cw9]at h1;split at h1
    ·rename_i b o hp;split at h1
     ·rename_i es z l hb;have ht:=he t;rw[hp]at ht;cases ht with
      |ptr hk _ hd=>
       have hdim:(cl c.S b).dim=some (es,l.length):=by rw[hb];rfl
       obtain⟨bb,hm,ha⟩:=hd _ hdim;have hs:=hR.stands hdim hm;rw[hb]at hs;obtain⟨y,a,h5,h6,h7⟩:=hs.get h1;refine⟨a, ?_,h7⟩;rw[aD]at h6;simp only[aW5,ha,h5,zG,h6]
     ·cases h1
    ·cases h1
   |cellN t n=>
    simp only[cw9]at h1;split at h1
    ·rename_i b o hp;split at h1
     ·rename_i es z l hb;cases hc:Nat.ble (o+n) l.length with
      |false=>rw[hc]at h1;cases h1
      |true=>
       rw[hc]at h1;injection h1 with h1
       subst h1;have ht:=he t;rw[hp]at ht;cases ht with
       |ptr hk _ hd=>
        have hdim:(cl c.S b).dim=some (es,l.length):=by rw[hb];rfl
        obtain⟨bb,hm,ha⟩:=hd _ hdim;have hs:=hR.stands hdim hm;rw[hb]at hs;obtain⟨y,as,h5,h6,h7⟩:=hs.read (aB hc);rw[aD]at h6;refine⟨.agg as.toArray, ?_, .agg (by simp only[Blk.vals]at h7;simpa using h7)⟩;simp only[aW5,ha,h5,zG,h6,Option.map_some]
     ·cases h1
    ·cases h1
  obtain⟨u,h5,h6⟩:=key;exact⟨u::us,by simp only[aD0,h5,h3], .cons h6 h4⟩
theorem bw1 {c:Ctx}{vs:List VV}{us:List Value}(h:F2 (VRel c) vs us):VRel c (bH7 vs) (vn us):=by
 cases h with
 |nil=>exact .tup .nil
 |cons h1 h2=>
  cases h2 with
  |nil=>exact h1
  |cons h2 h3=>exact .tup (by simpa using F2.cons h1 (F2.cons h2 h3))
theorem aR2 {c:Ctx}{vs:List VV}{as:List Value}(h:F2 (VRel c) vs as):cy c vs (dM.of as):=by
 intro t
 have hg: ∀(l:List VV) (i:Nat),jI l i=(l[i]?).getD .undef:=by
  intro l;induction l with
  |nil=>intro i;simp[jI]
  |cons a l ih=>intro i;cases i with
   |zero=>simp[jI]
   |succ i=>simp[jI,ih]
 rw[hg];unfold dM.of;cases hv:vs[t]? with
 |none=>exact .undef _
 |some v=>
  obtain⟨a,h1,h2⟩:=h.get t v hv;rw[h1];exact h2
theorem aR8 : ∀{n q:Nat},q<n→q∈aR7 n
 |n+1,q,h=>by
  by_cases e:q=n
  ·subst e;exact List.mem_cons_self
  ·exact List.mem_cons_of_mem _ (aR8 (by omega))
theorem cn1 {P:Program}{f:FuncId}{tab:Tab}{vals:List Sk}{objs:List OSk}{outs:List Alt}{at':AT}{run:Tup (tZ.shs ⟨vals,[],objs⟩)→Option (rG outs)}(ht:gT P tab.fs)(hi:cj P tab.is)
  (he: ∀t o,run t=some o→aT7 P f tab vals objs outs at' t=some o):sH P ⟨f,vals,objs,outs,run⟩:=by
 intro B μ σ w args cargs K hs hR0 ha;obtain⟨c,vals',st,t,o,p,v,fs,bs,S',h1,hR,hf,hd,hl,hcut,hok,hrun,hp,henc,hS,hK⟩:=hs;subst h1;have hev:=he t o hrun;unfold aT7 at hev;split at hev
 ·rename_i af vs fs0 S0 htr hen;obtain⟨hg,hev⟩:=cx hev;refine bS5 htr (du tab) (ag5 ht hi) B μ c.σ w args cargs K ?_ hR0 ha;have htl:toL (tZ.shs ⟨vals,[],objs⟩) t=st.ls:=aw8 hl;rw[htl]at hen;obtain⟨hE,hfv⟩:=enter hR rfl hd hen hf;have hlen:args.length≤af.ntmps:=by rw[←hfv.length];exact aB hg
  refine⟨hlen, ?_⟩;obtain⟨l1,l2⟩:=hE.len;have hbody:=nZ af.body at' (c:=jx c st S0) hE.rel (aR2 hfv) hev;refine fC (du tab) af.body _ _ (fun x ea σ' hx=> ?_) _ _ hbody;obtain⟨e',c',h2,h3,h4,h5,h6⟩:=hx;subst h2
  have fin:(match ax7 e' c'.S af.results with
    |some rs=>sj c'.S S0.length (pT objs 0) (fun _=>[bH7 rs]) (fun _=>true) outs
    |none=>none)=some o→(match aD0 ea c'.σ af.results with
    |some vs=>K (vn vs) c'.σ
    |none=>False):=by
   intro h7;split at h7
   ·rename_i rs hrs;obtain⟨us,h8,h9⟩:=aM7 h4 h5 hrs;rw[h8];simp only;obtain⟨p',q1,_,q3⟩:=ai0 h7;simp only at hp;rw[hp]at q1;injection q1 with q1
    subst q1;obtain⟨hro,st',q4,q5⟩:=ai1 q3;obtain⟨ap1,_⟩:=mF hd;have hnd:=mD ap1;rw[List.nil_append]at hnd;simp only at henc hS hcut hok;rw[q5]at henc
    have hlent: ∀(i:Nat) (o:OSk) (x:Src),objs[i]?=some o→o.ro=true→st.m[i]?=some (some x)→x.k∈st.lent:=by
     intro i o x g1 g2 g3;unfold lB at hd;obtain⟨st1,d1,hd⟩:=cm hd;obtain⟨st2,d2,hd⟩:=cm hd;obtain⟨st3,d3,hd⟩:=cm hd
     have:st3=st:=by
      cases hb:(an0 ([]++lC st3.m)&&yo ([]++iE (FSum.ins ⟨f,vals,objs,outs,run⟩).free st3.m) st3.lent)with
      |false=>rw[hb]at hd;cases hd
      |true=>rw[hb]at hd;injection hd
     subst this;exact bu8 d3 i o x g1 g2 (by rw[aD];exact g3)
    obtain⟨ct,r1,r2,r3,r4,r5,r6⟩:=aW6 hR rfl hE h3 h4 hcut hok hnd hlent hro (by rw[←l1];exact q4) henc (.cons (bw1 h9) .nil) hS;cases r5 with
    |cons r5 _=>exact hK _ _ ⟨ct,r1,r2,r3,r4,r5,r6⟩
   ·cases h7
  cases x with
  |exit i=>cases h6
  |normal=>exact fin h6
  |ret=>exact fin h6
 ·cases hev
theorem dx {P:Program}{f:FuncId}{tab:List FSum}{ins:List Inl}{vals:List Sk}{objs:List OSk}{outs:List Alt}{at':AT}{run:Tup (tZ.shs ⟨vals,[],objs⟩)→Option (rG outs)}(ht:gT P tab)(hi:cj P ins)
  (he: ∀t,aT7 P f ⟨tab,ins⟩ vals objs outs at' t=run t):sH P ⟨f,vals,objs,outs,run⟩:=cn1 (tab:=⟨tab,ins⟩) ht hi fun t o h=>(he t).trans h
theorem cn0 {P:Program}{f:FuncId}{tab:List FSum}{vals:List Sk}{objs:List OSk}{outs:List Alt}{at':AT}{run:Tup (tZ.shs ⟨vals,[],objs⟩)→Option (rG outs)}(ht:gT P tab)
  (he: ∀t,aT7 P f ⟨tab,[]⟩ vals objs outs at' t=run t):sH P ⟨f,vals,objs,outs,run⟩:=dx ht (cj.nil P) he
theorem cu {P:Program}{f:FuncId}{tab:List FSum}{ins:List Inl}{at':AT}(ht:gT P tab)(hi:cj P ins):bJ8 P ⟨f,dz P f ⟨tab,ins⟩ at'⟩:=by
 intro B μ σ w args cargs K hs hR0 ha;obtain⟨β,y,c,vals,k,h1,hR,hf,hev,hK⟩:=hs;subst h1;simp only[dz]at hev;split at hev
 ·rename_i af htr;obtain⟨hg,hev⟩:=cx hev;refine bS5 htr (du ⟨tab,ins⟩) (ag5 (tab:=⟨tab,ins⟩) ht hi) B μ c.σ w args cargs K ?_ hR0 ha;have hlen:args.length≤af.ntmps:=by rw[←hf.length];exact aB hg
  refine⟨hlen, ?_⟩;have hbody:=nZ af.body at' (c:=c) hR (aR2 hf) hev;refine fC (du ⟨tab,ins⟩) af.body _ _ (fun x ea σ' hx=> ?_) _ _ hbody;obtain⟨e',c',h2,h3,h4,h5,h6⟩:=hx;subst h2
  have fin:(match ax7 e' c'.S af.results with
    |some rs=>k (bH7 rs) c'.S
    |none=>none)=some y→(match aD0 ea c'.σ af.results with
    |some vs=>K (vn vs) c'.σ
    |none=>False):=by
   intro h7;split at h7
   ·rename_i rs hrs;obtain⟨us,h8,h9⟩:=aM7 h4 h5 hrs;rw[h8];exact hK _ _ ⟨bH7 rs,c',rfl,h3,h4,fun q hq hn=>(hn (aR8 hq)).elim,bw1 h9,h7⟩
   ·cases h7
  cases x with
  |exit i=>cases h6
  |normal=>exact fin h6
  |ret=>exact fin h6
 ·cases hev
def aq4 :List Alt:=[⟨.ret,[],⟨[.leaf .bool],[],[]⟩⟩]
def qD (σ:Hp):Ctx:=⟨fun _=>none,[],σ,fun _=>False⟩
theorem bM5 {σ:Hp}(h:σ.Ok):eI (qD σ):=
 ⟨h,fun k k' b hz _ _ _=>(by cases hz),fun k d hd=>(by cases hd),fun k b hd=>(hd rfl).elim,fun b hb=>hb.elim⟩
theorem aq3 {σ:Hp}(b:Nat): ¬(qD σ).mut b:=by
 rintro(⟨k,h,_⟩|h)
 ·cases h
 ·exact h
theorem ci7 {P:Program}{f:FuncId}{vals:List Sk}{run:Tup (tZ.shs ⟨vals,[],[]⟩)→Option (rG aq4)}(h:sH P ⟨f,vals,[],aq4,run⟩){w:World}(hT:bW6 P w){rows:List Row}{args:List Value}{cargs:Array Value}{vs:List VV}{st:DSt}{t:Tup (tZ.shs ⟨vals,[],[]⟩)}
  (hrows: ∀r∈rows,∀(i:Nat) (v:Value),r.cells[i]?=some v→∃v',w.cell? ⟨r.c,r.o+i,none⟩=some v'∧VR (kq rows) v v') (hargs:F2 (VR (kq rows)) args cargs.toList)
  (hv:F2 (VRel (qD (jK w.heap.size rows))) vs args) (hd:lB [] 0 [] ⟨vals,[],[]⟩ vs=some st) (hl:ofL _ st.ls=some t) (hr:run t=some true):
  Calls P f cargs w fun e w'=>e= .returned (.bool true)∧Go.RowKit.Below w.heap.size w w':=by
 have hm:st.m=[]:=by
  unfold lB at hd;obtain⟨st1,d1,hd⟩:=cm hd;obtain⟨st2,d2,hd⟩:=cm hd;obtain⟨st3,d3,hd⟩:=cm hd
  have:st3=st:=by
   cases hb:(an0 ([]++lC st3.m)&&yo ([]++iE ([]:List OSk) st3.m) st3.lent)with
   |false=>rw[hb]at hd;cases hd
   |true=>rw[hb]at hd;injection hd
  subst this;simp only[pP]at d3;cases hb:Nat.beq 0 st2.m.length with
  |false=>rw[hb]at d3;cases d3
  |true=>
   rw[hb]at d3;injection d3 with d3
   subst d3;exact List.length_eq_zero_iff.1 (Nat.eq_of_beq_eq_true hb).symm
 refine cE0 (S:=(FSum.mk f vals [] aq4 run).spec) h hT hrows hargs ?_;refine⟨qD (jK w.heap.size rows),vs,st,t,true,⟨⟨.ret,[],⟨[.leaf .bool],[],[]⟩⟩,true⟩, .bool true,[],[],cond (yR [.bool true] [] []) (yU st.lent []) [],rfl,bM5 cx2,hv,hd,hl,by rw[hm];rfl,by rw[hm];rfl,hr,rfl,rfl,by rw[hm];rfl, ?_⟩;rintro r σ' ⟨ct,_,_,_,_,hrel,_⟩;exact hrel.bool_inv
end
section
theorem ca8 {α γ:Type}{f:α→Option (α⊕γ)}(I:α→Prop)(m:α→Nat)(Q:γ→Prop)(h: ∀a,I a→(∃b,f a=some (.inl b)∧I b∧m b<m a)∨∃c,f a=some (.inr c)∧Q c): ∀(n:Nat) (a:α),I a→m a<n→∃c,cv f n a=some c∧Q c:=by
 intro n;induction n with
 |zero=>intro a _ h1;omega
 |succ n ih=>
  intro a hI hm;rcases h a hI with⟨b,h1,h2,h3⟩|⟨c,h1,h2⟩
  ·obtain⟨c,h4,h5⟩:=ih b h2 (by omega);exact⟨c,by rw[dP,h1];exact h4,h5⟩
  ·exact⟨c,by rw[dP,h1];rfl,h2⟩
theorem mH {α γ:Type}{f:α→Option (α⊕γ)}{a:α}(I:α→Prop)(m:α→Nat)(Q:γ→Prop)(h0:I a)(hm:m a<18446744073709551616)(h: ∀a,I a→(∃b,f a=some (.inl b)∧I b∧m b<m a)∨∃c,f a=some (.inr c)∧Q c): ∃c,cv f fi a=some c∧Q c:=
 ca8 I m Q h fi a h0 hm
theorem aM4 {α γ:Type}{f:α→Option (α⊕γ)}{a:α}{c:γ}(I:α→Prop)(m:α→Nat)(h0:I a)(hm:m a<18446744073709551616)(h: ∀a,I a→(∃b,f a=some (.inl b)∧I b∧m b<m a)∨f a=some (.inr c)):cv f fi a=some c:=by
 obtain⟨c',h1,h2⟩:=mH I m (· =c) h0 hm fun a ha=>by
  rcases h a ha with h|h
  ·exact .inl h
  ·exact .inr ⟨c,h,rfl⟩
 rw[h1,h2]
theorem cr {α:Type}{p:Prop}[Decidable p]{x y:α}:cond (decide p) x y=if p then x else y:=by by_cases h:p<;>simp[h]
theorem dN {β:Type}{x:Option β}:gd true x=x:=rfl
theorem cD2 {β:Type}{p:Prop}[Decidable p]{x:Option β}(h:p):gd (decide p) x=x:=by rw[zB h];rfl
theorem dq {β:Type}{n b:Nat}{x:Option β}(h:n*b≤140737488355328)(hb:1≤b):gd (fU n b) x=x:=by
 have:fU n b=true:=by
  unfold fU;rw[zB h,Bool.true_and];exact Nat.ble_eq_true_of_le hb
 rw[this];rfl
theorem eE {α:Type}{l:List α}{i:Nat}(h:i<l.length):rd l (i:Int)=some l[i]:=by
 unfold rd;rw[zB (by omega),zC,Int.toNat_natCast,List.getElem?_eq_getElem h]
theorem ck {n:Int}(h: -9223372036854775808≤n∧n≤9223372036854775807):IntKind.i64.wrap n=n:=IntWalk.i64_in _ h
theorem ik {α γ β:Type}{a:α}{f:α→Option β}{g:γ→Option β}:dJ (.inl a) f g=f a:=rfl
theorem dT {α γ β:Type}{a:γ}{f:α→Option β}{g:γ→Option β}:dJ (.inr a) f g=g a:=rfl
theorem aE6.lst {k:IntKind}{w:World}{a:Option Addr}{len cap:Nat}{zs:List Int}{rows:List Row}{j:Nat}(h:aE6 k w a len cap zs)(hr:rows[j]?=some (ax8 k a cap zs)):
  VRel (qD (jK w.heap.size rows)) (.lst (.int k) (zs.take len)) (cn2 j a len cap):=by
 rcases h with⟨rfl,rfl,rfl,rfl⟩|⟨x,rfl,hl,hm,hz,hc,hw⟩
 ·exact .lstn fun z hz=>by cases hz
 ·by_cases h0:cap=0
  ·have:len=0:=by omega
   subst h0;subst this;have:zs.take 0=([]:List Int):=rfl;rw[this];exact .lstn fun z hz=>by injection hz with hz;rw[←hz]
  ·have hz0:0<zs.length:=by omega
   have hlt:x.block<w.heap.size:=bq9 (x:=⟨x.block,x.off+0,none⟩) (ub (ak0 (hc 0 hz0)) (hc 0 hz0))
   have hm:(jK w.heap.size rows).m j=some ⟨zs.map (Value.int k),false,1⟩:=by
    simp only[jK,hr,zG,ax8,zE hlt]
   refine .lst (aq3 j) hm rfl (by rw[List.length_take];omega) hl ?_ ?_
   ·simp only[List.length_map,Nat.zero_add];show len*1≤zs.length;omega
   ·rw[List.drop_zero];show F2 _ _ ((zs.map (Value.int k)).take (len*1));rw[Nat.mul_one,←List.map_take];generalize zs.take len=l;induction l with
    |nil=>exact .nil
    |cons n l ih=>exact .cons (.int _ _) ih
end
section
def ae3 (a:AFn)(tab:Tab)(vals:List Sk)(objs:List OSk)(outs:List Alt)(at':AT)(t:Tup (tZ.shs ⟨vals,[],objs⟩)):Option (rG outs):=
 match mG id ⟨vals,[],objs⟩ (toL _ t)with
 |some (vs,_,S)=>gd (Nat.ble vs.length a.ntmps) (eval tab a.body at' (rG outs) vs S fun x e S'=>match x with
  | .exit _=>none
  |_=>(match ax7 e S' a.results with
   |some rs=>sj S' S.length (pT objs 0) (fun _=>[bH7 rs]) (fun _=>true) outs
   |none=>none))
 |_=>none
theorem be7 {P:Program}{f:FuncId}{af:AFn}{tab:Tab}{vals:List Sk}{objs:List OSk}{outs:List Alt}{at':AT}{run:Tup (tZ.shs ⟨vals,[],objs⟩)→Option (rG outs)}(ht:gT P tab.fs)(hi:cj P tab.is)(htr:bH5 P f=some af)(hen0: ∀t:Tup (tZ.shs ⟨vals,[],objs⟩),∃r,mG id ⟨vals,[],objs⟩ (toL _ t)=some r)
  (he: ∀t o vs fs S,run t=some o→mG id ⟨vals,[],objs⟩ (toL _ t)=some (vs,fs,S)→∀(c:Ctx) args,F2 (VRel c) vs args→
   ∃b,ae3 ⟨af.ntmps,af.results,b⟩ tab vals objs outs at' t=some o∧∀T (_:oq T) Q σ,sK T b Q (dM.of args) σ→sK T af.body Q (dM.of args) σ):sH P ⟨f,vals,objs,outs,run⟩:=by
 intro B μ σ w args cargs K hs hR0 ha;obtain⟨c,vals',st,t,o,p,v,fs,bs,S',h1,hR,hf,hd,hl,hcut,hok,hrun,hp,henc,hS,hK⟩:=hs;subst h1;have htl:toL (tZ.shs ⟨vals,[],objs⟩) t=st.ls:=aw8 hl;cases hen:mG id ⟨vals,[],objs⟩ (toL (tZ.shs ⟨vals,[],objs⟩) t)with
 |none=>
  obtain⟨r,q⟩:=hen0 t;rw[hen]at q;cases q
 |some tr=>
 obtain⟨vs,fs0,S0⟩:=tr;refine bS5 htr (du tab) (ag5 ht hi) B μ c.σ w args cargs K ?_ hR0 ha;have hen':=hen;rw[htl]at hen;obtain⟨hE,hfv⟩:=enter hR rfl hd hen hf;obtain⟨bd,hev,himp⟩:=he t o vs fs0 S0 hrun hen' _ _ hfv;unfold ae3 at hev;rw[hen']at hev;obtain⟨hg,hev⟩:=cx hev;have hlen:args.length≤af.ntmps:=by rw[←hfv.length];exact Nat.le_of_ble_eq_true hg
 refine⟨hlen,himp _ (du tab) _ _ ?_⟩;obtain⟨l1,l2⟩:=hE.len;have hbody:=nZ bd at' (c:=jx c st S0) hE.rel (aR2 hfv) hev;refine fC (du tab) bd _ _ (fun x ea σ' hx=> ?_) _ _ hbody;obtain⟨e',c',h2,h3,h4,h5,h6⟩:=hx;subst h2
 have fin:(match ax7 e' c'.S af.results with
   |some rs=>sj c'.S S0.length (pT objs 0) (fun _=>[bH7 rs]) (fun _=>true) outs
   |none=>none)=some o→(match aD0 ea c'.σ af.results with
   |some vs=>K (vn vs) c'.σ
   |none=>False):=by
  intro h7;split at h7
  ·rename_i rs hrs;obtain⟨us,h8,h9⟩:=aM7 h4 h5 hrs;rw[h8];simp only;obtain⟨p',q1,_,q3⟩:=ai0 h7;simp only at hp;rw[hp]at q1;injection q1 with q1
   subst q1;obtain⟨hro,st',q4,q5⟩:=ai1 q3;obtain⟨ap1,_⟩:=mF hd;have hnd:=mD ap1;rw[List.nil_append]at hnd;simp only at henc hS hcut hok;rw[q5]at henc
   have hlent: ∀(i:Nat) (o:OSk) (x:Src),objs[i]?=some o→o.ro=true→st.m[i]?=some (some x)→x.k∈st.lent:=by
    intro i o x g1 g2 g3;unfold lB at hd;obtain⟨st1,d1,hd⟩:=cm hd;obtain⟨st2,d2,hd⟩:=cm hd;obtain⟨st3,d3,hd⟩:=cm hd
    have:st3=st:=by
     cases hb:(an0 ([]++lC st3.m)&&yo ([]++iE (FSum.ins ⟨f,vals,objs,outs,run⟩).free st3.m) st3.lent)with
     |false=>rw[hb]at hd;cases hd
     |true=>rw[hb]at hd;injection hd
    subst this;exact bu8 d3 i o x g1 g2 (by rw[Nat.zero_add];exact g3)
   obtain⟨ct,r1,r2,r3,r4,r5,r6⟩:=aW6 hR rfl hE h3 h4 hcut hok hnd hlent hro (by rw[←l1];exact q4) henc (.cons (bw1 h9) .nil) hS;cases r5 with
   |cons r5 _=>exact hK _ _ ⟨ct,r1,r2,r3,r4,r5,r6⟩
  ·cases h7
 cases x with
 |exit i=>cases h6
 |normal=>exact fin h6
 |ret=>exact fin h6
def bL4 (es bytes:Nat)(z:List Value)(c:AOp)(n:AOp):AC:=
 .seq (.region [⟨some 2, .move (.const (.slice none 0 0)),none⟩]) (.seq (.seq (.region [⟨some 3, .move (.tmp 0),none⟩,⟨some 4,c,none⟩]) (.cond (.tmp 4) (.seq (.region [⟨some 2,n,none⟩]) .ret) .skip))
  (.seq (.region [⟨some 5, .buildSlice es 0 z [],none⟩,⟨some 6, .move (.tmp 0),none⟩,⟨some 7, .append es bytes (.tmp 5) (.tmp 6),none⟩,⟨some 2, .move (.tmp 7),none⟩]) .ret))
def br5 (es bytes:Nat)(z:List Value):AFn:=⟨8,[.tmp 2],bL4 es bytes z (.eqv 2 false (.tmp 3) (.const (.slice none 0 0))) (.move (.const (.slice none 0 0)))⟩
def cq3 (es bytes:Nat)(z:List Value):AFn:=⟨8,[.tmp 2],bL4 es bytes z (.move (.const (.bool false))) (.move (.const (.slice none 0 0)))⟩
def cg6 (es bytes:Nat)(z:List Value):AFn:=⟨8,[.tmp 2],bL4 es bytes z (.move (.const (.bool true))) (.append es bytes (.const (.slice none 0 0)) (.tmp 0))⟩
def ud (s:Sh):List Alt:=[⟨.ret,[],⟨[.full 0],[],[.arr false s]⟩⟩]
theorem ae0 {P:Program}{f:FuncId}{es bytes:Nat}{z:List Value}{s:Sh}(htr:bH5 P f=some (br5 es bytes z))
  (h0: ∀t:Tup (tZ.shs ⟨[.leaf (.list s)],[],[]⟩),mG id ⟨[.leaf (.list s)],[],[]⟩ (toL _ t)=some ([.lst s t],[],[]))
  (h1: ∀l:List (El s),ae3 (cq3 es bytes z) ⟨[],[]⟩ [.leaf (.list s)] [] (ud s) .no l=gd (fU (0+l.length) bytes) (some l))
  (h2:ae3 (cg6 es bytes z) ⟨[],[]⟩ [.leaf (.list s)] [] (ud s) .no ([]:List (El s))=gd (fU (0+0) bytes) (some ([]:List (El s)))):
  sH P ⟨f,[.leaf (.list s)],[],ud s,fun l:List (El s)=>gd (fU (0+l.length) bytes) (some l)⟩:=by
 refine be7 (at':= .no) (tab:=⟨[],[]⟩) (gT.nil P) (cj.nil P) htr (fun t=>⟨_,h0 t⟩) fun t o vs fs S hrun hen c args ha=> ?_
 have hvs:vs=[.lst s t]:=by
  rw[h0 t]at hen;injection hen with hen
  injection hen with hen
  exact hen.symm
 subst hvs;cases ha with
 |cons ha hb=>
 cases hb
 have no: ∀q n cp (args:List Value),args=[.slice (some q) n cp]→∃b,ae3 ⟨(br5 es bytes z).ntmps,(br5 es bytes z).results,b⟩ ⟨[],[]⟩ [.leaf (.list s)] [] (ud s) .no t=some o∧
   ∀T (_:oq T) Q σ,sK T b Q (dM.of args) σ→sK T (br5 es bytes z).body Q (dM.of args) σ:=by
  rintro q n cp args rfl;exact⟨_,(h1 t).trans hrun,fun T _ Q σ h=>h⟩
 cases ha with
 | @lst s l b p n cp y h3 h4 h5 h6 h7 h8 h9=>exact no _ _ _ _ rfl
 | @lstn s q h3=>
  cases q with
  |some q=>exact no _ _ _ _ rfl
  |none=>exact⟨_,h2.trans hrun,fun T _ Q σ h=>h⟩
theorem ar3 {P:Program}{f:FuncId}{vals:List Sk}{objs:List OSk}{outs:List Alt}{run:Tup (tZ.shs ⟨vals,[],objs⟩)→Option (rG outs)}(h: ∀t,run t=none):sH P ⟨f,vals,objs,outs,run⟩:=by
 intro B μ σ w args cargs K hs;obtain⟨c,vals',st,t,o,p,v,fs,bs,S',h1,hR,hf,hd,hl,hcut,hok,hrun,_⟩:=hs;have hrun:run t=some o:=hrun;rw[h t]at hrun;cases hrun
end
open Go.Ab Go.ChangeShapes Go.WideShapes
section
theorem ca6 {P:Program}{f:FuncId}{vals:List Sk}{run:Tup (tZ.shs ⟨vals,[],[]⟩)→Option (rG aq4)}(h:sH P ⟨f,vals,[],aq4,run⟩){w:World}(hT:bW6 P w){rows:List Row}{args:List Value}{cargs:Array Value}{vs:List VV}(t:Tup (tZ.shs ⟨vals,[],[]⟩))
  (hrows: ∀r∈rows,∀(i:Nat) (v:Value),r.cells[i]?=some v→∃v',w.cell? ⟨r.c,r.o+i,none⟩=some v'∧VR (kq rows) v v') (hargs:F2 (VR (kq rows)) args cargs.toList)
  (hv:F2 (VRel (qD (jK w.heap.size rows))) vs args) (hd:((lB [] 0 [] ⟨vals,[],[]⟩ vs).bind fun st=>ofL _ st.ls)=some t) (hr:run t=some true):
  Calls P f cargs w fun e w'=>e= .returned (.bool true)∧Go.RowKit.Below w.heap.size w w':=by
 obtain⟨st,h1,h2⟩:=cm hd;exact ci7 h hT hrows hargs hv h1 h2 hr
end
section
open Int renaming tmod → aB, tmod_lt_of_pos → aD
theorem aq5 {α δ:Type}{f:α→Option (α⊕δ)}{n:Nat}(F:Nat→α){c:δ}(hn:n<9223372036854775808)(hs: ∀i,i<n→f (F i)=some (.inl (F (i+1))))(he:f (F n)=some (.inr c)):cv f fi (F 0)=some c:=by
 have key: ∀k i m,i+k=n→k<m→cv f m (F i)=some c:=by
  intro k;induction k with
  |zero=>
   intro i m h1 h2;obtain⟨m,rfl⟩: ∃m',m=m'+1:=⟨m-1,by omega⟩
   have:i=n:=by omega
   subst this;show(f (F i)).bind _=_;rw[he];rfl
  |succ k ih=>
   intro i m h1 h2;obtain⟨m,rfl⟩: ∃m',m=m'+1:=⟨m-1,by omega⟩
   show(f (F i)).bind _=_;rw[hs i (by omega)];exact ih (i+1) m (by omega) (by omega)
 exact key n 0 fi (by omega) (by unfold fi;omega)
theorem hO {γ δ:Type}{f:(Int×γ)→Option ((Int×γ)⊕δ)}{n:Nat}(F:Nat→γ){c:δ}(hn:n<9223372036854775808)(hs: ∀i,i<n→f ((i:Int),F i)=some (.inl (((i+1:Nat):Int),F (i+1))))(he:f ((n:Int),F n)=some (.inr c)):cv f fi (0,F 0)=some c:=
 aq5 (fun i=>((i:Int),F i)) hn hs he
theorem oI {δ:Type}{f:Int→Option (Int⊕δ)}{n:Nat}{c:δ}(hn:n<9223372036854775808)(hs: ∀i:Nat,i<n→f (i:Int)=some (.inl ((i+1:Nat):Int)))(he:f (n:Int)=some (.inr c)):cv f fi 0=some c:=
 aq5 (fun i=>(i:Int)) hn hs he
theorem cM5 (n:Int):IntKind.u64.wrap n=n % 18446744073709551616:=by rfl
theorem hZ {n:Int}(h:0≤n∧n<18446744073709551616):IntKind.u64.wrap n=n:=by
 rw[cM5];omega
theorem dp {k n:Nat}(h:k<n):ix (k:Int) n=some k:=by
 unfold ix;rw[zB (show(0:Int)≤k by omega),zB (show(k:Int)<n by omega)];rfl
theorem il {a b:Int}{n:Nat}(h:0≤a∧a≤b∧b≤n):gp a b n=true:=by
 unfold gp;rw[zB h.1,zB h.2.1,zB h.2.2];rfl
theorem bW1 {a b:Int}(h:0≤a):Int.tdiv a b=a / b:=Int.tdiv_eq_ediv_of_nonneg h
theorem spot {L:Nat}(h0:0<L)(hL:L≤1000000){a:Int}(ha: -9223372036854775808≤a∧a≤9223372036854775807): ∃k:Nat,k<L∧aB (IntKind.i64.wrap (aB a (L:Int)+(L:Int))) (L:Int)=(k:Int):=by
 have hp:(0:Int)<(L:Int):=by omega
 have h1:=aD a hp;have h2:=Int.lt_tmod_of_pos a hp;rw[ck (by omega)];have h3:=Int.tmod_nonneg (L:Int) (show 0≤aB a (L:Int)+(L:Int)by omega);have h4:=aD (aB a (L:Int)+(L:Int)) hp;exact⟨(aB (aB a (L:Int)+(L:Int)) (L:Int)).toNat,by omega,by omega⟩
end
end Go.V
