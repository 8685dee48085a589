/- A part of the proof. No condition. -/
import Derived.Test.YtlkdfancfgakdaaGreatA5
import Derived.Test.YtlkdfancfgakdaaGreatA4
set_option linter.unusedVariables false
set_option linter.unusedSimpArgs false
set_option linter.unusedSectionVars false
namespace Go.V
open Go.Ab
open Option renaming some->O,none->Y
open Bool renaming true->Za,false->Zb
open Decidable renaming decide->Zc
variable {c c' c0 c1:Ctx}{ea ea':cj}{e:cu}{op:AOp}{sk:yk}{v:Value}{bs fs:List Blk}{vals vs:List VV}{chk:HV}{as:List Value}{fx mov:List Nat}{x:Ab.Blk}{it:LItem}{st:DSt}{S S2:ah}{tab:Tab}{Z Z1:Hp}
section
open List renaming getElem?_eq_getElem -> aB, nodup_nil -> aD, getElem?_eq_none -> bB, mem_cons_self -> bD
theorem PW : ∀{m:List (Option Src)},PV m=Za->∀(i:Nat) (x:Option Src),m[i]?=O x->∃k,x=O ⟨k,Y⟩
 |[],_,i,x,h=>by simp at h
 |none::_,h,_,_,_=>by cases h
 |some ⟨k,O n⟩::_,h,_,_,_=>by cases h
 |some ⟨k,Y⟩::r,h,0,x,a=>by simp at a;exact⟨k,a.symm⟩
 |some ⟨k,Y⟩::r,h,i+1,x,a=>PW (m:=r) h i x (by simpa using a)
theorem Ku : ∀{os:List OSk} {i j:Nat},j∈xz os i↔∃p o,os[p]?=O o/\o.ro=Zb/\j=i+p
 |[],i,j=>by simp[xz]
 |o::os,i,j=>by
  simp only[xz];have g:= @Ku os (i+1) j;constructor
  .intro h;cases f:o.ro with
   |true=>
    rw[f,zC]at h;obtain⟨p,d,a,b,k⟩:=g.1 h;exact⟨p+1,d,by simpa using a,b,by omega⟩
   |false=>
    rw[f,zD]at h;rcases List.mem_cons.1 h with h|h
    .exact⟨0,o,rfl,f,by omega⟩
    .obtain⟨p,d,a,b,k⟩:=g.1 h;exact⟨p+1,d,by simpa using a,b,by omega⟩
  .rintro⟨p,d,a,b,k⟩;cases p with
   |zero=>
    simp at a;subst a;rw[b,zD];exact List.mem_cons.2 (.inl (by omega))
   |succ p=>
    have:=g.2 ⟨p,d,by simpa using a,b,by omega⟩;cases o.ro with
    |true=>exact this
    |false=>exact List.mem_cons_of_mem _ this
theorem Px : ∀{os:List OSk} {m:List (Option Src)} {i:Nat} {f:Nat->Nat},os.length=m.length->(∀(p:Nat) (x:Option Src),m[p]?=O x->∃k,x=O ⟨k,Y⟩/\f (i+p)=k)->(xz os i).map f=po os m
 |[],[],i,f,_,_=>rfl
 |[],_::_,_,_,h,_=>by simp at h
 |_::_,[],_,_,h,_=>by simp at h
 |o::os,x::m,i,f,h,b=>by
  obtain⟨k,g,a⟩:=b 0 x rfl;subst g
  have d:= @Px os m (i+1) f (by simpa using h) λp y n=>by
   obtain⟨q,j,l⟩:=b (p+1) y (by simpa using n);exact⟨q,j,by rw[<-l];congr 1;omega⟩
  simp only[xz,po];cases o.ro with
  |true=>exact d
  |false=>
   simp only[zD,List.map_cons,d];rw[Nat.add_zero]at a;rw[a]
theorem Hc : ∀{os:List OSk} {m:List (Option Src)} {k:Nat},k∈po os m->∃(i:Nat) (o:OSk) (x:Src),m[i]?=O (O x)/\os[i]?=O o/\o.ro=Zb/\x.k=k
 |[],[],k,h=>by simp[po]at h
 |[],_::_,k,h=>by simp[po]at h
 |_::_,[],k,h=>by simp[po]at h
 |o::os,Y::m,k,h=>by
  obtain⟨i,g,x,a,b,d,f⟩:=Hc (os:=os) (m:=m) h;exact⟨i+1,g,x,by simpa using a,by simpa using b,d,f⟩
 |o::os,O x::m,k,h=>by
  simp only[po]at h;cases j:o.ro with
  |true=>
   rw[j,zC]at h;obtain⟨i,g,l,a,b,d,f⟩:=Hc (os:=os) (m:=m) h;exact⟨i+1,g,l,by simpa using a,by simpa using b,d,f⟩
  |false=>
   rw[j,zD]at h;rcases List.mem_cons.1 h with h|h
   .exact⟨0,o,x,rfl,rfl,j,h.symm⟩
   .obtain⟨i,g,l,a,b,d,f⟩:=Hc (os:=os) (m:=m) h;exact⟨i+1,g,l,by simpa using a,by simpa using b,d,f⟩
theorem NC : ∀{m:List (Option Src)} {k:Nat},k∈sY m->∃(i:Nat) (x:Src),m[i]?=O (O x)/\x.k=k
 |[],k,h=>by simp[sY]at h
 |none::m,k,h=>by
  obtain⟨i,x,a,b⟩:=NC (m:=m) h;exact⟨i+1,x,by simpa using a,b⟩
 |some x::m,k,h=>by
  rcases List.mem_cons.1 h with h|h
  .exact⟨0,x,rfl,h.symm⟩
  .obtain⟨i,d,a,b⟩:=NC (m:=m) h;exact⟨i+1,d,by simpa using a,b⟩
theorem yE : ∀{os:List OSk} {m:List (Option Src)},(sY m).Nodup->(po os m).Nodup
 |[],[],_=>aD
 |[],_::_,_=>aD
 |_::_,[],_=>aD
 |o::os,Y::m,h=>yE (os:=os) (m:=m) h
 |o::os,O x::m,h=>by
  have a:=List.nodup_cons.1 h;have b:=yE (os:=os) a.2;simp only[po];cases o.ro with
  |true=>exact b
  |false=>
   refine List.nodup_cons.2 ⟨λd=>a.1 ?_,b⟩;obtain⟨i,j,k,f,_,_,g⟩:=Hc d;rw[<-g];exact BV f
theorem RG {S:ah}{N:Nat}: ∀{os:List OSk} {i:Nat} {st d:DSt},xu S N os i st=O d->∀(p:Nat) (o:OSk) (x:Src),os[p]?=O o->o.ro=Za->d.m[i+p]?=O (O x)->x.k∈d.lent
 |[],i,st,d,h,p,o,x,j,_,_=>by simp at j
 |o'::os,i,st,d,h,p,o,x,j,f,n=>by
  simp only[xu]at h;split at h
  .rename_i y B;obtain⟨C,b,r⟩:=ag h;cases p with
   |succ p=>exact RG r p o x (by simpa using j) f (by rw[<-n];congr 1;omega)
   |zero=>
    simp at j;subst j;obtain⟨J,D⟩:=(Jh b).m;obtain⟨K,E⟩:=(ub r).m
    have u:d.m[i]?=O y:=by
     rw[<-Ap,E,D];exact Jx (Jx B)
    rw[Nat.add_zero,u]at n;injection n with n
    subst n;refine(ub r).lent _ ?_;unfold U8 at b;split at b
    .cases f
    .rename_i a;injection a with a
     subst a;split at b
     .rename_i z ro l k _ q A F I;simp only[OSk.ro]at f;subst f;cases g:(Nat.beq z q&&(Za|| !A))with
      |false=>rw[g]at b;cases b
      |true=>
       rw[g,zC]at b;exact(xw _ _ _ _ b).lent _ bD
     .cases b
    .rename_i a;cases a
    .rename_i a;injection a with a
     subst a;rename_i ro s w _ _;simp only[OSk.ro]at f;subst f;cases g:(Za|| !(ad S _).frozen)with
     |false=>rw[g]at b;cases b
     |true=>
      rw[g,zC]at b;obtain⟨l,H,t⟩:=ag b;injection t with t
      subst t;exact bD
    .cases b
  .cases h
def qV (c:Ctx)(st:DSt)(bs:List Blk):Ctx:=⟨λi=>match st.m[i]? with
 |some x=>DY c x
 |none=>Y,bs,c.Z,λb=>c.mut b/\¬∃k,(k∈sY st.m∨k∈st.lent)/\(ad c.S k).dim≠Y/\c.μ k=O b⟩
structure Entered (c c0:Ctx)(objs:List OSk)(st:DSt)(bs:List Blk):Prop where
 rel:Rel c0
 sub: ∀i,(ad c0.S i).dim≠Y->∃x,st.m[i]?=O x/\c0.μ i=DY c x/\∀y,x=O y->(ad c.S y.k).dim≠Y/\(y.cut=Y->(ad c0.S i).dim=(ad c.S y.k).dim)/\((ad c0.S i).frozen=Zb->(ad c.S y.k).frozen=Zb)
 own: ∀b,c0.own b->c.own b
 fz: ∀(i:Nat) (o:OSk),objs[i]?=O o->o.ro=Za->(ad c0.S i).frozen=Za/\(ad c0.S i).dim≠Y
 len:bs.length=objs.length/\st.m.length=objs.length
theorem enter (F:Rel c)(h0:sk.fix=[])(hd:rL c.S 0 [] sk vals=O st)(he:ud id sk st.ls=O (vs,fs,bs))(hf:F2 (VRel c) vals as):
  Entered c (qV c st bs) sk.free st bs/\F2 (VRel (qV c st bs)) vs as:=by
 obtain⟨ct0,vs0,fs0,bs0,L,p2,p3⟩:=Pq (f:=id) F hd hf;rw[he]at L;injection L with L
 injection L with q1 L
 injection L with q2 q3
 subst q1;subst q2;subst q3;obtain⟨ap1,N⟩:=uc hd;have Q:=ua ap1;rw[List.nil_append]at Q N;obtain⟨U,y2,y3⟩:=p3.get
 have J: ∀i,(ad bs i).dim≠Y->∃(x:Option Src) (o:OSk),st.m[i]?=O x/\sk.free[i]?=O o/\yF c ct0 o x (ad bs i):=by
  intro i H;have t:=py H;have C:=aB t;have r:i<st.m.length:=by rw[U];exact t
  obtain⟨o,g,p⟩:=y3 i _ _ (aB r) C;rw[zP C];exact⟨_,o,aB r,g,p⟩
 have u: ∀i x,st.m[i]?=O x->(qV c st bs).μ i=DY c x:=by
  intro i x X
  show(match st.m[i]? with
   |some x=>DY c x
   |none=>Y)=_
  rw[X]
 have I: ∀i,(ad bs i).frozen=Zb->∀b,(qV c st bs).μ i=O b->∃x,st.m[i]?=O (O x)/\(ad c.S x.k).frozen=Zb/\c.μ x.k=O b/\x.k∈po sk.free st.m:=by
  intro i z b r;obtain⟨x,o,g,p,l⟩:=J i (rk z);rw[u i x g]at r;rcases l with⟨_,l⟩|⟨l,q⟩
  .rw[l]at z;cases z
  .cases x with
   |none=>cases r
   |some x=>
    obtain⟨k,B⟩:=x;rw[l]at z;exact⟨_,g,q.1 z,r,JW g p z⟩
 have K: ∀i,(ad bs i).dim≠Y->∀b,(qV c st bs).μ i=O b->∃x,st.m[i]?=O (O x)/\(ad c.S x.k).dim≠Y/\c.μ x.k=O b:=by
  intro i z b r;obtain⟨x,o,g,p,l⟩:=J i z;rw[u i x g]at r;rcases l with⟨_,l⟩|⟨l,q⟩
  .rw[l]at z;exact(z rfl).elim
  .cases x with
   |none=>cases r
   |some x=>
    obtain⟨k,B⟩:=x;obtain⟨_,d,w,_⟩:=q;exact⟨_,g,by rw[w];simp,r⟩
 have hT:Tell c (qV c st bs) 0 id st:=by
  refine⟨⟨rfl,λb y hy hn=> ?_⟩,λj x hl=> ?_,λs hs T b r=> ?_⟩
  .rintro(⟨i,g,p⟩|h)
   .obtain⟨x,_,l,q,_⟩:=I i g b p;exact hn (.inl ⟨x.k,l,q⟩)
   .exact hn h.1
  .rcases hl with⟨g,_⟩|⟨_,p⟩
   .omega
   .rw[Nat.sub_zero,Ap]at p
    have t:j<bs.length:=by
     rw[<-U];rcases Nat.lt_or_ge j st.m.length with h|h
     .exact h
     .rw[bB h]at p;cases p
    refine⟨t,λd' D=> ?_⟩;obtain⟨x',o,g,l,q⟩:=J j (by rw[show(ad bs j).dim=O d' from D];simp);rw[p]at g;injection g with g
    subst g;have a:(ad bs j).dim=O d':=D;rcases q with⟨_,q⟩|⟨q,w⟩
    .rw[q]at a;cases a
    .cases x with
     |none=>
      obtain⟨_,s,E⟩:=w;rw[E]at a;injection a with a
      subst a;exact⟨by simp,u j _ p⟩
     |some x=>
      obtain⟨k,B⟩:=x;obtain⟨_,d,E,V,_⟩:=w;refine⟨d,E, ?_⟩;cases B with
      |none=>
       simp only at V;rw[V]at a;injection a with a
       subst a;exact⟨rfl,u j _ p,rfl⟩
      |some n=>
       simp only at V;rw[V]at a;injection a with a
       subst a;exact⟨rfl,u j _ p,rfl⟩
  .rintro(⟨i,g,p⟩|h)
   .obtain⟨x,_,l,q,w⟩:=I i g b p;have:=F.inj x.k s b l T q r;rw[this]at w;exact Nr N w hs
   .exact h.2 ⟨s, .inr hs,T,r⟩
 obtain⟨vs1,fs1,bs1,M,r2,r3,r4⟩:=Kn F hT hd hf;rw[he]at M;injection M with M
 injection M with e1 M
 injection M with e2 e3
 subst e1;subst e2;subst e3;obtain⟨_,_,y4⟩:=r4.get;refine⟨⟨⟨F.ok,λi i' b z A r hm'=> ?_,λi=> ?_,λi b A r C=> ?_,λb C=> ?_⟩,λi H=> ?_,λb C=> ?_,λi o ho W=> ?_,⟨y2.symm,by rw[U,y2]⟩⟩,r2⟩
 .obtain⟨x,g,p,l,_⟩:=I i z b r;obtain⟨x',q,w,E⟩:=K i' A b hm';exact Jr Q g q (F.inj _ _ b p w l E)
 .by_cases A:(ad bs i).dim=Y
  .intro d D;rw[show(ad (qV c st bs).S i).dim=Y from A]at D;cases D
  .have t:=py A;have C:=aB t;have r:i<st.m.length:=by rw[U];exact t
   obtain⟨o,g,p⟩:=y4 i _ _ (aB r) C;exact p.blkRel (ct:=qV c st bs) F rfl (zP C) λ_=>u i _ (aB r)
 .obtain⟨x',q,w,E⟩:=K i A b r;exact C.2 ⟨x'.k, .inl (BV q),w,E⟩
 .rcases C.1 with⟨k,g,p⟩|h
  .cases P:(ad c.S k).dim with
   |none=>exact(rk g P).elim
   |some d=>
    obtain⟨y,_,_,hy,_⟩:=F.block P p;exact F.ok b y hy
  .exact F.fbl b h
 .obtain⟨x,o,g,p,l⟩:=J i H;refine⟨x,g,u i x g,λy hy=> ?_⟩;subst hy;rcases l with⟨_,l⟩|⟨l,q,d,w,E,_⟩
  .rw[show ad (qV c st bs).S i=ad bs i from rfl,l]at H;exact(H rfl).elim
  .refine⟨by rw[w];simp,λhc=> ?_,λz=>q (by rw[<-l];exact z)⟩;rw[hc]at E;rw[w];exact E
 .obtain⟨i,g,p⟩:=C;obtain⟨x,_,l,q,_⟩:=I i g b p;exact⟨x.k,l,q⟩
 .have H:i<bs.length:=by
   rw[<-y2];rcases Nat.lt_or_ge i sk.free.length with h|h
   .exact h
   .rw[bB h]at ho;cases ho
  have r:i<st.m.length:=by rw[U];exact H
  obtain⟨o',g,p⟩:=y3 i _ _ (aB r) (aB H);rw[ho]at g;injection g with g
  subst g;rw[show ad (qV c st bs).S i=ad bs i from rfl,zP (aB H)];rcases p with⟨p,_⟩|⟨p,l⟩
  .subst p;cases W
  .refine⟨p.trans W, ?_⟩;cases X:st.m[i]with
   |none=>rw[X]at l;obtain⟨l,_⟩:=l;rw[l]at W;cases W
   |some x=>
    obtain⟨k,B⟩:=x;rw[X]at l;obtain⟨_,d,_,q,_⟩:=l;cases B with
    |none=>simp only at q;rw[q];simp
    |some n=>simp only at q;rw[q];simp
end
section
open List renaming getElem?_eq_getElem -> aB, getElem?_eq_none -> aD
open Nat renaming lt_or_ge -> bB, add_sub_cancel_left -> bD
theorem PB : ∀{l:List Nat} {S:ah} {k:Nat},k∈l->(ad (Ft l S) k).frozen=Za
 |[],S,k,h=>by simp at h
 |a::l,S,k,h=>by
  simp only[Ft];by_cases b:k∈l
  .exact PB b
  .have:k=a:=by
    rcases List.mem_cons.1 h with h|h
    .exact h
    .exact(b h).elim
   subst this;rcases(yq l (i9 S k (ad S k).freeze)).2 k with h1|h1
   .rw[h1,yB];split
    .exact pY
    .rename_i d;have: ¬k<S.length:=λe=>d ⟨rfl,e⟩
     rw[zQ (by omega)];rfl
   .rw[h1];exact pY
theorem Yj {a:List OSk}{st':DSt}{bs0:List Blk}{Sf:ah}(hR:Rel c)(h0:c0=qV c st bs0)(hE:Entered c c0 a st bs0)(w:Le c0 c')(hR':Rel c')
  (hcut:PV st.m=Za) (hok:L0 c.S (po a st.m)=Za) (hnd:(sY st.m).Nodup) (hlent: ∀(i:Nat) (o:OSk) (x:Src),a[i]?=O o->o.ro=Za->st.m[i]?=O (O x)->x.k∈st.lent)
  (hro:sk.noRo=Za) (hd:rL c'.S a.length (xz a 0) sk vals=O st') (he:ud (Ai st.m a.length c.S.length) sk st'.ls=O (vs,fs,bs)) (hf:F2 (VRel c') vals as) (hS:zS (po a st.m) fs (Ft st.lent c.S)=O Sf):
  ∃ct:Ctx,ct.Z=c'.Z/\ct.S=Sf++bs/\ct.fb=c.fb/\(∀k,k<c.S.length->ct.μ k=c.μ k)/\Le c ct/\Rel ct/\F2 (VRel ct) vs as/\
   (∀k,k<c.S.length->k∉po a st.m->(ad c.S k).dim≠Y->∀b y,c.μ k=O b->c.Z.m b=O y->ct.Z.m b=O y):=by
 have J:c0.Z=c.Z:=by rw[h0];rfl
 have H: ∀b,c0.fb b↔(c.mut b/\¬∃k,(k∈sY st.m∨k∈st.lent)/\(ad c.S k).dim≠Y/\c.μ k=O b):=by rw[h0];exact λb=>Iff.rfl
 have hS0:c0.S=bs0:=by rw[h0];rfl
 have F:c'.fb=c0.fb:=w.fb;obtain⟨l1,l2⟩:=hE.len;obtain⟨s1,s2,s3,s4⟩:=pn hS;rw[(yq st.lent c.S).1]at s2 s4;have hfz:=yq st.lent c.S
 have W: ∀i,i<a.length->∃k,st.m[i]?=O (O ⟨k,Y⟩)/\Ai st.m a.length c.S.length i=k:=by
  intro i hi;have u:i<st.m.length:=by omega
  obtain⟨k,f⟩:=PW hcut i _ (aB u);have h1:st.m[i]?=O (O ⟨k,Y⟩):=by rw[aB u,f]
  refine⟨k,h1, ?_⟩;unfold Ai;rw[show Nat.blt i a.length=Za from Nat.ble_eq_true_of_le hi,zC,Ap,h1]
 have N:(xz a 0).map (Ai st.m a.length c.S.length)=po a st.m:=by
  refine Px l2.symm λp x hx=> ?_
  have hp:p<a.length:=by
   rw[<-l2];rcases bB p st.m.length with h|h
   .exact h
   .rw[aD h]at hx;cases hx
  obtain⟨k,h1,q⟩:=W p hp;rw[hx]at h1;injection h1 with h1
  exact⟨k,h1,by rw[Nat.zero_add];exact q⟩
 have B: ∀j,j∈xz a 0->j<a.length/\∃o,a[j]?=O o/\o.ro=Zb:=by
  intro j z;obtain⟨p,o,h1,q,r⟩:=Ku.1 z;rw[Nat.zero_add]at r;subst r;refine⟨?_,o,h1,q⟩;rcases bB j a.length with h|h
  .exact h
  .rw[aD h]at h1;cases h1
 have fxw: ∀j,j∈xz a 0->Ai st.m a.length c.S.length j∈po a st.m:=λj z=>by rw[<-N];exact List.mem_map_of_mem z
 have wfx: ∀k,k∈po a st.m->∃j,j∈xz a 0/\Ai st.m a.length c.S.length j=k:=λk f=>by rw[<-N]at f;obtain⟨j,h1,q⟩:=List.mem_map.1 f;exact⟨j,h1,q⟩
 have D: ∀k,(∀j,j∈xz a 0->Ai st.m a.length c.S.length j≠k)->k∉po a st.m:=λk f h=>by obtain⟨j,h1,q⟩:=wfx k h;exact f j h1 q
 let ct:Ctx:=⟨λi=>if i<c.S.length then c.μ i else match st'.m[i-c.S.length]? with
  |some x=>DY c' x
  |none=>Y,Sf++bs,c'.Z,c.fb⟩
 have hget: ∀k,k<c.S.length->ad ct.S k=ad Sf k:=λk f=>rP (by rw[s2];exact f)
 have Q: ∀k,k<c.S.length->k∉po a st.m->ad ct.S k=ad (Ft st.lent c.S) k:=λk f t=>by rw[hget k f,s3 k t]
 have own0: ∀b,c0.own b->∃k,k∈po a st.m/\(ad c.S k).frozen=Zb/\c.μ k=O b:=by
  rintro b ⟨i,h1,q⟩;obtain⟨x,r,C,E⟩:=hE.sub i (rk h1);rw[C]at q;cases x with
  |none=>cases q
  |some x=>
   obtain⟨h6,_,h8⟩:=E x rfl
   have hi:i<a.length:=by
    rw[<-l2];rcases bB i st.m.length with h|h
    .exact h
    .rw[aD h]at r;cases r
   have ho:a[i]?=O a[i]:=aB hi;refine⟨x.k,JW r ho ?_,h8 h1,q⟩;cases X:(a[i]).ro with
   |false=>rfl
   |true=>rw[(hE.fz i _ ho X).1]at h1;cases h1
 have nown: ∀k,k∉po a st.m->(ad c.S k).dim≠Y->∀b,c.μ k=O b->¬c0.own b:=by
  intro k f l b u h;obtain⟨L,h1,q,r⟩:=own0 b h;have:=hR.inj L k b q l r u;subst this;exact f h1
 have hun: ∀k,k<c.S.length->k∉po a st.m->(ad c.S k).dim≠Y->∀b y,c.μ k=O b->c.Z.m b=O y->c'.Z.m b=O y:=λk _ f l b y u I=>w.un b y (by rw[J];exact I) (nown k f l b u)
 have A: ∀k b,(ad c.S k).dim≠Y->c.μ k=O b->∃y,c.Z.m b=O y:=by
  intro k b l u;cases K:(ad c.S k).dim with
  |none=>exact(l K).elim
  |some d=>
   obtain⟨y,_,_,I,_⟩:=hR.block K u;exact⟨y,I⟩
 have M: ∀k,k<c.S.length->k∉po a st.m->(ad ct.S k).dim=(ad c.S k).dim:=λk f t=>by rw[Q k f t];exact hfz.dim k
 have V: ∀k,k<c.S.length->k∉po a st.m->(ad ct.S k).frozen=Zb->∀b,c.μ k=O b->(ad c.S k).frozen=Zb/\¬∃L,(L∈sY st.m∨L∈st.lent)/\(ad c.S L).dim≠Y/\c.μ L=O b:=by
  intro k f t U b u;rw[Q k f t]at U;have hz':(ad c.S k).frozen=Zb:=by rw[<-hfz.fz U];exact U
  refine⟨hz', ?_⟩;rintro⟨L,h1,q,r⟩;have:=hR.inj k L b hz' q u r;subst this;have hnl:k∉st.lent:=λe=>by rw[PB e]at U;cases U
  rcases h1 with h1|h1
  .obtain⟨i,x,C,E⟩:=NC h1
   have hi:i<a.length:=by
    rw[<-l2];rcases bB i st.m.length with h|h
    .exact h
    .rw[aD h]at C;cases C
   have ho:a[i]?=O a[i]:=aB hi;cases X:(a[i]).ro with
   |true=>exact hnl (by rw[<-E];exact hlent i _ x ho X C)
   |false=>exact t (by rw[<-E];exact JW C ho X)
  .exact hnl h1
 have g:GT c c' ct a.length (Ai st.m a.length c.S.length) (xz a 0) sk st' fs bs:=by
  refine⟨rfl,rfl,by simp[ct,s2],λk f t=> ?_,λi j b hi P=> ?_,λj z=>(qW hok (fxw j z)).1,λi b P=> ?_,λi=> ?_,λk f=>zE f,λi x hx=> ?_,λb y I t=>w.un b y (by rw[J];exact I) λe=>t (hE.own b e),λb y I t=>w.ow b y (by rw[J];exact I) λe=>t (hE.own b e),by rw[<-J];exact w.n,λk f t l b y u I=> ?_,λk f t l s hs U b u e=> ?_,λj z l=> ?_,λj z=>(qW hok (fxw j z)).2,
   λj j' z hj' e=> ?_,λk b l u P=> ?_,λj z t=> ?_,λk f t U b y u I=> ?_,λk f t U s hs hsd b u e=> ?_,λb P=> ?_,λj z=>(B j z).1,WF hro, .inl hro⟩
  .rw[Q k f (D k t)];rcases hfz.2 k with h|h
   .exact .inl h
   .exact .inr (.inl h)
  .have z:=List.mem_of_getElem? hi;have hw:=fxw j z;have hlt:=(qW hok hw).1;show ad ct.S _=b;rw[hget _ hlt];refine s4 (yE hnd) i _ b ?_ P hlt;rw[<-N,List.getElem?_map,hi];rfl
  .show ad (Sf++bs) (c.S.length+i)=b;rw[<-s2,wc];exact zP P
  .unfold Ai
   have:Nat.blt (a.length+i) a.length=Zb:=by
    cases P:Nat.blt (a.length+i) a.length with
    |false=>rfl
    |true=>have:=Nat.le_of_ble_eq_true P;omega
   rw[this,zD,bD]
  .show(if c.S.length+i<c.S.length then _ else _)=_;rw[Zh,bD,hx]
  .exact hun k f (D k t) (by rw[<-M k f (D k t)];exact l) b y u I
  .have hdm':(ad c.S k).dim≠Y:=by rw[<-M k f (D k t)];exact l
   obtain⟨y,I⟩:=A k b hdm' e;exact w.ow b y (by rw[J];exact I) (nown k (D k t) hdm' b e) ⟨s,U,u⟩
  .obtain⟨k,h1,q⟩:=W j (B j z).1;have hj0:j<c0.S.length:=by rw[hS0,l1];exact(B j z).1
   cases K:(ad c'.S j).dim with
   |none=>exact(l K).elim
   |some d=>
    obtain⟨r,C⟩:=w.al j d hj0 K;obtain⟨x,E,h6,h7⟩:=hE.sub j (by rw[r];simp);rw[h1]at E;injection E with E
    subst E;obtain⟨h8,h9,_⟩:=h7 _ rfl;rw[q];refine⟨by rw[<-h9 rfl,r],C.trans h6,λb y u I=>w.ln j d b y hj0 K (h6.trans u) (by rw[J];exact I)⟩
  .obtain⟨k,h1,q⟩:=W j (B j z).1;obtain⟨L,r,C⟩:=W j' (B j' hj').1;rw[q,C]at e;subst e;exact Jr hnd h1 r rfl
  .have h1:=hR'.fbk k b l u;rw[F,H]at h1;refine h1 ⟨.inr P, ?_⟩;rintro⟨L,_,r,C⟩;exact hR.fbk L b r C P
  .obtain⟨k,h1,q⟩:=W j z;have ho:a[j]?=O a[j]:=aB z
   have X:(a[j]).ro=Za:=by
    cases X:(a[j]).ro with
    |true=>rfl
    |false=>exact(t (Ku.2 ⟨j,_,ho,X,by omega⟩)).elim
   obtain⟨r,C⟩:=hE.fz j _ ho X;obtain⟨x,E,h6,h7⟩:=hE.sub j C;rw[h1]at E;injection E with E
   subst E;obtain⟨h8,h9,_⟩:=h7 _ rfl;simp only at h8 h9;have hkl:k<c.S.length:=py h8
   have hkw:k∉po a st.m:=by
    intro f;obtain⟨i,o,x,g1,g2,g3,g4⟩:=Hc f;have:=Jr hnd g1 h1 g4;subst this;rw[ho]at g2;injection g2 with g2
    rw[g2,g3]at X;cases X
   have hj0:j<c0.S.length:=by rw[hS0,l1];exact z
   have T:=w.fz j r C;rw[q];refine⟨by simp only[ct,List.length_append,s2];omega,λd' hd'=> ?_⟩;rw[M k hkl hkw]at hd';refine⟨d',by rw[T,h9 trivial];exact hd',rfl, ?_,rfl⟩;show(if k<c.S.length then c.μ k else _)=_;rw[zE hkl,(w.al j d' hj0 (by rw[T,h9 trivial];exact hd')).2,h6];rfl
  .obtain⟨h1,q⟩:=V k f (D k t) U b u;exact .inr (by rw[F,H];exact⟨.inl ⟨k,h1,u⟩,q⟩)
  .obtain⟨h1,q⟩:=V k f (D k t) U b e;have r:=hR'.fbk s b hsd u;rw[F,H]at r;exact r ⟨.inl ⟨k,h1,e⟩,q⟩
  .refine .inr ?_;rw[F,H];refine⟨.inr P, ?_⟩;rintro⟨L,_,r,C⟩;exact hR.fbk L b r C P
 obtain⟨r1,r2,r3⟩:=g.all hR hR' hd he hf;exact⟨ct,rfl,rfl,rfl,λk f=>zE f,r1,r2,r3,hun⟩
end
section
open Bool renaming or_eq_false_iff -> bB
open List renaming getElem?_eq_getElem -> aB, getElem_mem -> aD, all_eq_true -> bD, any_eq_false -> cB, length_append -> cD
theorem KW : ∀{js:List Nat} {bs:List Blk} {S S1:ah},js.length=bs.length->∃S2,zS js bs S1=O S2
 |[],[],_,S1,_=>⟨S1,rfl⟩
 |[],_::_,_,_,h=>by simp at h
 |_::_,[],_,_,h=>by simp at h
 |j::js,b::bs,S,S1,h=>by
  obtain⟨S2,a⟩:=KW (js:=js) (bs:=bs) (S:=S) (S1:=i9 S1 j b) (by simpa using h);exact⟨S2,a⟩
theorem Nk {f:Nat->Nat}: ∀{os:List OSk} {ls rest:List Leaf} {bs:List Blk},Fq f os ls=O (bs,rest)->(∀o,o∈os->o.ro=Zb)->∀b,b∈bs->b.dim≠Y->b.frozen=Zb
 |[],ls,rest,bs,h,_,b,hb,_=>by
  simp only[Fq]at h;injection h with h
  injection h with a j
  subst a;simp at hb
 |o::os,ls,rest,bs,h,k,b,hb,i=>by
  simp only[Fq]at h;obtain⟨p,a,h⟩:=ag h;obtain⟨q,j,h⟩:=ag h;injection h with h
  injection h with m t
  subst m;rcases List.mem_cons.1 hb with hb|hb
  .subst hb;have g:=k o List.mem_cons_self;cases o with
   |dead=>
    simp only[O5]at a;injection a with a
    rw[<-a]at i;exact(i rfl).elim
   |cells r ro l=>
    simp only[O5]at a;obtain⟨v,n,d⟩:=ag a;injection d with d
    rw[<-d];exact g
   |arr ro s=>
    cases ls with
    |nil=>simp[O5]at a
    |cons x ls=>
     simp only[O5]at a;obtain⟨v,n,d⟩:=ag a;injection d with d
     rw[<-d];exact g
  .exact Nk j (λo g=>k o (List.mem_cons_of_mem _ g)) b hb i
theorem SQ {f:Nat->Nat}{ls:List Leaf}(h:ud f sk ls=O (vs,fs,bs))(a:sk.noRo=Za):(∀b,b∈fs->b.dim≠Y->b.frozen=Zb)/\∀b,b∈bs->b.dim≠Y->b.frozen=Zb:=by
 unfold yk.noRo at a;rw[Bool.and_eq_true,bD,bD]at a;unfold ud at h;obtain⟨p,m,h⟩:=ag h;obtain⟨q,j,h⟩:=ag h;obtain⟨r,k,h⟩:=ag h;split at h
 .injection h with h
  injection h with l h
  injection h with g i
  subst g;subst i;exact⟨Nk (rest:=q.2) j λo d=>by simpa using a.1 o d,Nk (rest:=r.2) k λo d=>by simpa using a.2 o d⟩
 .cases h
theorem Sy (h:Fm vs fs bs=Zb):QO vs=Zb/\(∀b,b∈fs->alB b=Zb)/\∀b,b∈bs->alB b=Zb:=by
 unfold Fm at h;rw[bB,bB,cB,cB]at h;exact⟨h.1.1,λb a=>by simpa using h.1.2 b a,λb a=>by simpa using h.2 b a⟩
theorem Uk {l:List Blk}{i:Nat}(h:(ad l i).dim≠Y):ad l i∈l:=by
 have a:=py h;rw[zP (aB a)];exact aD a
theorem Qh {ctf:Ctx}{js:List Nat}{Sa Sb S1:ah}(P:Rel c)(D:Le c ctf)(u:Rel ctf)(Q:F2 (VRel ctf) vs as)(B:Fm vs fs bs=Zb)
  (E: ∀b,b∈fs->b.dim≠Y->b.frozen=Zb) (F: ∀b,b∈bs->b.dim≠Y->b.frozen=Zb) (g:Sa.length=c.S.length) (h:Sb.length=c.S.length) (z:zS js fs Sa=O S1) (A:zS js fs Sb=O S2) (p:js.Nodup) (T: ∀j,j∈js->j<c.S.length)
  (w:ctf.S=S1++bs) (U: ∀k,k<c.S.length->ctf.μ k=c.μ k)
  (q: ∀k,k<c.S.length->k∉js->(ad Sa k=ad Sb k/\((ad Sa k).dim≠Y->ad Sa k=ad c.S k))∨(ad Sb k=ad c.S k/\ad Sa k=(ad c.S k).freeze))
  (r: ∀k,k<c.S.length->k∉js->(ad Sa k).dim≠Y->∀b y,c.μ k=O b->c.Z.m b=O y->ctf.Z.m b=O y):
  Le c ⟨ctf.μ,S2++bs,ctf.Z,ctf.fb⟩/\Rel ⟨ctf.μ,S2++bs,ctf.Z,ctf.fb⟩/\F2 (VRel ⟨ctf.μ,S2++bs,ctf.Z,ctf.fb⟩) vs as:=by
 obtain⟨K,L,M⟩:=Sy B;obtain⟨V,H,W,X⟩:=pn z;obtain⟨q1,I,q3,q4⟩:=pn A;refine thaw P D u Q K (by rw[w,cD,cD,H,I,g,h]) U λk=> ?_
 by_cases f:k<c.S.length
 .have s:ad (S2++bs) k=ad S2 k:=rP (by rw[I,h];exact f);have l:ad ctf.S k=ad S1 k:=by rw[w];exact rP (by rw[H,g];exact f)
  by_cases o:k∈js
  .obtain⟨i,C,e⟩:=List.mem_iff_getElem.1 o;have d:i<fs.length:=by rw[<-V];exact C
   have J:=X p i k _ (by rw[aB C,e]) (aB d) (by rw[g];exact f);have N:=q4 p i k _ (by rw[aB C,e]) (aB d) (by rw[h];exact f);refine .inl ⟨by rw[s,l,J,N],λa=> .inl ?_⟩;rw[l,J]at a⊢;exact⟨E _ (aD d) a,L _ (aD d)⟩
  .rw[s,l,q3 k o,W k o];rcases q k f o with⟨n,t⟩|⟨n,t⟩
   .exact .inl ⟨n.symm,λa=> .inr ⟨f,t a,r k f o a⟩⟩
   .exact .inr ⟨f,n,t,λa=>r k f o (by rw[t,gy];exact a)⟩
 .have n:k=c.S.length+(k-c.S.length):=by omega
  have s:ad (S2++bs) k=ad bs (k-c.S.length):=by
   rw[n,<-h,<-I,wc]
   congr 1
   omega
  have l:ad ctf.S k=ad bs (k-c.S.length):=by
   rw[w,n,<-g,<-H,wc]
   congr 1
   omega
  refine .inl ⟨by rw[s,l],λa=> .inl ?_⟩;rw[l]at a⊢;exact⟨F _ (Uk a) a,M _ (Uk a)⟩
theorem N6 {a:List OSk}{F:DSt}{w:List Blk}(K:Rel c)(h0:c0=qV c st w)(hE:Entered c c0 a st w)(N:Le c0 c')(L:Rel c')
  (z:PV st.m=Za) (D:L0 c.S (po a st.m)=Za) (s:(sY st.m).Nodup) (u: ∀(i:Nat) (o:OSk) (x:Src),a[i]?=O o->o.ro=Za->st.m[i]?=O (O x)->x.k∈st.lent)
  (E:sk.noRo=Za) (hd:rL c'.S a.length (xz a 0) sk vals=O F) (he:ud (Ai st.m a.length c.S.length) sk F.ls=O (vs,fs,bs)) (hf:F2 (VRel c') vals as)
  (n:zS (po a st.m) fs (cond (Fm vs fs bs) (Ft st.lent c.S) c.S)=O S2):
  ∃ct:Ctx,ct.Z=c'.Z/\ct.S=S2++bs/\Le c ct/\Rel ct/\F2 (VRel ct) vs as/\yV (po a st.m) c ct:=by
 obtain⟨q1,q2,q3,q4⟩:=pn n;obtain⟨Sf,g⟩:=KW (S:=c.S) (S1:=Ft st.lent c.S) q1;obtain⟨ct,T,H,e3,e4,U,V,W,X⟩:=Yj K h0 hE N L z D s u E hd he hf g
 have t: ∀q:Ctx,q.Z=ct.Z->(∀k,(ad q.S k).dim=(ad ct.S k).dim)->yV (po a st.m) c q:=by
  intro q I h2 k p C l;obtain⟨_,J,Q,_⟩:=pn g;have hl:(Ft st.lent c.S).length=c.S.length:=(yq st.lent c.S).1;refine⟨?_,λb hm=> ?_⟩
  .rw[h2,H,rP (by rw[J,hl];exact p),Q k C,(yq st.lent c.S).dim];exact l
  .cases A:(ad c.S k).dim with
   |none=>exact(l A).elim
   |some d=>
    obtain⟨y,_,_,hy,_⟩:=K.block A hm;rw[hy,I];exact X k p C l b y hm hy
 cases r:Fm vs fs bs with
 |true=>
  rw[r,zC,g]at n;injection n with n
  subst n;exact⟨ct,T,H,U,V,W,t ct rfl λ_=>rfl⟩
 |false=>
  rw[r,zD]at n;obtain⟨z1,z2⟩:=SQ he E;have f:=yq st.lent c.S
  obtain⟨r1,r2,r3⟩:=Qh K U V W r z1 z2 f.1 rfl g n (yE s) (λj hj=>(qW D hj).1) H e4 (λk p C=>by
   rcases f.2 k with h|h
   .exact .inl ⟨h,λ_=>h⟩
   .exact .inr ⟨rfl,h⟩) (λk p C l=>X k p C (by rw[<-f.dim];exact l))
  refine⟨⟨ct.μ,S2++bs,ct.Z,ct.fb⟩,T,rfl,r1,r2,r3,t _ rfl λk=> ?_⟩;obtain⟨_,J,Q,p4⟩:=pn g;rw[H];show(ad (S2++bs) k).dim=(ad (Sf++bs) k).dim;by_cases p:k<c.S.length
  .rw[rP (S:=S2) (by rw[q2,r];exact p),rP (S:=Sf) (by rw[J,f.1];exact p)];by_cases P:k∈po a st.m
   .obtain⟨i,M,e⟩:=List.mem_iff_getElem.1 P;have B:i<fs.length:=by rw[<-q1];exact M
    obtain⟨_,_,_,t4⟩:=pn n
    rw[t4 (yE s) i k _ (by rw[aB M,e]) (aB B) p,
     p4 (yE s) i k _ (by rw[aB M,e]) (aB B) (by rw[f.1];exact p)]
   .obtain⟨_,_,t3,_⟩:=pn n;rw[t3 k P,Q k P,f.dim]
  .have I:k=c.S.length+(k-c.S.length):=by omega
   have g1:ad (S2++bs) k=ad bs (k-c.S.length):=by
    obtain⟨_,t2,_,_⟩:=pn n;rw[I,<-t2,wc]
    congr 1
    omega
   have g2:ad (Sf++bs) k=ad bs (k-c.S.length):=by
    rw[I,<-f.1,<-J,wc]
    congr 1
    omega
   rw[g1,g2]
theorem ay7 (A:Rel c)(p:Rel c')(J:Within c c1 fx mov)(q:Rel c1)(s:Le c1 c')
  (i:L0 c.S fx=Za) (l:sk.noRo=Za) (B:rL c'.S c.S.length fx sk vals=O st) (C:ud id sk st.ls=O (vs,fs,bs)) (H:F2 (VRel c') vals as) (b:zS fx fs (ov fx mov (Fm vs fs bs) 0 c.S)=O S2):
  ∃ct:Ctx,ct.Z=c'.Z/\ct.S=S2++bs/\Le c ct/\Rel ct/\F2 (VRel ct) vs as:=by
 obtain⟨M,W,X,q4⟩:=pn b;obtain⟨Sf,a⟩:=KW (S:=c.S) (S1:=ov fx mov Za 0 c.S) M;obtain⟨ct,t,o,V,E,u,w,z,F⟩:=leave A p J q s i (WF l) B C H a;cases d:Fm vs fs bs with
 |true=>
  rw[d,a]at b;injection b with b
  subst b;exact⟨ct,t,o,u,w,z⟩
 |false=>
  rw[d]at b;obtain⟨T,U⟩:=SQ C l;obtain⟨n,_⟩:=uc B;have g:=ua n;rw[List.nodup_append]at g;obtain⟨_,D,L,_⟩:=pn a;rw[rj]at D
  obtain⟨N,P,Q⟩:=Qh A u w z d T U rj rj a b g.1 (λj I=>(qW i I).1) o E (λk f m=>by
   rw[ri f,ri f,Nat.zero_add,oz m];cases qm k mov with
   |true=>
    refine .inl ⟨rfl,λh=> ?_⟩;cases K:(ad c.S k).frozen with
    |true=>rfl
    |false=>rw[K]at h;exact(h rfl).elim
   |false=>exact .inr ⟨rfl,rfl⟩) (λk f m r=>(F k f m (by rw[o,rP (by rw[D];exact f),L k m];exact r)).2)
  exact⟨⟨ct.μ,S2++bs,ct.Z,ct.fb⟩,t,rfl,N,P,Q⟩
end
section
open List renaming range -> aB, mem_cons_of_mem -> aD, mem_cons_self -> bB
open Nat renaming eq_of_beq_eq_true -> bD
def ab3 (l:List Alt)(s:yn l):Option (Σ a:Alt,a.Ty):=ab2 l s λa u=>O ⟨a,u⟩
theorem QQ {β:Type}: ∀(l:List Alt) (s:yn l) (k:(a:Alt)->a.Ty->Option β),ab2 l s k=(ab3 l s).bind λp=>k p.1 p.2
 |[],_,_=>rfl
 |[a],t,k=>rfl
 |a::b::r, .inl t,k=>rfl
 |a::b::r, .inr s,k=>QQ (b::r) s k
def FSum.spec (F:FSum):Ab.MQ:=λd Z K=> ∃(c:Ctx) (vals:List VV) (st:DSt) (t:FN F.ins.shs) (o:yn F.outs) (p:Σ a:Alt,a.Ty) (v:VV) (fs bs:List Blk) (S':ah),
 c.Z=Z/\Rel c/\F2 (VRel c) vals d/\rL c.S 0 [] F.ins vals=O st/\R9 F.ins.shs st.ls=O t/\PV st.m=Za/\L0 c.S (po F.objs st.m)=Za/\F.run t=O o/\ab3 F.outs o=O p/\
 ud (Ai st.m F.objs.length c.S.length) p.1.sk (Uu p.1.sk.shs p.2)=O ([v],fs,bs)/\zS (po F.objs st.m) fs (cond (Fm [v] fs bs) (Ft st.lent c.S) c.S)=O S'/\
 ∀r Z',(∃b:Ctx,b.Z=Z'/\b.S=S'++bs/\Le c b/\Rel b/\VRel b v r/\yV (po F.objs st.m) c b)->K r Z'
theorem FSum.mono (F:FSum):aH0 F.spec:=by
 rintro f Z K K' u ⟨c,vals,st,t,o,p,v,fs,bs,S',g,i,j,k,l,m,n,q,s,a,b,d⟩;exact⟨c,vals,st,t,o,p,v,fs,bs,S',g,i,j,k,l,m,n,q,s,a,b,λr Z' h=>u r Z' (d r Z' h)⟩
def Inl.spec (I:Inl):Ab.MQ:=λa Z K=> ∃(β:Type) (y:β) (c:Ctx) (vals:List VV) (k:VV->ah->Option β),c.Z=Z/\Rel c/\F2 (VRel c) vals a/\I.run β vals c.S k=O y/\∀r Z',jb c (Kd c.S.length) k y r Z'->K r Z'
theorem Inl.mono (I:Inl):aH0 I.spec:=by
 rintro a Z K K' j ⟨β,y,c,vals,k,b,d,f,g,i⟩;exact⟨β,y,c,vals,k,b,d,f,g,λr Z' h=>j r Z' (i r Z' h)⟩
def gu (tab:Tab):Ab.lj:=λf a Z K=>(∃F,F∈tab.fs/\F.f=f/\F.spec a Z K)∨∃I,I∈tab.is/\I.f=f/\I.spec a Z K
theorem bi (tab:Tab):w8 (gu tab):=by
 rintro f a Z K K' h (⟨F,b,d,g⟩|⟨F,b,d,g⟩)
 .exact .inl ⟨F,b,d,F.mono a Z K K' h g⟩
 .exact .inr ⟨F,b,d,F.mono a Z K K' h g⟩
def dv (P:Program)(F:FSum):Prop:=QJ P F.f F.spec
def QI (P:Program)(I:Inl):Prop:=QJ P I.f I.spec
def gp (P:Program)(tab:List FSum):Prop:= ∀F,F∈tab->dv P F
def aa (P:Program)(a:List Inl):Prop:= ∀I,I∈a->QI P I
theorem aa.nil (P:Program):aa P []:=λF h=>by cases h
theorem aa.cons {P:Program}{F:Inl}{tab:List Inl}(h:QI P F)(a:aa P tab):aa P (F::tab):=λG hG=>by
 rcases List.mem_cons.1 hG with rfl|hG
 .exact h
 .exact a G hG
theorem gp.nil (P:Program):gp P []:=λF h=>by cases h
theorem gp.cons {P:Program}{F:FSum}{tab:List FSum}(h:dv P F)(a:gp P tab):gp P (F::tab):=λG hG=>by
 rcases List.mem_cons.1 hG with rfl|hG
 .exact h
 .exact a G hG
theorem CL {P:Program}(h:gp P tab.fs)(k:aa P tab.is)(f:FuncId):QJ P f (gu tab f):=by
 rintro B μ Z w b a K (⟨F,d,g,i⟩|⟨F,d,g,i⟩) j
 .subst g;exact h F d B μ Z w b a K i j
 .subst g;exact k F d B μ Z w b a K i j
theorem SI {β:Type}{c:Ctx}{k:VV->ah->Option β}{y:β}{f:Nat}{args:List VV}{as:List Value}(w:Rel c)(z:F2 (VRel c) args as): ∀{tab:List FSum},Nb tab f args c.S k=O y->(λf args Z K=> ∃F,F∈tab/\F.f=f/\F.spec args Z K:Ab.lj) f as c.Z (jb c (yo tab f args c.S) k y)
 |[],h=>by cases h
 |F::r,h=>by
  have next:Nb r f args c.S k=O y->yo (F::r) f args c.S=yo r f args c.S->(λf args Z K=> ∃G,G∈F::r/\G.f=f/\G.spec args Z K:Ab.lj) f as c.Z (jb c (yo (F::r) f args c.S) k y):=by
   intro i n;obtain⟨G,s,q,u⟩:=SI w z i;rw[n];exact⟨G,aD _ s,q,u⟩
  simp only[Nb]at h;cases d:Nat.beq F.f f with
  |false=>
   rw[d,zD]at h;exact next h (by simp only[yo,d,zD])
  |true=>
   rw[d,zC]at h;cases g:rL (Gw F.vals args c.S) 0 [] F.ins args with
   |none=>
    rw[g]at h;exact next h (by simp only[yo,d,zC,g])
   |some st=>
    rw[g]at h;simp only at h;cases l:R9 F.ins.shs st.ls with
    |none=>
     rw[l]at h;exact next h (by simp only[yo,d,zC,g,l])
    |some t=>
     rw[l]at h;simp only at h;obtain⟨i,n⟩:=ap h;rw[Bool.and_eq_true]at i;have b:yo (F::r) f args c.S=po F.objs st.m:=by simp only[yo,d,zC,g,l]
     rw[b];unfold aH7 at n;obtain⟨o,s,q⟩:=ag n;rw[QQ]at q;obtain⟨p,u,j⟩:=ag q;have a:=Nu F.vals args c.S;split at j
     .rename_i v fs bs L;split at j
      .rename_i S' J;refine⟨F,bB,bD d,⟨c.μ,Gw F.vals args c.S,c.Z,c.fb⟩,args,st,t,o,p,v,fs,bs,S',rfl,a.rel w,VRel.frames a.le z,g,l,i.1,i.2,s,u,L,J, ?_⟩;rintro M Z' ⟨A,B,C,D,E,H,I⟩;exact⟨v,A,B,a.le.trans D,E,(a.calm _).trans I a.le,H,by rw[C];exact j⟩
      .cases j
     .cases j
theorem SJ {β:Type}{c:Ctx}{k:VV->ah->Option β}{y:β}{f:Nat}{args:List VV}{as:List Value}(b:Rel c)(d:F2 (VRel c) args as): ∀{g:List Inl},Wu g f args c.S k=O y->∃I,I∈g/\I.f=f/\I.spec as c.Z (jb c (Kd c.S.length) k y)
 |[],h=>by cases h
 |I::r,h=>by
  simp only[Wu]at h;cases a:Nat.beq I.f f with
  |false=>
   rw[a,zD]at h;obtain⟨J,i,j,l⟩:=SJ b d h;exact⟨J,aD _ i,j,l⟩
  |true=>
   rw[a,zC]at h;exact⟨I,bB,bD a,β,y,c,args,k,rfl,b,d,h,λr Z' h=>h⟩
theorem Nc {β:Type}{k:VV->ah->Option β}{y:β}{f:Nat}{args:List VV}(a:Rel c)(d:F2 (VRel c) args as)(h:SK tab f args c.S k=O y):gu tab f as c.Z (jb c (Q5 tab f args c.S) k y):=by
 unfold SK at h;unfold Q5;cases b:ax6 tab.is f with
 |false=>
  rw[b,zD]at h;rw[zD];exact .inl (SI a d h)
 |true=>
  rw[b,zC]at h;rw[zC];exact .inr (SJ a d h)
theorem ar.range (a:ar c e ea)(n:Nat):F2 (VRel c) ((aB n).map (mv e)) ((aB n).map ea):=by
 have: ∀l:List Nat,F2 (VRel c) (l.map (mv e)) (l.map ea):=λl=>by
  induction l with
  |nil=>exact .nil
  |cons t l b=>exact .cons (a t) b
 exact this _
theorem xy {β:Type}{k:VV->ah->Option β}{y:β}(d:Rel c)(j:ar c e ea)(h:Ks tab op e c.S k=O y):bn (gu tab) op ea c.Z (jb c (Gq tab op e c.S) k y):=by
 cases op<;>simp only[Ks]at h
 case move x=>exact az8 d j h
 case pick t a b=>
  split at h
  .rename_i p Q;exact aC6 d j Q h
  .cases h
 case alloc C z=>exact ab1 d h
 case box C x=>exact aL3 d j h
 case build z ps=>
  split at h
  .rename_i M E;exact ac5 d j E h
  .cases h
 case buildSlice C ln z ps=>
  split at h
  .rename_i M E;exact O1 d j E h
  .cases h
 case load x=>exact az0 d j h
 case loadN n x=>exact ag8 d j h
 case store n a x=>exact ao9 d j (λq u=>Ko _ u) h
 case nilCheck x=>exact Tr d j h
 case bin op x z=>exact aL1 d j h
 case eqv F neg x z=>
  split at h
  .rename_i p Q;exact aM1 d j Q h
  .cases h
 case eqCells neg ks x z=>
  split at h
  .rename_i a b w A;split at h
   .rename_i p Q;exact Vb d j w A Q h
   .cases h
  .cases h
 case un op x=>exact aZ8 d j h
 case conv F x=>
  split at h
  .rename_i n J;exact au7 d j J h
  .cases h
 case mkFunc f a b=>exact Ym d j h
 case makeSlice C bytes z l m=>exact az5 d j h
 case slice C x lo hi=>exact ao5 d j h
 case sliceStr x lo hi=>exact Up d j h
 case sliceArr C n x lo hi=>exact Uo d j h
 case off n x=>exact aP0 d j h
 case idx C x i=>exact aN0 d j h
 case idxA ln C x i=>exact ay2 d j h
 case fieldV o n agg x=>
  split at h
  .rename_i M E;exact X5 d j E h
  .cases h
 case indexV ln C agg x i=>
  split at h
  .rename_i M F i w A;exact Yg d j w A h
  .cases h
 case indexS x i=>
  split at h
  .rename_i l F i w A;exact Yf d j w A h
  .cases h
 case extract x i=>
  split at h
  .rename_i vs E;exact Ve d j E h
  .cases h
 case call f xs=>exact Nc d (Mi j xs) h
 case callv x xs=>
  have B:=bl j x;split at h
  .rename_i f a b L;rw[L]at B
   have: ∃H I,ea.ev x= .func (.func f) H I/\F2 (VRel c) a H.toList/\F2 (VRel c) b I.toList:=by
    generalize ea.ev x=xa at B;cases B;exact⟨_,_,rfl,by assumption,by assumption⟩
   obtain⟨H,I,w,A,h3⟩:=this;obtain⟨X,h⟩:=ap h;have:=Nc d ((A.append (Mi j xs)).append h3) h;simp only[bn,w,Gq,L];exact⟨X,this⟩
  .cases h
 case rangeF f n x=>
  have B:=bl j x;split at h
  .rename_i g M L;rw[L]at B
   have: ∃H I,ea.ev x= .func (.func g) H I/\F2 (VRel c) [] H.toList/\F2 (VRel c) M I.toList:=by
    generalize ea.ev x=xa at B;cases B;exact⟨_,_,rfl,by assumption,by assumption⟩
   obtain⟨H,I,w,A,h3⟩:=this;obtain⟨X,h⟩:=ap h;have ha':H.toList=[]:=List.length_eq_zero_iff.1 A.length.symm
   have K:F2 (VRel c) (Blk.cells 1 Zb (.nilf::(aB n).map (mv e))).vals (Kv Za::(aB n).map ea):=
    .cons .nilf (j.range n)
   have hm:=OZ d (blk:= .cells 1 Zb (.nilf::(aB n).map (mv e))) (x:=⟨Kv Za::(aB n).map ea,Za,1⟩) rfl (Nat.le_refl _) rfl rfl K;have P:=hm.le d;have T:=hm.rel d
   have hyl:VRel ⟨vd c (O c.Z.n),rN c.S Y++[.cells 1 Zb (.nilf::(aB n).map (mv e))],c.Z.add ⟨Kv Za::(aB n).map ea,Za,1⟩,c.fb⟩ (.fn (UE f) [] [.ptr c.S.length 0]) (ylV f c.Z.n):=
    .fn .nil (.cons (Rr (dm:=_) rfl) .nil)
   have E:=Nc T (.cons hyl (VRel.frames P h3)) h;simp only[bn,w,Gq];refine⟨by simpa using X,ha',bi tab _ _ _ _ _ (λv Z' L=> ?_) E⟩;obtain⟨vv,c',e1,e2,e3,e4,e5,U⟩:=L;subst e1;dsimp only at U;split at U
   case h_2=>cases U
   rename_i C r W;have hlt:c.S.length<(rN c.S Y++[Blk.cells 1 Zb (.nilf::(aB n).map (mv e))]).length:=by simp[rN]
   obtain⟨_,D⟩:=e2.al c.S.length _ hlt (by rw[W];rfl);have D:c'.μ c.S.length=O c.Z.n:=by rw[D];simp[vd]
   obtain⟨_,N⟩:=e3.blk c.S.length _ (by rw[W];rfl);obtain⟨b,y0,cs0,rest,V,g2,g3,g4,g5,g6⟩:=N.resolve_left (λq=>by rw[D]at q;cases q.2);rw[D]at V;injection V with V
   subst V;rw[W]at g4 g6;obtain⟨k1,k2⟩:=ay6 e3 W D;refine⟨⟨y0,g2,g4 rfl, ?_⟩, .undef,_,rfl,(P.trans e2).trans k1,k2,λq u J=>(J (EF u)).elim, .undef _,U⟩;rw[g5];cases g6 with
   |cons r1 r2=>cases r1;rfl
  .cases h
 case append C bytes s x=>exact UR d j (λq u=>Ko _ u) h λh=>XH d j (λq u=>Ko _ u) h
 case stuck=>cases h
 case capN x=>
  split at h
  .rename_i B;exact au2 d j B h
  .cases h
 case sliceX x hi mx=>exact YO d j h
 case range x=>
  split at h
  .rename_i l B;exact NY d j B h
  .cases h
 case next x=>exact aA2 d j (λq u=>Ko _ u) h
 case newB=>exact aA1 d h
 case makeM F=>exact ah4 d h
 case lookM F ok x i=>
  split at h
  .rename_i key hk;exact ag9 d j hk h
  .cases h
 case updM F x i v=>
  split at h
  .rename_i key k' n hk J;exact aF7 d j hk J (λq u=>by simp only[Gq,u,TA];exact List.mem_singleton.2 rfl) h
  .cases h
 case lenM F x=>exact ay8 d j h
 case encR x=>
  split at h
  .rename_i n B;exact av7 d j B h
  .cases h
 case strOf x=>exact ap0 d j h
 case strOfR x=>exact aF2 d j h
 case runesOf x=>exact an8 d j h
 case mark x=>exact az6 d j h
 case appendZ C bytes z s x=>exact US d j (λq u=>Ko _ u) h
 case copy C s x=>exact au8 d j (λq u=>Ko _ u) h
 case len x=>
  split at h
  .cases h
  .rename_i hns;split at h
   .rename_i n J;exact aN9 d j hns J h
   .cases h
 case lenS x=>
  split at h
  .rename_i l hl;exact ay9 d j hl h
  .cases h
 case lenC n=>exact br rfl (jb.same d (.int _ _) h)
 case most x z=>
  split at h
  .rename_i F a kd' b w A;exact az7 d j w A h
  .cases h
 case least x z=>
  split at h
  .rename_i F a kd' b w A;exact ag2 d j w A h
  .cases h
end
section
open Bool renaming and_eq_true -> aD, or_eq_true -> cD, false_or -> eD, not_true -> fB
open List renaming mem_cons_of_mem -> bD, mem_cons_self -> dB, mem_cons -> fD, map_congr_left -> iC
open Nat renaming beq -> aB, eq_of_beq_eq_true -> bB, lt_of_lt_of_le -> cB, beq_refl -> dD, le_of_ble_eq_true -> gD, le_refl -> iA, le_trans -> iB
def tI {β:Type}(c:Ctx)(k:cu->ah->Option β)(y:β):cj->Hp->Prop:=λea Z'=> ∃a c',c'.Z=Z'/\Le c c'/\Rel c'/\ar c' a ea/\k a c'.S=O y
theorem tI.of {β:Type}{k:cu->ah->Option β}{y:β}(h:Le c c1){Z':Hp}(g:tI c1 k y ea Z'):tI c k y ea Z':=by
 obtain⟨a,c',b,d,f⟩:=g;exact⟨a,c',b,h.trans d,f⟩
def uN {β:Type}(c:Ctx)(k:AExit->cu->ah->Option β)(y:β):AExit->cj->Hp->Prop:=λx=>tI c (k x) y
section
variable {β:Type} {tab:Tab} {y:β}
theorem Nm : ∀{ops:List AOper} {c:Ctx} {e:cu} {ea:cj} {k:cu->ah->Option β},Rel c->ar c e ea->Gr tab ops e c.S k=O y->Ab.AH (gu tab) (tI c k y) ops ea c.Z
 |[],c,e,ea,k,q,m,h=>⟨e,c,rfl,Le.refl c,q,m,h⟩
 |o::r,c,e,ea,k,q,m,h=>by
  have b: ∀l,ar c l ea->Ks tab o.op l c.S (λv S'=>Gr tab r (putO l o.dst v) S' k)=O y->bn (gu tab) o.op ea c.Z λv Z'=>Ab.AH (gu tab) (tI c k y) r (ea.putO o.dst v) Z':=by
   intro l g f;refine qo (bi tab) (λv Z' H=> ?_) (xy q g f);obtain⟨I,c',C,B,D,_,E,F⟩:=H;subst C;exact Ab.Fc (bi tab) (λea' Z'' n=>n.of B) _ _ _ (Nm D ((g.frame B).putO E) F)
  have skip: ∀l,ar c l ea->Gr tab r (putO l o.dst (.tup [])) c.S k=O y->Ab.AH (gu tab) (tI c k y) r (ea.putO o.dst undef) c.Z:=λl g f=>Nm q (g.putO (.tup .nil)) f
  simp only[Gr]at h;simp only[Ab.AH];split at h
  .rename_i s;have:wanted o ea=Za:=by simp only[wanted,s]
   rw[zE this];exact b e m h
  .rename_i t w s;split at h
   .rename_i p n;have j:=m t;rw[n]at j;have j:=j.bool_inv;have A:wanted o ea=(p==w):=by simp only[wanted,s,j]
    have a:ar c (ui e t (.bool p)) ea:=by
     have:=m.put (d:=t) (VRel.bool (c:=c) p);intro i;have f:=this i;unfold cj.put at f;by_cases z:i=t
     .rw[zE z]at f;subst z;rw[j];exact f
     .rw[zF z]at f;exact f
    rw[A];cases p<;>cases w<;>simp only[zC,zD]at h
    .rw[zE (by decide)];exact b _ a h
    .rw[zF (by decide)];exact skip _ a h
    .rw[zF (by decide)];exact skip _ a h
    .rw[zE (by decide)];exact b _ a h
   .rename_i n;have j:=m t;rw[n]at j
    have A:wanted o ea=Zb:=by
     simp only[wanted,s];generalize ea t=u at j;cases j;rfl
    rw[A,zF (by decide)];exact skip _ m h
   .cases h
def aa6 :Value->Option Nat
 | .pointer (O a)=>O a.block
 | .slice (O a) _ _=>O a.block
 |_=>Y
def FL :AOp->Operand
 | .load x| .loadN _ x| .sliceArr _ _ x _ _| .slice _ x _ _=>x
 |_=> .global 0
theorem NG {Z':Hp}(s:op.isLoad=Za)(h:op.run ea Z=O (v,Z1))(d: ∀b,aa6 (ea.ev (FL op))=O b->Z'.m b=Z.m b):op.run ea Z'=O (v,Z'):=by
 cases op<;>try(cases s;done)
 case load x=>
  simp only[AOp.run,FL]at h d⊢;split at h
  .rename_i b o j;rw[j]at d;rw[d b rfl];split at h
   .rename_i g r;cases f:g.cells[o]? with
    |none=>rw[f]at h;cases h
    |some u=>
     rw[f]at h;injection h with h
     injection h with i p
     subst i;rfl
   .cases h
  .cases h
 case loadN n x=>
  simp only[AOp.run,FL]at h d⊢;split at h
  .rename_i b o j;rw[j]at d;rw[d b rfl];split at h
   .rename_i g r;cases f:uG g o n with
    |none=>rw[f]at h;cases h
    |some u=>
     rw[f]at h;injection h with h
     injection h with i p
     subst i;rfl
   .cases h
  .cases h
 case slice es x lo hi=>
  cases lo with
  |none=>cases s
  |some l=>
   simp only[AOp.run,FL]at h d⊢;split at h
   .rename_i a w k j;rw[j]at d
    have t:Df Z' es a (O l)=Df Z es a (O l):=by
     cases a with
     |none=>rfl
     |some a=>simp only[Df];rw[d a.block rfl]
    rw[t];cases f:(k==0||Df Z es a (O l))with
    |false=>rw[f]at h;simp at h
    |true=>
     rw[f,zE rfl]at h;rw[zE rfl];split at h
     .split at h
      .injection h with h
       injection h with i p
       subst i;rfl
      .cases h
     .cases h
   .cases h
 case sliceArr es n x lo hi=>
  simp only[AOp.run,FL]at h d⊢;split at h
  .rename_i b o j;rw[j]at d;rw[d b rfl];split at h
   .rename_i g r;split at h
    .rename_i f;rw[zE f];split at h
     .split at h
      .split at h
       .rename_i q;injection h with h
        injection h with i p
        subst i;rw[zE q]
       .cases h
      .cases h
     .cases h
    .cases h
   .cases h
  .cases h
theorem ah1 {q:Option Addr}(d:op.isLoad=Za)(a:ea.ev (FL op)= .slice q 0 0)(h:op.run ea Z=O (v,Z1))(Z':Hp):op.run ea Z'=O (v,Z'):=by
 cases op<;>try(cases d;done)
 case load x=>
  simp only[FL]at a;simp only[AOp.run,a]at h;cases h
 case loadN n x=>
  simp only[FL]at a;simp only[AOp.run,a]at h;cases h
 case slice es x lo hi=>
  simp only[FL]at a;simp only[AOp.run,a,beq_self_eq_true,Bool.true_or,if_true]at h⊢;split at h
  .split at h
   .injection h with h
    injection h with b f
    subst b;rfl
   .cases h
  .cases h
 case sliceArr es n x lo hi=>
  simp only[FL]at a;simp only[AOp.run,a]at h;cases h
structure LeV (c c':Ctx):Prop where
 len:c.S.length<=c'.S.length
 al: ∀k d,k<c.S.length->(ad c'.S k).dim=O d->(ad c.S k).dim=O d/\c'.μ k=c.μ k
 ln: ∀k d b y,k<c.S.length->(ad c'.S k).dim=O d->c.μ k=O b->c.Z.m b=O y->∃y',c'.Z.m b=O y'/\y'.cells.length=y.cells.length
 rd: ∀b y,c.Z.m b=O y->¬c.mut b->c'.Z.m b=O y/\¬c'.mut b
theorem LeV.trans {a b:Ctx}(h:LeV a b)(k:LeV b c):LeV a c:=by
 refine⟨iB h.len k.len,λq d f j=> ?_,λq d x y f j o m=> ?_,λx y m u=> ?_⟩
 .obtain⟨g,i⟩:=k.al q d (cB f h.len) j;obtain⟨n,l⟩:=h.al q d f g;exact⟨n,i.trans l⟩
 .obtain⟨g,i⟩:=k.al q d (cB f h.len) j;obtain⟨n,l⟩:=h.al q d f g;obtain⟨w,p,r⟩:=h.ln q d x y f g o m;obtain⟨z,s,t⟩:=k.ln q d x w (cB f h.len) j (l.trans o) p;exact⟨z,s,t.trans r⟩
 .obtain⟨g,i⟩:=h.rd x y m u;exact k.rd x y g i
theorem Le.toV (h:Le c c'):LeV c c':=⟨h.len,h.al,h.ln,h.rd⟩
theorem LeV.refl (c:Ctx):LeV c c:=(Le.refl c).toV
theorem IN.frameV (h:LeV c c'){k m n:Nat}{d:Nat×Nat}{a:Value}(l:k<c.S.length)(j:(ad c'.S k).dim=O d)(t:IN c k m n d a):IN c' k m n d a:=by
 obtain⟨A,i⟩:=h.al k d l j;rcases t with⟨rfl,rfl,rfl,f,w⟩|⟨b,o,y,rfl,f,p,q,u,r⟩
 .exact .inl ⟨rfl,rfl,rfl,i.trans f,w⟩
 .obtain⟨z,g,s⟩:=h.ln k d b y l j f u;exact .inr ⟨b,o,z,rfl,i.trans f,p,q,g,by rw[s];exact r⟩
theorem VRel.frameV {c c':Ctx}(h:LeV c c'): ∀{v:VV} {a:Value},VRel c v a->VRel c' v a
 |_,_, .undef a=> .undef a
 |_,_, .bool b=> .bool b
 |_,_, .int k n=> .int k n
 |_,_, .str z=> .str z
 |_,_, .nilp=> .nilp
 |_,_, .nils=> .nils
 |_,_, .nilf=> .nilf
 |_,_, .ptr i f p=> .ptr (cB i h.len) f λd g=>by
  obtain⟨f,j⟩:=h.al _ d i g;obtain⟨b,o,q⟩:=p d f;exact⟨b,j.trans o,q⟩
 |_,_, .it i f z p=> .it (cB i h.len) f z λd g=>by
  obtain⟨f,j⟩:=h.al _ d i g;obtain⟨b,o,q⟩:=p d f;exact⟨b,j.trans o,q⟩
 |_,_, .bld i f p=> .bld (cB i h.len) f λd g=>by
  obtain⟨f,j⟩:=h.al _ d i g;obtain⟨b,o,q⟩:=p d f;exact⟨b,j.trans o,q⟩
 |_,_, .pix i f A p=> .pix (cB i h.len) f A λd g=>by
  obtain⟨f,j⟩:=h.al _ d i g;obtain⟨b,o,q⟩:=p d f;exact⟨b,j.trans o,q⟩
 |_,_, .pel i f p=> .pel (cB i h.len) f λd g=>by
  obtain⟨f,j⟩:=h.al _ d i g;obtain⟨b,o,q⟩:=p d f;exact⟨b,j.trans o,q⟩
 |_,_, .pin r s B t=> .pin (h.rd _ _ s r).2 (h.rd _ _ s r).1 B (go t)
 |_,_, .lstn w=> .lstn w
 |_,_, .tgtn w=> .tgtn w
 |_,_, .tgt r s u o t=> .tgt (h.rd _ _ s r).2 (h.rd _ _ s r).1 u o (go t)
 |_,_, .lst r s u f j o t=> .lst (h.rd _ _ s r).2 (h.rd _ _ s r).1 u f j o (go t)
 |_,_, .full i f p=> .full (cB i h.len) f λd g=>by
  obtain⟨f,j⟩:=h.al _ d i g;obtain⟨n,o,q⟩:=p d f;exact⟨n,o,q.frameV h i g⟩
 |_,_, .part i f p=> .part (cB i h.len) f λd g=>by
  obtain⟨f,j⟩:=h.al _ d i g;exact(p d f).frameV h i g
 |_,_, .fn f j=> .fn (go f) (go j)
 |_,_, .agg f=> .agg (go f)
 |_,_, .tup f=> .tup (go f)
where
 go: ∀{l:List VV} {m:List Value},F2 (VRel c) l m->F2 (VRel c') l m
  |_,_, .nil=> .nil
  |_,_, .cons f j=> .cons (VRel.frameV h f) (go j)
theorem VRel.framesV (h:LeV c c'){l:List VV}{m:List Value}(a:F2 (VRel c) l m):F2 (VRel c') l m:=a.imp λ_ _ b=>b.frameV h
theorem ar.frameV (h:ar c e ea)(a:LeV c c'):ar c' e ea:=λt=>(h t).frameV a
def Sc (c:Ctx)(p:Hp->Prop)(f:ah->Bool):Prop:= ∀c',LeV c c'->Rel c'->f c'.S=Za->p c'.Z
theorem Sc.next {p:Hp->Prop}{f:ah->Bool}(h:Sc c p f)(d:LeV c c'):Sc c' p f:=λa b=>h a (d.trans b)
def If (c:Ctx)(p:Hp->Prop):Option (Option Nat)->Prop
 |none=>True
 |some Y=>p c.Z/\∀Z',(∀b y,c.Z.m b=O y->¬c.mut b->Z'.m b=O y)->p Z'
 |some (O q)=>(ad c.S q).dim≠Y/\p c.Z/\∀Z',(∀b,c.μ q=O b->Z'.m b=c.Z.m b)->p Z'
inductive ChkRel (c:Ctx):List (Nat×(Hp->Prop))->HV->Prop where
 |nil:ChkRel c [] []
 |cons {i:Nat} {p:Hp->Prop} {s:Option (Option Nat)} {f:ah->Bool} {l:List (Nat×(Hp->Prop))} {m:HV}:If c p s->Sc c p f->ChkRel c l m->ChkRel c ((i,p)::l) ((i,s,f)::m)
theorem If.now {p:Hp->Prop}{s:Option Nat}(h:If c p (O s)):p c.Z:=by
 cases s with
 |none=>exact h.1
 |some q=>exact h.2.1
theorem If.next {p:Hp->Prop}{d:List Nat}(j:Le c c')(z:yV d c c'): ∀{s:Option (Option Nat)},If c p s->If c' p (match s with
  |some (O q)=>cond (qm q d) Y (O (O q))
  |s=>s)
 |none,_=>trivial
 |some Y,h=>by
  refine⟨h.2 _ λb y m l=>(j.rd b y m l).1,λZ' i=>h.2 Z' λb y m l=> ?_⟩;obtain⟨a,n⟩:=j.rd b y m l;exact i b y a n
 |some (O q),h=>by
  cases g:qm q d with
  |true=>
   show If c' p (cond (qm q d) Y (O (O q)));rw[g];exact trivial
  |false=>
   show If c' p (cond (qm q d) Y (O (O q)));rw[g];obtain⟨a,n,o⟩:=h;have A:q∉d:=λe=>by rw[pj.2 e]at g;cases g
   obtain⟨r,t⟩:=z q (py a) A a
   have k:c'.μ q=c.μ q:=by
    cases f:(ad c'.S q).dim with
    |none=>exact(r f).elim
    |some w=>exact(j.al q w (py a) f).2
   exact⟨r,o _ t,λZ' i=>o Z' λb u=>by rw[i b (by rw[k];exact u),t b u]⟩
theorem ChkRel.next {c c':Ctx}{d:List Nat}(g:Le c c')(h:yV d c c'): ∀{l:List (Nat×(Hp->Prop))} {m:HV},ChkRel c l m->ChkRel c' l (L9 d m)
 |_,_, .nil=> .nil
 |_,_, .cons (s:=s) i a j=>by
  have b:=i.next g h
  have f:=ChkRel.next g h j
  have a:=a.next g.toV
  cases s with
  |none=>exact .cons b a f
  |some s=>
   cases s with
   |none=>exact .cons b a f
   |some q=>exact .cons b a f
theorem B2 : ∀m:HV,L9 [] m=m
 |[]=>rfl
 |(i,Y,_)::r=>by simp only[L9,B2 r]
 |(i,O Y,_)::r=>by simp only[L9,B2 r]
 |(i,O (O q),_)::r=>by simp only[L9,B2 r,qm,zD]
theorem EW {c:Ctx}{a:List Nat}(d:Rel c): ∀{l:List (Nat×(Hp->Prop))} {m:HV},ChkRel c l m->DQ c.S a m=Za->A3 a c.Z l
 |_,_, .nil,_=>trivial
 |_,_, .cons (i:=i) (s:=s) (f:=f) k p g,h=>by
  simp only[DQ]at h;simp only[A3]
  have n:a.contains i=qm i a:=by
   cases b:qm i a with
   |true=>simpa using pj.1 b
   |false=>
    cases o:a.contains i with
    |false=>rfl
    |true=>
     have:i∈a:=by simpa using o
     rw[pj.2 this]at b;cases b
  rw[n];cases b:qm i a with
  |false=>
   rw[b,zD]at h;rw[zF (by decide)];exact EW d g h
  |true=>
   rw[b,zC]at h;rw[zE rfl];cases s with
   |none=>
    simp only at h;cases j:f c.S with
    |false=>rw[j]at h;cases h
    |true=>
     rw[j,zC]at h;exact⟨p c (LeV.refl c) d j,EW d g h⟩
   |some s=>exact⟨k.now,EW d g h⟩
theorem rO {T:Ab.lj}{e:cj}(a:op.still=Za){k:Value->Hp->Prop}:(match op.run e Z with
  |some (v,Z')=>k v Z'
  |none=>False)=bn T op e Z k:=by
 cases op<;>first|(cases a;done)|rfl
theorem EI {s t:ByteArray}(h:au s=au t):s=t:=by
 unfold au at h;have d:=List.map_inj_right (λa b (h:((a.toNat:Nat):Int)=(b.toNat:Int))=>UInt8.toNat_inj.1 (Int.ofNat.inj h))|>.1 h
 obtain⟨⟨s⟩⟩:=s;obtain⟨⟨t⟩⟩:=t;simp only at d;rw[d]
theorem aw1 {x y:VV}{a b:Value}(d:VRel c x a)(f:VRel c' y b)(h:aL9 x y=Za):a=b:=by
 cases d<;>cases f<;>simp only[aL9,aD,decide_eq_true_eq,Bool.false_eq_true]at h
 case bool.bool=>rw[h]
 case int.int=>rw[h.1,h.2]
 case str.str h1 _ _ h2=>rw[EI (h1.trans (h.trans h2.symm))]
 all_goals rfl
theorem YJ {tab:Tab}{i:VV}(m:ar c e ea)(g:op.still=Za)(o:VRel c0 i v):Sc c (λZ'=>op.run ea Z'=O (v,Z')) (RA tab op e i):=by
 intro c' n k h;unfold RA at h;split at h
 .rename_i b l;subst h;have a:=xy k (m.frameV n) l;rw[<-rO g]at a;show op.run ea c'.Z=O (v,c'.Z);cases f:op.run ea c'.Z with
  |none=>rw[f]at a;exact a.elim
  |some q=>
   obtain⟨z,Z1⟩:=q;rw[f]at a;obtain⟨p,r,s,t,u,w,j,d⟩:=a;injection d with d
   rw[yC g f,aw1 o j d]
 .cases h
theorem Kc (W:Rel c)(Q:ar c e ea)(B:op.isLoad=Za)(h:op.run ea c.Z=O (v,Z1)):If c (λZ'=>op.run ea Z'=O (v,Z')) (XL c.S op e):=by
 have w:=bl Q (FL op);have r:op.run ea c.Z=O (v,c.Z):=NG B h λ_ _=>rfl
 have L:If c (λZ'=>op.run ea Z'=O (v,Z')) (ab5 c.S (ev e (FL op))):=by
  generalize ev e (FL op)=N at*
  have f: ∀q,zx N=O q->(∀b,aa6 (ea.ev (FL op))=O b->(ad c.S q).dim≠Y->c.μ q=O b)->If c (λZ'=>op.run ea Z'=O (v,Z')) (cond (ad c.S q).live (O (O q)) Y):=by
   intro q T a;cases H:(ad c.S q).live with
   |false=>trivial
   |true=>
    obtain⟨V,j⟩:=xC H;exact⟨by rw[j];simp,r,λZ' C=>NG B h λb z=>C b (a b z (by rw[j];simp))⟩
  have k:(∀b,aa6 (ea.ev (FL op))=O b->∃y,c.Z.m b=O y/\¬c.mut b)->If c (λZ'=>op.run ea Z'=O (v,Z')) (O Y):=by
   intro a;refine⟨r,λZ' C=>NG B h λb z=> ?_⟩;obtain⟨y,u,p⟩:=a b z;rw[C b y u p,u]
  cases N<;>simp only[ab5,zx]<;>try exact trivial
  case ptr q o=>
   refine f q rfl λb a j=> ?_
   cases w with
   |ptr D E t=>
    cases g:(ad c.S q).dim with
    |none=>exact(j g).elim
    |some d=>
     obtain⟨A,u,p⟩:=t d g;rw[p]at a;injection a with a
     subst a;exact u
  case it q l=>
   refine f q rfl λb a j=> ?_
   obtain⟨s,_,t⟩:=w.it_inv;cases g:(ad c.S q).dim with
   |none=>exact(j g).elim
   |some d=>
    obtain⟨A,u,p⟩:=t d g;rw[p]at a;cases a
  case bld q=>
   refine f q rfl λb a j=> ?_
   cases w with
   |bld _ _ t=>
   cases g:(ad c.S q).dim with
   |none=>exact(j g).elim
   |some d=>
    obtain⟨A,u,p⟩:=t d g;rw[p]at a;cases a
  case pix q o n i=>
   refine f q rfl λb a j=> ?_
   cases w with
   |pix D E hi t=>
    cases g:(ad c.S q).dim with
    |none=>exact(j g).elim
    |some d=>
     obtain⟨A,u,p⟩:=t d g;rw[p]at a;injection a with a
     subst a;exact u
  case pel q i o=>
   refine f q rfl λb a j=> ?_
   cases w with
   |pel D E t=>
    cases g:(ad c.S q).dim with
    |none=>exact(j g).elim
    |some d=>
     obtain⟨A,u,p⟩:=t d g;rw[p]at a;injection a with a
     subst a;exact u
  case full q=>
   refine f q rfl λb a j=> ?_
   cases w with
   |full D E t=>
    cases g:(ad c.S q).dim with
    |none=>exact(j g).elim
    |some d=>
     obtain⟨n,_,p⟩:=t d g;rcases p with⟨p,_⟩|⟨A,P,U,p,F,_⟩
     .rw[p]at a;cases a
     .rw[p]at a;injection a with a
      subst a;exact F
  case part q lo n=>
   refine f q rfl λb a j=> ?_
   cases w with
   |part D E t=>
    cases g:(ad c.S q).dim with
    |none=>exact(j g).elim
    |some d=>
     rcases t d g with⟨p,_⟩|⟨A,P,U,p,F,_⟩
     .rw[p]at a;cases a
     .rw[p]at a;injection a with a
      subst a;exact F
  case pin s x o=>
   refine k λb a=> ?_
   generalize ea.ev (FL op)=M at*;cases w with
   |pin I K B X=>
    injection a with a
    subst a;exact⟨_,K,I⟩
  case lst s l=>
   generalize J:ea.ev (FL op)=M at*;cases w with
   |lstn T=>
    refine⟨r,λZ' C=> ?_⟩;have:=ah1 B J h;exact this Z'
   |lst I K _ _ _ _ _=>
    refine k λb a=> ?_
    injection a with a
    subst a;exact⟨_,K,I⟩
  case nils=>
   refine k λb a=> ?_
   generalize ea.ev (FL op)=M at*;cases w;cases a
 cases op<;>first|(cases B;done)|exact L
theorem X4 {it:SItem}{ach:List (Nat×(Hp->Prop))}{k:HV->cu->ah->Option β}(A:Rel c)(m:ar c e ea)(C:ChkRel c ach chk)(h:Kr tab it chk e c.S k=O y){Q:List (Nat×(Hp->Prop))->cj->Hp->Prop}
  (z: ∀c' b d e' ea',Le c c'->Rel c'->ChkRel c' b d->ar c' e' ea'->k d e' c'.S=O y->Q b ea' c'.Z):
  if it.mover then bn (gu tab) it.o.op ea c.Z (λv Z'=>A3 it.chks Z' ach/\Q ach (ea.putO it.o.dst v) Z')
  else match it.o.op.run ea c.Z with
   |some (v,_)=>Q (if it.keep then(it.idx,λZ'=>it.o.op.run ea Z'=O (v,Z'))::ach else ach) (ea.putO it.o.dst v) c.Z
   |none=>False:=by
 unfold Kr at h;cases J:it.mover with
 |true=>
  rw[J,zC]at h;rw[zE rfl];refine qo (bi tab) (λv Z' M=> ?_) (xy A m h);obtain⟨K,c',j,n,a,s,t,l⟩:=M;subst j;obtain⟨g,l⟩:=ap l;have q:=C.next n s
  exact⟨EW a q g,z c' ach _ _ _ n a q ((m.frame n).putO t) l⟩
 |false=>
  rw[J,zD]at h;rw[zF (by decide)];obtain⟨g,L⟩:=ap h;rw[aD]at g;have j:=xy A m L;rw[<-rO g.1]at j;cases w:it.o.op.run ea c.Z with
  |none=>rw[w]at j;exact j
  |some p=>
   obtain⟨v,Z1⟩:=p;rw[w]at j;obtain⟨K,c',n,a,s,t,l,u⟩:=j;simp only
   have I:Gq tab it.o.op e c.S=[]:=by
    have:=g.1;cases H:it.o.op<;>rw[H]at this<;>first|(cases this;done)|rfl
   have q:=C.next a t
   rw[I,B2]at q;have B:Z1=c.Z:=yC g.1 w;rw[<-B,<-n];cases D:it.keep with
   |false=>
    simp only[D,zD]at u;rw[zF (by decide)];exact z c' ach chk _ _ a s q ((m.frame a).putO l) u
   |true=>
    simp only[D,zC]at u;rw[zE rfl];have F:it.o.op.isLoad=Za:=by have:=g.2;rw[D]at this;simpa using this
    have E:=Kc A m F w;have r:=(ChkRel.cons (i:=it.idx) (f:=RA tab it.o.op e K) E (YJ m g.1 l) C).next a t
    rw[I,B2]at r;exact z c' _ _ _ _ a s r ((m.frame a).putO l) u
end
def tH (op:AOp)(ea:cj)(x:Ab.Blk)(a:Nat->Value):Prop:= ∀Z:Hp,op.run ea Z=O (a Z.n,Z.add x)
theorem tH.unique {i:Ab.Blk}{g a:Nat->Value}(h:tH op ea x g)(j:tH op ea i a):x=i/\g=a:=by
 have d: ∀n,g n=a n/\x=i:=by
  intro n;have b:=h ⟨λ_=>Y,n⟩;rw[j ⟨λ_=>Y,n⟩]at b;injection b with b
  injection b with b k
  refine⟨b.symm, ?_⟩;have f:=congrArg (λs:Hp=>s.m n) k;simp only[Hp.add,if_true]at f;injection f with f
  exact f.symm
 exact⟨(d 0).2,funext λn=>(d n).1⟩
theorem Q8 {x:Operand}(h: ∀t∈TC x,ea' t=ea t):ea'.ev x=ea.ev x:=by
 cases x with
 |tmp t=>exact h t (by simp[TC])
 |_=>rfl
theorem tH.same {g:Nat->Value}(h:tH op ea x g)(j:ue op=Za)(f: ∀t∈xG op,ea' t=ea t):tH op ea' x g:=by
 intro Z;have a:=h Z;cases op<;>first|(cases j;done)|skip
 case alloc es z=>exact a
 case makeSlice es bytes z l m=>
  have d:ea'.ev l=ea.ev l:=Q8 λt b=>f t (by simp[xG,b])
  have i:ea'.ev m=ea.ev m:=Q8 λt b=>f t (by simp[xG,b])
  simp only[AOp.run]at a⊢;rw[d,i];exact a
 case buildSlice es ln z ps=>
  have d:(ps.map λ(o,s,x)=>(o,s,ea'.ev x))=ps.map λ(o,s,x)=>(o,s,ea.ev x):=by
   apply iC;rintro⟨o,s,x⟩ k;simp only;rw[Q8 λt b=>f t (List.mem_flatMap.2 ⟨_,k,b⟩)]
  simp only[AOp.run]at a⊢;rw[d];exact a
theorem Od {c c':Ctx}: ∀{l:List VV} {m:List Value},l.all Xj=Za->F2 (VRel c) l m->F2 (VRel c') l m
 |_,_,_, .nil=> .nil
 |v::l,_,h, .cons a b=>by
  rw[List.all_cons,aD]at h;refine .cons ?_ (Od h.2 b);cases a<;>first|(cases h.1;done)|skip
  .exact .bool _
  .exact .int _ _
  .exact .str (by assumption)
structure FreshFact (op:AOp)(ea:cj)(blk:Blk)(w:Bool)(x:Ab.Blk)(vf:Nat->Value):Prop where
 run:tH op ea x vf
 fz:blk.frozen=Zb
 dm: ∃dm cs rest,blk.dim=O dm/\1<=dm.1/\x.es=dm.1/\x.own=Za/\x.cells=cs++rest/\∀c':Ctx,F2 (VRel c') blk.vals cs
 vv: ∀(c':Ctx) (k b:Nat),k<c'.S.length->ad c'.S k=blk->c'.μ k=O b->c'.Z.m b=O x->VRel c' (vvF w k) (vf b)
theorem EO {β:Type}{k:Blk->Bool->Option β}{y:β}(F:ar c e ea)(h:BU op e k=O y):ue op=Za/\∃blk w x U,k blk w=O y/\FreshFact op ea blk w x U:=by
 cases op<;>simp only[BU]at h<;>first|(cases h;done)|skip
 case alloc es z=>
  obtain⟨i,u⟩:=ap h;have i:=gD i;refine⟨rfl,_,_,⟨z,Za,es⟩,λn=> .pointer (O ⟨n,0,Y⟩),u,⟨λZ=>rfl,(AU es z).2.1,⟨(es,z.length),z,[],(AU es z).1,i,rfl,rfl,by simp,λc'=>(AU es z).2.2 c'⟩,λc' k b o L C D=> ?_⟩⟩;refine .ptr o rfl λd f=>⟨b,C,rfl⟩
 case makeSlice es bytes z l m=>
  have K:=bl F l;have C:=bl F m;split at h
  .rename_i W a X b s i u L;rw[i]at K;rw[u]at C;obtain⟨J,o⟩:=ap h;simp only[aD]at J;obtain⟨⟨⟨⟨t,g⟩,j⟩,A⟩,B⟩:=J;have t:=bB t;have g:=of_decide_eq_true g;have j:=of_decide_eq_true j;have A:=of_decide_eq_true A;have B:=gD B;have M: ∀c':Ctx,F2 (VRel c') (dx s (xH s)) z:=λc'=>DW (c:=c') L
   have H:z.length=s.w:=by rw[<-(M c).length,ei]
   have V:b<=bytes*b:=by
    have:(1:Int)*b<=bytes*b:=Int.mul_le_mul_of_nonneg_right (by omega) (by omega);omega
   refine⟨rfl,_,_,⟨eg z b.toNat,Za,es⟩,λn=> .slice (O ⟨n,0,Y⟩) a.toNat b.toNat,o,⟨λZ=> ?_,rfl,⟨(s.w,(List.replicate a.toNat (xH s)).length*s.w),eg z a.toNat,eg z (b.toNat-a.toNat),rfl,rR s,t,rfl, ?_,λc'=> ?_⟩,λc' k q o r p D=> ?_⟩⟩
   .simp only[AOp.run,K.int_inv,C.int_inv];rw[zE ⟨g,j,by omega,by omega⟩]
   .show eg z b.toNat=_;rw[<-Qj]
    congr 1
    omega
   .show F2 (VRel c') (gm s (List.replicate a.toNat (xH s))) (eg z a.toNat);rw[vt];generalize a.toNat=n;induction n with
    |zero=>exact .nil
    |succ n N=>
     simp only[eg,List.replicate_succ,List.flatten_cons]at N⊢;exact(M c').append N
   .refine .full o rfl λd f=> ?_
    rw[r]at f;injection f with f
    subst f;refine⟨a.toNat,by simp, .inr ⟨q,b.toNat,_,by simp,p,by simp,by omega,D, ?_⟩⟩;rw[Nat.zero_add];show b.toNat*s.w<=(eg z b.toNat).length;rw[Qk,H];exact iA _
  .cases h
 case buildSlice es ln z ps=>
  split at h
  .rename_i P T;obtain⟨i,u⟩:=ap h;simp only[aD]at i;obtain⟨⟨⟨⟨t,g⟩,j⟩,A⟩,B⟩:=i;have g:=bB g;have j:=gD j;obtain⟨I,Q,E⟩:=AY F ps T (KX ln z);refine⟨B,_,_,⟨I,Za,es⟩,λn=> .slice (O ⟨n,0,Y⟩) ln ln,u,⟨λZ=> ?_,rfl,⟨(es,P.length),I,[],rfl,j,rfl,rfl,by simp,λc'=>Od A E⟩,λc' k q o r p D=> ?_⟩⟩
   .simp only[AOp.run,Q];rw[zE (qj E t)]
   .refine .full o rfl λd f=> ?_
    rw[r]at f;injection f with f
    subst f;refine⟨ln,g, .inr ⟨q,ln,_,by simp,p,by simp[g],iA _,D, ?_⟩⟩;rw[Nat.zero_add];show ln*es<=I.length;rw[<-E.length];exact Nat.le_of_eq g
  .cases h
theorem uB {i q:Nat}: ∀{l:List Nat},l.Nodup->(q∈DC i l↔q∈l/\q≠i)
 |[],_=>by simp[DC]
 |a::r,h=>by
  obtain⟨g,j⟩:=List.nodup_cons.1 h;simp only[DC];cases d:aB a i with
  |true=>
   have:=bB d;subst this;rw[zC];constructor
   .intro hq;exact⟨bD _ hq,λe=>g (e▸hq)⟩
   .rintro⟨hq,k⟩;rcases List.mem_cons.1 hq with rfl|hq
    .exact(k rfl).elim
    .exact hq
  |false=>
   have f:a≠i:=λe=>by subst e;rw[dD]at d;cases d
   rw[zD,fD,fD,uB j];constructor
   .rintro(rfl|⟨h3,b⟩)
    .exact⟨.inl rfl,f⟩
    .exact⟨.inr h3,b⟩
   .rintro⟨rfl|h3,b⟩
    .exact .inl rfl
    .exact .inr ⟨h3,b⟩
theorem Lj {i:Nat}: ∀{l:List Nat},l.Nodup->(DC i l).Nodup
 |[],h=>h
 |a::r,h=>by
  obtain⟨d,b⟩:=List.nodup_cons.1 h;simp only[DC];cases g:aB a i with
  |true=>exact b
  |false=>
   rw[zD,List.nodup_cons];exact⟨λf=>d ((uB b).1 f).1,Lj b⟩
theorem Ba : ∀{ts:List Nat} {e:cu} {t:Nat},mv (uO e ts) t= .undef∨(t∉ts/\mv (uO e ts) t=mv e t)
 |[],e,t=> .inr ⟨by simp,rfl⟩
 |a::ts,e,t=>by
  simp only[uO,zL];by_cases h:t=a
  .rw[zE h];exact .inl rfl
  .rw[zF h];rcases Ba (ts:=ts) (e:=e) (t:=t)with b|⟨b,d⟩
   .exact .inl b
   .exact .inr ⟨by simp[h,b],d⟩
section
variable {tab:Tab} {ops:List (AOper×List Nat)}
structure InvL (ops:List (AOper×List Nat))(c0 c:Ctx)(e:cu)(ea:cj)(ach:List (Nat×(Hp->Prop)))(chk:HV)(P ls nd:List Nat)(r:List LItem)(pd:Nat->Nat):Prop where
 le:Le c0 ⟨c.μ,c.S,c.Z,c0.fb⟩
 R:Rel c
 E:ar c e ea
 K:ChkRel c ach chk
 ks:ach.map (·.1)=ls
 nd:uj nd chk=Za
 fb: ∀b,c.fb b↔(c0.fb b∨∃q∈P,pd q=b)
 nod:P.Nodup
 inj: ∀q q',q∈P->q'∈P->pd q=pd q'->q=q'
 new: ∀q∈P,c0.Z.n<=pd q
 pend: ∀q∈P,ue (ba ops q).op=Za/\∃x vf,tH (ba ops q).op ea x vf/\c.Z.m (pd q)=O x/\∀t,(ba ops q).dst=O t->ea t=vf (pd q)
 und: ∀it∈r,aB it.kind 2=Za->∀t,(ba ops it.i).dst=O t->mv e t= .undef
 ds:H6 ops r=Za
theorem If.frameV {p:Hp->Prop}(A:Rel c)(C:LeV c c')(B: ∀q,q<c.S.length->ad c'.S q=ad c.S q)(k: ∀q,q<c.S.length->c'.μ q=c.μ q)(t: ∀b y,c.Z.m b=O y->c'.Z.m b=O y): ∀{s:Option (Option Nat)},If c p s->If c' p s
 |none,_=>trivial
 |some Y,h=>by
  refine⟨h.2 _ λb y l _=>t b y l,λZ' j=>h.2 Z' λb y l D=> ?_⟩;obtain⟨f,n⟩:=C.rd b y l D;exact j b y f n
 |some (O q),h=>by
  obtain⟨f,n,o⟩:=h;have w:=py f
  have g: ∀b,c.μ q=O b->c'.Z.m b=c.Z.m b:=by
   intro b g;cases u:(ad c.S q).dim with
   |none=>exact(f u).elim
   |some d=>
    obtain⟨_,a⟩:=A.blk q d u;rcases a with⟨_,a⟩|⟨F,y,H,z,a,r,_⟩
    .rw[g]at a;cases a
    .rw[g]at a;injection a with a
     subst a;rw[r];exact t _ _ r
  exact⟨by rw[B q w];exact f,o _ g,λZ' E=>o Z' λb i=>(E b (by rw[k q w];exact i)).trans (g b i)⟩
theorem ChkRel.frameV (f:Rel c)(d:LeV c c')(g: ∀q,q<c.S.length->ad c'.S q=ad c.S q)(a: ∀q,q<c.S.length->c'.μ q=c.μ q)(h: ∀b y,c.Z.m b=O y->c'.Z.m b=O y): ∀{l:List (Nat×(Hp->Prop))} {m:HV},ChkRel c l m->ChkRel c' l m
 |_,_, .nil=> .nil
 |_,_, .cons i k j=> .cons (i.frameV f d g a h) (k.next d) (j.frameV f d g a h)
theorem uf {c:Ctx}{m:Nat}{b:List Nat}: ∀{l:List (Nat×(Hp->Prop))} {chk:HV},ChkRel c l chk->uj b chk=Za->(∀i∈l.map (·.1),xr ops i m=Za∨qm i b=Za)->DK ops m c.Z l
 |_,_, .nil,_,_=>trivial
 |_,_, .cons (i:=i) (s:=s) k _ n,h,f=>by
  simp only[uj]at h;simp only[DK];have a:uj b _=Za->DK ops m c.Z _:=λh3=>uf n h3 λj o=>f j (by simp only[List.map_cons];exact bD _ o)
  cases d:xr ops i m with
  |true=>
   rw[zE rfl];cases g:qm i b with
   |false=>rw[g,zD]at h;exact a h
   |true=>
    rw[g,zC]at h;cases s with
    |none=>cases h
    |some s=>exact a h
  |false=>
   rw[zF (by decide)];rcases f i (by simp)with h3|h3
   .rw[d]at h3;cases h3
   .rw[h3,zC]at h;cases s with
    |none=>cases h
    |some s=>exact⟨k.now,a h⟩
theorem ND {β:Type}{ach:List (Nat×(Hp->Prop))}{P ls nd:List Nat}{r:List LItem}{pd:Nat->Nat}{K:cu->ah->Option β}{y:β}(h0:Rel c0)
  (g:InvL ops c0 c e ea ach chk P ls nd (it::r) pd) (hk:aB it.kind 2=Za) (hP:it.i∈P) (h:BU (ba ops it.i).op e (λblk w=>K (putO e (ba ops it.i).dst (vvF w c.S.length)) (c.S++[blk]))=O y):
  ∃c' e',c'.Z=c.Z/\InvL ops c0 c' e' ea ach chk (DC it.i P) ls nd r pd/\K e' c'.S=O y/\c'.μ c.S.length=O (pd it.i)/\c.S.length<c'.S.length/\∃vv,e'=putO e (ba ops it.i).dst vv:=by
 obtain⟨hfb,blk,w,x',vf',h1,h2⟩:=EO g.E h;obtain⟨_,x,vf,h3,h4,h5⟩:=g.pend _ hP;obtain⟨ex,ef⟩:=h2.run.unique h3;subst ex;subst ef;obtain⟨dm,cs,rest,d1,d2,d3,d4,d5,d6⟩:=h2.dm;have m:(c.S++[blk]).length=c.S.length+1:=by simp
 have U:=g.ds;simp only[H6,aD]at U
 let b:=pd it.i
 let c':Ctx:=⟨λq=>if q=c.S.length then O b else c.μ q,c.S++[blk],c.Z,λq=>c0.fb q∨∃j∈DC it.i P,pd j=q⟩
 have H:c.fb b:=(g.fb b).2 (.inr ⟨it.i,hP,rfl⟩);have C: ∀q,q<c.S.length->ad c'.S q=ad c.S q:=λq f=>rP f
 have o: ∀q,q<c.S.length->c'.μ q=c.μ q:=λq f=>zF (Nat.ne_of_lt f)
 have I:ad c'.S c.S.length=blk:=Ul;have a:c'.μ c.S.length=O b:=zE rfl
 have F: ∀q,c'.fb q->c.fb q:=by
  rintro q (f|⟨j,N,rfl⟩)
  .exact(g.fb q).2 (.inl f)
  .exact(g.fb _).2 (.inr ⟨j,((uB g.nod).1 N).1,rfl⟩)
 have T: ¬c'.fb b:=by
  rintro(f|⟨j,N,hjb⟩)
  .have:=h0.fbl _ f;have:=g.new _ hP;omega
  .obtain⟨B,z⟩:=(uB g.nod).1 N;exact z (g.inj _ _ B hP hjb)
 have Q: ∀q,c'.own q->c.own q∨q=b:=by
  rintro q ⟨j,B,z⟩;by_cases N:j<c.S.length
  .rw[C j N]at B;rw[o j N]at z;exact .inl ⟨j,B,z⟩
  .by_cases hj3:j=c.S.length
   .subst hj3;rw[a]at z;injection z with z
    exact .inr z.symm
   .rw[zQ (by show c'.S.length<=j;rw[m];omega)]at B;cases B
 have hV:LeV c c':=by
  refine⟨by rw[m];omega,λq d f l=> ?_,λq d u L f l hm D=>⟨L,D,rfl⟩,λu L D V=>⟨D,λhm=> ?_⟩⟩
  .rw[C q f]at l;exact⟨l,o q f⟩
  .rcases hm with hm|hm
   .rcases Q u hm with hm|hm
    .exact V (.inl hm)
    .subst hm;exact V (.inr H)
   .exact V (.inr (F _ hm))
 have hR':Rel c':=by
  refine⟨g.R.ok,λq J u f k hm A=> ?_,λq d l=> ?_,λq u l hm=> ?_,λu hb'=>g.R.fbl _ (F _ hb')⟩
  .have s: ∀j,(ad c'.S j).dim≠Y->j<c.S.length∨j=c.S.length:=by
    intro j N;have:=py N;rw[m]at this;omega
   rcases s q (rk f)with h6|h6
   .rcases s J k with h7|h7
    .rw[C q h6]at f;rw[C J h7]at k;rw[o q h6]at hm;rw[o J h7]at A;exact g.R.inj q J u f k hm A
    .subst h7;rw[a]at A;injection A with A
     subst A;rw[o q h6]at hm;rw[C q h6]at f;exact(g.R.fbk q _ (rk f) hm H).elim
   .rcases s J k with h7|h7
    .subst h6;rw[a]at hm;injection hm with hm
     subst hm;rw[o J h7]at A;rw[C J h7]at k;exact(g.R.fbk J _ k A H).elim
    .rw[h6,h7]
  .by_cases f:q<c.S.length
   .rw[C q f]at l⊢;obtain⟨h6,h7⟩:=g.R.blk q d l;refine⟨h6, ?_⟩;rcases h7 with⟨h7,h8⟩|⟨u,L,cs',X,h7,h8,h9,h10,h11,h12⟩
    .exact .inl ⟨h7,by rw[o q f];exact h8⟩
    .exact .inr ⟨u,L,cs',X,by rw[o q f];exact h7,h8,h9,h10,h11,VRel.framesV hV h12⟩
   .by_cases W:q=c.S.length
    .subst W;rw[I]at l⊢;rw[d1]at l;injection l with l
     subst l;exact⟨d2, .inr ⟨b,x',cs,rest,a,h4,d3,λ_=>d4,d5,d6 c'⟩⟩
    .rw[zQ (by show c'.S.length<=q;rw[m];omega)]at l;cases l
  .by_cases f:q<c.S.length
   .rw[C q f]at l;rw[o q f]at hm;exact λhf=>g.R.fbk q u l hm (F _ hf)
   .have:=py l;rw[m]at this;have W:q=c.S.length:=by omega
    subst W;rw[a]at hm;injection hm with hm
    subst hm;exact T
 have hvv:VRel c' (vvF w c.S.length) (vf' b):=h2.vv c' c.S.length b (by rw[m];omega) I a h4
 have hE':ar c' (putO e (ba ops it.i).dst (vvF w c.S.length)) ea:=by
  have hE:=g.E.frameV hV;cases l:(ba ops it.i).dst with
  |none=>exact hE
  |some t=>
   intro t';show VRel c' (mv (ui e t _) t') (ea t');rw[zL];by_cases ht:t'=t
   .subst ht;rw[zE rfl,h5 _ l];exact hvv
   .rw[zF ht];exact hE t'
 refine⟨c',_,rfl,⟨?_,hR',hE',g.K.frameV g.R hV C o (λ_ _ D=>D),g.ks,g.nd,λq=>Iff.rfl,Lj g.nod,λq J f k=>g.inj q J ((uB g.nod).1 f).1 ((uB g.nod).1 k).1,λq f=>g.new q ((uB g.nod).1 f).1,λq f=>g.pend q ((uB g.nod).1 f).1, ?_,U.2⟩,h1,a,by rw[m];omega,_,rfl⟩
 .have p:=g.le;refine⟨iB p.len (by show c.S.length<=c'.S.length;rw[m];omega),λq d f l=> ?_,λq hf l=> ?_,λq d u L f l hm D=> ?_,λu L D V=>p.un u L D V,λu L D V ho=> ?_,p.n,rfl⟩
  .have k:q<c.S.length:=cB f p.len;have:=C q k;rw[show(⟨c'.μ,c'.S,c'.Z,c0.fb⟩:Ctx).S=c'.S from rfl,this]at l;obtain⟨h6,h7⟩:=p.al q d f l;exact⟨h6,(o q k).trans h7⟩
  .have k:q<c.S.length:=cB (py l) p.len;exact(C q k).trans (p.fz q hf l)
  .have k:q<c.S.length:=cB f p.len;have:=C q k;rw[show(⟨c'.μ,c'.S,c'.Z,c0.fb⟩:Ctx).S=c'.S from rfl,this]at l;exact p.ln q d u L f l hm D
  .have ho':c'.own u:=ho;rcases Q u ho' with ho2|ho2
   .exact p.ow u L D V ho2
   .subst ho2;have:=h0.ok _ _ D;have:=g.new _ hP;omega
 .intro it' M hk' t ht;have hu:=g.und it' (bD _ M) hk' t ht;cases l:(ba ops it.i).dst with
  |none=>exact hu
  |some t'=>
   show mv (ui e t' _) t=_;rw[zL];by_cases htt:t=t'
   .subst htt;have:=List.all_eq_true.1 U.1 it' M;rw[hk,hk']at this;simp only[fB,eD,W3,l,ht,dD]at this;cases this
   .rw[zF htt];exact hu
theorem WN {β:Type}{ach:List (Nat×(Hp->Prop))}{P ls d:List Nat}{r:List LItem}{pd:Nat->Nat}{k:cu->ah->Option β}{y:β}(f:Rel c0)
  (m:InvL ops c0 c e ea ach chk P ls d (it::r) pd) (a:aB it.kind 2=Za) (n:it.i∈P) (h:Fr tab ops (it::r) chk e c.S k=O y):
  ∃c' e',c'.Z=c.Z/\InvL ops c0 c' e' ea ach chk (DC it.i P) ls d r pd/\Fr tab ops r chk e' c'.S k=O y:=by
 have b:aB it.kind 3=Zb:=by rw[bB a];rfl
 simp only[Fr,a,b,zC,zD]at h;obtain⟨c',e',g,j,l,_⟩:=ND (K:=λe' S'=>Fr tab ops r chk e' S' k) f m a n h;exact⟨c',e',g,j,l⟩
theorem TK {β:Type}{ach:List (Nat×(Hp->Prop))}{P ls nd:List Nat}{r:List LItem}{pd:Nat->Nat}{k:cu->ah->Option β}{y:β}
  (a:InvL ops c0 c e ea ach chk P ls nd (it::r) pd) (d:aB it.kind 3=Za) (h:Fr tab ops (it::r) chk e c.S k=O y):
  InvL ops c0 c e ea ach chk P ls nd r pd/\Fr tab ops r chk e c.S k=O y:=by
 simp only[Fr,d,zC]at h;obtain⟨_,_,_,_,_,f,_⟩:=EO a.E h;have b:=a.ds;simp only[H6,aD]at b;exact⟨⟨a.le,a.R,a.E,a.K,a.ks,a.nd,a.fb,a.nod,a.inj,a.new,a.pend,λj g d t i=>a.und j (bD _ g) d t i,b.2⟩,f⟩
theorem JQ {β:Type}{c0:Ctx}{ea:cj}{ach:List (Nat×(Hp->Prop))}{chk:HV}{ls u:List Nat}{pd:Nat->Nat}{k:cu->ah->Option β}{y:β}{i:Nat}(m:Rel c0): ∀(r:List LItem) {P P':List Nat} {it:LItem} {g:List LItem} {c:Ctx} {e:cu},E7 r P i=O (P',it,g)->
  InvL ops c0 c e ea ach chk P ls u r pd->Fr tab ops r chk e c.S k=O y->
  ∃c' e',c'.Z=c.Z/\InvL ops c0 c' e' ea ach chk P' ls u (it::g) pd/\Fr tab ops (it::g) chk e' c'.S k=O y/\aB it.kind 2=Zb/\it.i=i/\∀q∈P',q∈P
 |[],P,P',it,g,c,e,h,_,_=>by cases h
 |a::r,P,P',it,g,c,e,h,j,t=>by
  simp only[E7]at h;cases b:aB a.kind 3 with
  |true=>
   rw[b,zC]at h;obtain⟨d,f⟩:=TK j b t;exact JQ m r h d f
  |false=>
  rw[b,zD]at h;cases l:aB a.kind 2 with
  |false=>
   rw[l,zD]at h;cases o:aB a.i i with
   |false=>rw[o]at h;cases h
   |true=>
    rw[o,zC]at h;injection h with h
    injection h with d h
    injection h with f n
    subst d;subst f;subst n;exact⟨c,e,rfl,j,t,l,bB o,λq s=>s⟩
  |true=>
   rw[l,zC]at h;cases p:qm a.i P with
   |false=>rw[p]at h;cases h
   |true=>
    rw[p,zC]at h;obtain⟨c1,H,d,f,n⟩:=WN m j l (pj.1 p) t;obtain⟨w,z,A,B,C,D,E,F⟩:=JQ m r h f n;exact⟨w,z,A.trans d,B,C,D,E,λq s=>((uB j.nod).1 (F q s)).1⟩
theorem Ra {β:Type}{c0:Ctx}{ea:cj}{ach:List (Nat×(Hp->Prop))}{chk:HV}{ls s:List Nat}{pd:Nat->Nat}{k:cu->ah->Option β}{y:β}(i:Rel c0): ∀(r:List LItem) {P:List Nat} {c:Ctx} {e:cu},Vf r P=Za->
  InvL ops c0 c e ea ach chk P ls s r pd->Fr tab ops r chk e c.S k=O y->tI c0 k y ea c.Z
 |[],P,c,e,h,d,g=>by
  have o:P=[]:=by
   cases P with
   |nil=>rfl
   |cons a r=>simp[Vf]at h
  subst o
  have m:c.fb=c0.fb:=by
   funext b
   refine propext ((d.fb b).trans ⟨λh=> ?_, .inl⟩);rcases h with h|⟨q,p,_⟩
   .exact h
   .cases p
  refine⟨e,c,rfl, ?_,d.R,d.E,g⟩;have:=d.le;rw[<-m]at this;exact this
 |a::r,P,c,e,h,d,g=>by
  simp only[Vf]at h;cases f:aB a.kind 3 with
  |true=>
   rw[f,zC]at h;obtain⟨j,l⟩:=TK d f g;exact Ra i r h j l
  |false=>
  rw[f,zD]at h;simp only[aD]at h;obtain⟨c1,t,j,l,n⟩:=WN i d h.1.1 (pj.1 h.1.2) g;rw[<-j];exact Ra i r h.2 l n
theorem Mj {β:Type}{c:Ctx}{ea:cj}{chk:HV}{k:cu->ah->Option β}{y:β}{m:Nat}: ∀(r:List LItem) {e e':cu} {S:ah},Nv ops r m=Za->ar c e ea->(∀t∈xG (ba ops m).op,mv e' t=mv e t)->Fr tab ops r chk e' S k=O y->∃x F,ue (ba ops m).op=Za/\tH (ba ops m).op ea x F
 |[],e,e',S,h,_,_,_=>by cases h
 |a::r,e,e',S,h,H,A,b=>by
  have p: ∀(V:VV),vY (ba ops a.i).dst (xG (ba ops m).op)=Za->∀t∈xG (ba ops m).op,mv (putO e' (ba ops a.i).dst V) t=mv e t:=by
   intro V n t T;rw[<-A t T];cases X:(ba ops a.i).dst with
   |none=>rfl
   |some U=>
    show mv (ui e' U _) t=_;rw[zL];by_cases E:t=U
    .subst E;rw[X]at n;simp only[vY]at n;rw[pj.2 T]at n;cases n
    .rw[zF E]
  have d: ∀{γ:Type} {P:Blk->Bool->Option γ} {z:γ},BU (ba ops m).op e' P=O z->∃x F,ue (ba ops m).op=Za/\tH (ba ops m).op ea x F:=by
   intro γ P z b
   have M:BU (ba ops m).op e P=O z:=by
    cases f:(ba ops m).op<;>rw[f]at b A<;>simp only[BU]at b<;>first|(cases b;done)|skip
    case alloc es z=>exact b
    case makeSlice es bytes z l q=>
     have I:ev e' l=ev e l:=by
      cases l with
      |tmp t=>exact A t (by simp[xG,TC])
      |_=>rfl
     have W:ev e' q=ev e q:=by
      cases q with
      |tmp t=>exact A t (by simp[xG,TC])
      |_=>rfl
     rw[I,W]at b;exact b
    case buildSlice es ln z ps=>
     have I:Dg e' ps=Dg e ps:=by
      unfold Dg;apply iC;rintro⟨o,s,x⟩ hx;simp only
      have:ev e' x=ev e x:=by
       cases x with
       |tmp t=>exact A t (List.mem_flatMap.2 ⟨_,hx,by simp[TC]⟩)
       |_=>rfl
      rw[this]
     rw[I]at b;exact b
   obtain⟨hf,u,w,x,F,_,B⟩:=EO H M;exact⟨x,F,hf,B.run⟩
  simp only[Nv]at h;cases j:aB a.kind 3 with
  |true=>
   rw[j,zC,cD]at h;simp only[Fr,j,zC]at b;rcases h with h|h
   .rw[bB h]at b;exact d b
   .have g:Fr tab ops r chk e' S k=O y:=by
     cases f:(ba ops a.i).op<;>rw[f]at b<;>simp only[BU]at b<;>first|(cases b;done)|skip
     case alloc es z=>exact(ap b).2
     case makeSlice es bytes z l q=>
      split at b
      .exact(ap b).2
      .cases b
     case buildSlice es ln z ps=>
      split at b
      .exact(ap b).2
      .cases b
    exact Mj r h H A g
  |false=>
  rw[j,zD]at h;simp only[cD,aD]at h;rcases h with⟨C,h⟩|⟨⟨⟨C,D⟩,n⟩,B⟩
  .simp only[Fr,C,j,zC,zD]at b;by_cases Q:a.i=m
   .rw[Q]at b;exact d b
   .rcases h with h|⟨n,B⟩
    .exact(Q (bB h)).elim
    .have g: ∃u w,Fr tab ops r chk (putO e' (ba ops a.i).dst (vvF w S.length)) (S++[u]) k=O y:=by
      cases f:(ba ops a.i).op<;>rw[f]at b<;>simp only[BU]at b<;>first|(cases b;done)|skip
      case alloc es z=>exact⟨_,_,(ap b).2⟩
      case makeSlice es bytes z l q=>
       split at b
       .exact⟨_,_,(ap b).2⟩
       .cases b
      case buildSlice es ln z ps=>
       split at b
       .exact⟨_,_,(ap b).2⟩
       .cases b
     obtain⟨u,w,N⟩:=g;exact Mj r B H (p _ n) N
  .have K:aB a.kind 2=Zb:=by rw[bB C];rfl
   have J:aB a.kind 1=Zb:=by rw[bB C];rfl
   have L:aB a.kind 5=Zb:=by rw[bB C];rfl
   simp only[Fr,K,J,j,L,zD]at b;obtain⟨_,b⟩:=ap b;cases f:(ba ops a.i).op<;>rw[f]at D<;>first|(cases D;done)|skip
   case move x=>
    rw[f]at b;simp only[Ks,AOp.isLoad,zD]at b;obtain⟨_,b⟩:=ap b;exact Mj r B H (p _ n) b
theorem QP {F:Nat->Prop}: ∀{l:List Nat},(∀m∈l,F m)->MU F l
 |[],_=>trivial
 |[m],h=>h m (by simp)
 |m::b::r,h=>⟨h m (by simp),QP λq a=>h q (bD _ a)⟩
theorem Rs {D:List Nat}{i:Nat}(h:dy ops D=O i): ∃p,ops[i]?=O (ba ops i,p)/\(ba ops i).op.still=Za:=by
 unfold dy at h;have b:=List.find?_some h;simp only[aD]at b;have a:=b.2;unfold E6 at a;unfold ba;split at a
 .rename_i o p d;rw[d];exact⟨p,rfl,a⟩
 .cases a
theorem NL {D:List Nat}{m:Nat}(h:m∈bp ops D): ∃p,ops[m]?=O (ba ops m,p)/\(ba ops m).op.still=Zb:=by
 unfold bp at h;obtain⟨a,d⟩:=List.mem_filter.1 h;have a:=List.mem_range.1 a;simp only[aD]at d;have b:=d.2;unfold E6 at b;unfold ba;rw[List.getElem?_eq_getElem a]at b⊢;exact⟨_,rfl,by simpa using b⟩
theorem W6 {a:Nat}{f:Bool}{P:List Nat}{r:List LItem}(h:xE ops a f P r=Za){q:Nat}(g:q∈P):(∀t,(ba ops a).dst=O t->(ba ops q).dst≠O t)/\∀t,(ba ops a).dst=O t->t∉xG (ba ops q).op:=by
 simp only[xE,aD]at h;have b:=List.all_eq_true.1 h.1 q g;rw[aD]at b;refine⟨λt d e=> ?_,λt d i=> ?_⟩
 .have:=b.1;rw[d,e]at this;simp only[W3,dD]at this;cases this
 .have:=b.2;rw[d]at this;simp only[vY]at this;rw[pj.2 i]at this;cases this
theorem aA8 {a:Nat}{b:Bool}{P:List Nat}{r:List LItem}(h:xE ops a b P r=Za)(f:it∈r)(k:aB it.kind 2=Za)(g:b=Za->it.i≠a){t:Nat}(l:(ba ops a).dst=O t):(ba ops it.i).dst≠O t:=by
 simp only[xE,aD]at h;have d:=List.all_eq_true.1 h.2 it f
 have j:(b&&aB it.i a)=Zb:=by
  cases b with
  |false=>rfl
  |true=>exact Bool.eq_false_iff.2 λe=>g rfl (bB e)
 rw[k,j]at d;intro e;rw[l,e]at d;simp only[fB,eD,W3,dD]at d;cases d
theorem CF {d:Option Nat}{t:Nat}(h: ∀a,d=O a->t≠a):(ea.putO d v) t=ea t:=by
 cases d with
 |none=>rfl
 |some a=>exact zF (h a rfl)
theorem am0 {d:Option Nat}{v:VV}{t:Nat}(h: ∀a,d=O a->t≠a):mv (putO e d v) t=mv e t:=by
 cases d with
 |none=>rfl
 |some a=>
  show mv (ui e a v) t=_;rw[zL,zF (h a rfl)]
theorem InvL.on {ach a:List (Nat×(Hp->Prop))}{d:HV}{P ls o W p:List Nat}{r:List LItem}{pd:Nat->Nat}{i:Nat}{K:VV}
  (f:InvL ops c0 c e ea ach chk P ls W (it::r) pd) (F:xE ops i Zb P r=Za) (k:Le c c') (N:Rel c') (T:VRel c' K v) (M:ChkRel c' a d) (B:a.map (·.1)=o) (C:uj p d=Za):
  InvL ops c0 c' (putO e (ba ops i).dst K) (ea.putO (ba ops i).dst v) a d P o p r pd:=by
 have m:=f.ds;simp only[H6,aD]at m;refine⟨?_,N,(f.E.frame k).putO T,M,B,C,λb=>by rw[k.fb];exact f.fb b,f.nod,f.inj,f.new,λq D=> ?_,λj I J t l=> ?_,m.2⟩
 .have u:=f.le;have w:Le ⟨c.μ,c.S,c.Z,c0.fb⟩ ⟨c'.μ,c'.S,c'.Z,c0.fb⟩:=⟨k.len,k.al,k.fz,k.ln,k.un,k.ow,k.n,rfl⟩;exact u.trans w
 .obtain⟨H,x,X,u,w,L⟩:=f.pend q D;obtain⟨U,V⟩:=W6 F D;refine⟨H,x,X,u.same H λt l=>CF λs g e=>V s g (e▸l),k.un _ _ w λQ=> ?_,λt l=> ?_⟩
  .obtain⟨j,z,A⟩:=Q;exact f.R.fbk j _ (rk z) A ((f.fb _).2 (.inr ⟨q,D,rfl⟩))
  .rw[CF λs g e=>U s g (e▸l)];exact L t l
 .rw[am0 λs g e=>aA8 F I J (λh=>by cases h) g (e▸l)];exact f.und j (bD _ I) J t l
theorem Kx {ach:List (Nat×(Hp->Prop))}{P ls nd:List Nat}{r:List LItem}{pd:Nat->Nat}{m:Nat}{V:Nat->Value}
  (a:InvL ops c0 c e ea ach chk P ls nd r pd) (j:m∉P) (J:ue (ba ops m).op=Za) (hF:tH (ba ops m).op ea x V) (hd:xE ops m Za P r=Za) (h:vY (ba ops m).dst (xG (ba ops m).op)=Za)
  (C:r.any (λit=>aB it.kind 2&&aB it.i m)=Za):
  InvL ops c0 ⟨c.μ,c.S,c.Z.add x,λb=>c.fb b∨b=c.Z.n⟩ e (ea.putO (ba ops m).dst (V c.Z.n)) ach chk (m::P) ls nd r (λq=>if q=m then c.Z.n else pd q):=by
 let c':Ctx:=⟨c.μ,c.S,c.Z.add x,λb=>c.fb b∨b=c.Z.n⟩
 have f: ∀b y,c.Z.m b=O y->(c.Z.add x).m b=O y:=by
  intro b y o;have:=a.R.ok b y o;simp only[Hp.add];rw[Zh];exact o
 have hV:LeV c c':=by
  refine⟨iA _,λq d hq g=>⟨g,rfl⟩,λq d b y hq g hm o=>⟨y,f b y o,rfl⟩,λb y o X=>⟨f b y o,λhm=> ?_⟩⟩;rcases hm with hm|hm|hm
  .exact X (.inl hm)
  .exact X (.inr hm)
  .have:=a.R.ok b y o;omega
 have hR':Rel c':=by
  refine⟨λb y o=> ?_,a.R.inj,λq d g=> ?_,λq b g hm hf=> ?_,λb hb=> ?_⟩
  .simp only[c',Hp.add]at o⊢;split at o
   .omega
   .have:=a.R.ok b y o;omega
  .obtain⟨h6,k⟩:=a.R.blk q d g;refine⟨h6, ?_⟩;rcases k with k|⟨b',y',B,u,k,h8,h9,h10,h11,h12⟩
   .exact .inl k
   .exact .inr ⟨b',y',B,u,k,f _ _ h8,h9,h10,h11,VRel.framesV hV h12⟩
  .rcases hf with hf|hf
   .exact a.R.fbk q b g hm hf
   .subst hf;have F:(ad c.S q).dim≠Y:=g;cases D:(ad c.S q).dim with
    |none=>exact F D
    |some d=>
     obtain⟨_,k⟩:=a.R.blk q d D;have N:c.μ q=O c.Z.n:=hm;rcases k with⟨_,k⟩|⟨b',y',B,u,k,h8,_⟩
     .rw[N]at k;cases k
     .rw[N]at k;injection k with k
      subst k;have:=a.R.ok _ _ h8;omega
  .show b<c.Z.n+1;rcases hb with hb|hb
   .have:=a.R.fbl b hb;omega
   .omega
 have hK':=a.K.frameV a.R hV (λ_ _=>rfl) (λ_ _=>rfl) f;refine⟨?_,hR', ?_,hK',a.ks,a.nd,λb=> ?_,List.nodup_cons.2 ⟨j,a.nod⟩,λq U hq Q z=> ?_,λq hq=> ?_,λq hq=> ?_,a.und,a.ds⟩
 .have l:=a.le;refine⟨l.len,l.al,l.fz,λq d b y hq g hm o=> ?_,λb y o X=>f _ _ (l.un b y o X),l.ow,iB l.n (Nat.le_succ _),rfl⟩;obtain⟨y',q1,q2⟩:=l.ln q d b y hq g hm o;exact⟨y',f _ _ q1,q2⟩
 .have hE:=a.E.frameV hV;intro t;cases H:(ba ops m).dst with
  |none=>exact hE t
  |some A=>
   show VRel c' (mv e t) (if t=A then _ else ea t);by_cases T:t=A
   .subst T;rw[zE rfl];obtain⟨it,hit,p⟩:=List.any_eq_true.1 C;rw[aD]at p;have L:=bB p.2;subst L;rw[a.und it hit p.1 _ H];exact .undef _
   .rw[zF T];exact hE t
 .constructor
  .rintro(hb|hb)
   .rcases(a.fb b).1 hb with hb|⟨q,hq,hb⟩
    .exact .inl hb
    .refine .inr ⟨q,bD _ hq, ?_⟩;show(if q=m then c.Z.n else pd q)=b;rw[zF (λe:q=m=>j (e▸hq))];exact hb
   .exact .inr ⟨m,dB,by simp[hb]⟩
  .rintro(hb|⟨q,hq,hb⟩)
   .exact .inl ((a.fb b).2 (.inl hb))
   .rcases List.mem_cons.1 hq with rfl|hq
    .simp only[if_true]at hb;exact .inr hb.symm
    .have hb:(if q=m then c.Z.n else pd q)=b:=hb;rw[zF (λe:q=m=>j (e▸hq))]at hb;exact .inl ((a.fb b).2 (.inr ⟨q,hq,hb⟩))
 .have M: ∀q∈P,pd q<c.Z.n:=λq hq=>a.R.fbl _ ((a.fb _).2 (.inr ⟨q,hq,rfl⟩))
  have z:(if q=m then c.Z.n else pd q)=if U=m then c.Z.n else pd U:=z
  rcases List.mem_cons.1 hq with rfl|hq1
  .rcases List.mem_cons.1 Q with rfl|hq2
   .rfl
   .rw[zE rfl,zF (λe:U=q=>j (e▸hq2))]at z;have:=M _ hq2;omega
  .rw[zF (λe:q=m=>j (e▸hq1))]at z;rcases List.mem_cons.1 Q with rfl|hq2
   .rw[zE rfl]at z;have:=M _ hq1;omega
   .rw[zF (λe:U=m=>j (e▸hq2))]at z;exact a.inj q U hq1 hq2 z
 .show c0.Z.n<=(if q=m then c.Z.n else pd q);rcases List.mem_cons.1 hq with rfl|hq
  .rw[zE rfl];exact a.le.n
  .rw[zF (λe:q=m=>j (e▸hq))];exact a.new q hq
 .show ue (ba ops q).op=Za/\∃x1 W,tH (ba ops q).op (ea.putO (ba ops m).dst (V c.Z.n)) x1 W/\c'.Z.m (if q=m then c.Z.n else pd q)=O x1/\∀t,(ba ops q).dst=O t->ea.putO (ba ops m).dst (V c.Z.n) t=W (if q=m then c.Z.n else pd q)
  rcases List.mem_cons.1 hq with rfl|hq
  .rw[zE rfl];refine⟨J,x,V,hF.same J λt w=>CF λA s e=> ?_,zE rfl,λt w=> ?_⟩
   .subst e;rw[s]at h;simp only[vY]at h;rw[pj.2 w]at h;cases h
   .rw[w];exact zE rfl
  .rw[zF (λe:q=m=>j (e▸hq))];obtain⟨I,x',vf',q1,q2,q3⟩:=a.pend q hq;obtain⟨k1,k2⟩:=W6 hd hq;refine⟨I,x',vf',q1.same I λt w=>CF λA s e=>k2 A s (e▸w),f _ _ q2,λt w=> ?_⟩;rw[CF λA s e=>k1 A s (e▸w)];exact q3 t w
def vO (ops:List (AOper×List Nat))(j:Nat)(ea:cj):Value:=match(ba ops j).dst with
 |some t=>ea t
 |none=>undef
def Ie (ops:List (AOper×List Nat))(b:Nat)(x:Ab.Blk)(l:List Nat)(ea:cj):Prop:= ∀j∈l,∀Z':Hp,Z'.m b=O x->(ba ops j).op.run ea Z'=O (vO ops j ea,Z')
def Wl (ops:List (AOper×List Nat))(b:Nat)(x:Ab.Blk):List Nat->cj->Prop
 |[],_=>True
 |i::g,ea=> ∃v,(∀Z':Hp,Z'.m b=O x->(ba ops i).op.run ea Z'=O (v,Z'))/\Wl ops b x g (ea.putO (ba ops i).dst v)
theorem Pt {o:Option Nat}{i:Nat}(h:aw0 o i=Za):o=O i:=by
 cases o with
 |none=>cases h
 |some a=>rw[bB (h:aB a i=Za)]
theorem zV {o:AOper}(h:o.guard.isNone=Za):wanted o ea=Za:=by
 unfold wanted;cases a:o.guard with
 |none=>rfl
 |some q=>rw[a]at h;cases h
theorem KF {d:Option Nat}{l:List Nat}(h:vY d l=Za): ∀t,d=O t->t∉l:=by
 intro t b a;rw[b]at h;simp only[vY]at h;rw[pj.2 a]at h;cases h
theorem W4 {d a:Option Nat}(h:W3 d a=Za): ∀t,d=O t->a≠O t:=by
 intro t b e;rw[b,e]at h;simp only[W3,dD]at h;cases h
theorem Pv {b:Nat}{l:List Nat}{d:Option Nat}(h:Ie ops b x l ea)(m: ∀j∈l,vY d (ba ops j).op.reads=Za)(n: ∀j∈l,W3 d (ba ops j).dst=Za):Ie ops b x l (ea.putO d v):=by
 intro j f Z' o;have i:(ba ops j).op.run (ea.putO d v) Z'=(ba ops j).op.run ea Z':=DU λt q=>CF λg a e=>KF (m j f) g a (e▸q)
 have k:vO ops j (ea.putO d v)=vO ops j ea:=by
  unfold vO;cases p:(ba ops j).dst with
  |none=>rfl
  |some t=>exact CF λg a e=>W4 (n j f) g a (e▸p)
 rw[i,k];exact h j f Z' o
theorem ae2 {β:Type}{n b:Nat}{x:Ab.Blk}{y:β}{z:Option β}{c1:Ctx}(J:c1.μ n=O b)(H:n<c1.S.length)(I:c1.Z.m b=O x): ∀(g:List Nat) {c:Ctx} {e:cu} {ea:cj},Le c1 c->c.Z=c1.Z->Rel c->ar c e ea->evG tab ops n g e c.S z=O y->Wl ops b x g ea/\z=O y
 |[],_,_,_,_,_,_,_,h=>⟨trivial,h⟩
 |i::g,c,e,ea,F,D,C,r,h=>by
  simp only[evG]at h;obtain⟨B,N⟩:=ap h;rw[aD]at B;obtain⟨k,a⟩:=B;have o:=xy C r N;rw[<-rO k]at o;cases l:(ba ops i).op.run ea c.Z with
  |none=>rw[l]at o;exact o.elim
  |some q=>
   obtain⟨v,Z1⟩:=q;rw[l]at o;obtain⟨vv,c2,w,A,K,g4,L,M⟩:=o;have t:Z1=c.Z:=yC k l;rw[t]at w l;obtain⟨V,W⟩:=ae2 J H I g (F.trans A) (w.trans D) K ((r.frame A).putO L) M;refine⟨⟨v,λZ' U=> ?_,V⟩,W⟩;cases j:(ba ops i).op.isLoad with
   |false=>exact Qd k j l Z'
   |true=>
    rw[j]at a;have E:=Kc C r j l;cases u:XL c.S (ba ops i).op e with
    |none=>rw[u]at a;cases a
    |some s=>
     cases s with
     |none=>rw[u]at a;cases a
     |some q=>
      rw[u]at a E
      have T:q=n:=by
       simp only[fB,eD,aH5]at a;exact bB a
      subst T;obtain⟨P,_,Q⟩:=E;refine Q Z' λb' f=> ?_
      cases p:(ad c.S q).dim with
      |none=>exact(P p).elim
      |some d=>
       obtain⟨_,X⟩:=F.al q d H p;rw[X,J]at f;injection f with f
       subst f;rw[U,D,I]
theorem SL {T:Ab.lj}{Q:cj->Hp->Prop}{ach:List (Nat×(Hp->Prop))}{b m K:Nat}{x:Ab.Blk}{Z:Hp}(J:Z.m b=O x): ∀(g pre:List Nat) {f o:Nat} {D D2:List Nat} {ea:cj} {gl:List (Nat×(Hp->Prop))},XX ops g f D=O (o,D2)->Wl ops b x g ea->okG ops m K pre g=Za->Ie ops b x pre ea->(∀p∈gl,∀Z':Hp,Z'.m b=O x->p.2 Z')->
  (∀ea' h,Ie ops b x (g.reverse++pre) ea'->(∀p∈h,∀Z':Hp,Z'.m b=O x->p.2 Z')->(∀t,t∉xB ops g->ea' t=ea t)->Fb T Q ops o D2 (h++ach) ea' Z)->Fb T Q ops f D (gl++ach) ea Z
 |[],pre,f,o,D,D2,ea,gl,a,E,B,z,d,A=>by
  simp only[XX]at a;injection a with a
  injection a with N P
  subst N;subst P;exact A ea gl z d λt _=>rfl
 |i::g,pre,0,o,D,D2,ea,gl,a,E,B,z,d,A=>by cases a
 |i::g,pre,f+1,o,D,D2,ea,gl,a,E,B,z,d,A=>by
  simp only[XX]at a;cases q:aw0 (dy ops D) i&&(ba ops i).guard.isNone with
  |false=>rw[q]at a;cases a
  |true=>
   rw[q,zC]at a;rw[aD]at q;have s:=Pt q.1;obtain⟨p,hp,W⟩:=Rs s;obtain⟨v,I,F⟩:=E;simp only[okG,aD]at B;obtain⟨⟨⟨⟨⟨⟨⟨o1,o2⟩,o3⟩,o4⟩,o5⟩,o6⟩,o7⟩,o8⟩:=B;simp only[Fb];rw[s];simp only[hp,zV q.2,if_true,I Z J];obtain⟨t0,n⟩:=Option.isSome_iff_exists.1 o1;have w:=List.all_eq_true.1 o6
   have C:Ie ops b x (i::pre) (ea.putO (ba ops i).dst v):=by
    intro j hj;rcases List.mem_cons.1 hj with rfl|hj
    .intro Z' U;have L:(ba ops j).op.run (ea.putO (ba ops j).dst v) Z'=(ba ops j).op.run ea Z':=DU λt u=>CF λt' H e=>KF (w j dB) t' H (e▸u)
     have M:vO ops j (ea.putO (ba ops j).dst v)=v:=by
      unfold vO;rw[n];exact zE rfl
     rw[L,M];exact I Z' U
    .exact Pv z (λj hj=>w j (bD _ hj)) (List.all_eq_true.1 o7) j hj
   have k: ∀l:List (Nat×(Hp->Prop)),(∀p∈l,∀Z':Hp,Z'.m b=O x->p.2 Z')->Fb T Q ops f (i::D) (l++ach) (ea.putO (ba ops i).dst v) Z:=by
    intro l r;refine SL J g (i::pre) a F o8 C r λea' h X k2 k3=>A ea' h (by rw[List.reverse_cons,List.append_assoc];exact X) k2 λt u=> ?_
    simp only[xB,n,List.mem_append,List.mem_singleton,not_or]at u;rw[k3 t u.2,n];exact zF u.1
   cases V:(ba ops i).op.isLoad with
   |false=>
    rw[zF (by decide)];exact k gl d
   |true=>
    rw[zE rfl];refine k ((i,_)::gl) λp hp=> ?_
    rcases List.mem_cons.1 hp with rfl|hp
    .exact I
    .exact d p hp
theorem Tf {β:Type}{b:Nat}{x:Ab.Blk}{k:cu->ah->Option β}{y:β}{ea:cj}: ∀(g:List Nat) {r o:List LItem} {c:Ctx} {e:cu} {chk:HV},Te g r=O o->Ie ops b x g ea->c.Z.m b=O x->(∀j∈g,(ba ops j).dst.isSome=Za)->Rel c->ar c e ea->Fr tab ops r chk e c.S k=O y->
  ∃c' e' f,c'.Z=c.Z/\Le c c'/\Rel c'/\ar c' e' ea/\Fr tab ops o f e' c'.S k=O y
 |[],r,o,c,e,chk,h,_,_,_,u,p,a=>by
  injection h with h
  subst h;exact⟨c,e,chk,rfl,Le.refl c,u,p,a⟩
 |i::g,[],o,c,e,chk,h,_,_,_,_,_,_=>by cases h
 |i::g,it::r,o,c,e,chk,h,E,H,F,u,p,a=>by
  simp only[Te]at h;cases n:aB it.kind 0&&aB it.i i with
  |false=>rw[n]at h;cases h
  |true=>
   rw[n,zC]at h;rw[aD]at n;have Q:=bB n.2;subst Q;have T:=bB n.1;simp only[Fr,T,show aB 0 3=Zb from rfl,show aB 0 2=Zb from rfl,show aB 0 1=Zb from rfl,show aB 0 5=Zb from rfl,zD]at a;obtain⟨z,a⟩:=ap a;have C:=xy u p a;rw[<-rO z,E it.i dB c.Z H]at C;obtain⟨vv,I,A,B,L,g4,M,N⟩:=C;obtain⟨_,P⟩:=ap N
   have s:ar I (putO e (ba ops it.i).dst vv) ea:=by
    have D:=(p.frame B).putO (d:=(ba ops it.i).dst) M;obtain⟨t,U⟩:=Option.isSome_iff_exists.1 (F it.i dB)
    have:ea.putO (ba ops it.i).dst (vO ops it.i ea)=ea:=by
     funext q
     unfold vO;rw[U];show(if q=t then ea t else ea q)=ea q;by_cases h:q=t
     .subst h;rw[zE rfl]
     .rw[zF h]
    rw[this]at D;exact D
   obtain⟨J,K,l,V,W,X,k4,k5⟩:=Tf g h (λj w=>E j (bD _ w)) (by rw[A];exact H) (λj w=>F j (bD _ w)) L s P;exact⟨J,K,l,V.trans A,B.trans W,X,k4,k5⟩
theorem TU {β:Type}{k:cu->ah->Option β}{y:β}{c0:Ctx}: ∀(r:List LItem) {f:Nat} {D:List Nat} {c:Ctx} {e:cu} {ea:cj} {chk:HV} {ach:List (Nat×(Hp->Prop))},XY ops r f D=Za->Le c0 c->Rel c->ar c e ea->Fr tab ops r chk e c.S k=O y->Fb (gu tab) (tI c0 k y) ops f D ach ea c.Z
 |[],0,D,c,e,ea,chk,ach,h,m,j,g,d=>⟨e,c,rfl,m,j,g,d⟩
 |[],f+1,D,c,e,ea,chk,ach,h,m,j,g,d=>by
  simp only[XY,aD]at h;simp only[Fb];cases b:dy ops D with
  |some i=>rw[b]at h;cases h.1
  |none=>
   cases u:bp ops D with
   |cons a l=>rw[u]at h;cases h.2
   |nil=>exact⟨e,c,rfl,m,j,g,d⟩
 |it::r,0,D,c,e,ea,chk,ach,h,m,j,g,d=>by cases h
 |it::r,f+1,D,c,e,ea,chk,ach,h,m,j,g,d=>by
  simp only[XY,aD]at h;obtain⟨⟨⟨F,H⟩,I⟩,J⟩:=h;have b:=Pt H;obtain⟨p,L,o⟩:=Rs b;have K:=bB F;simp only[Fr,K,show aB 0 3=Zb from rfl,show aB 0 2=Zb from rfl,show aB 0 1=Zb from rfl,show aB 0 5=Zb from rfl,zD]at d;obtain⟨_,d⟩:=ap d;have n:=xy j g d;rw[<-rO o]at n;simp only[Fb];rw[b];simp only[L,zV I,if_true];cases t:(ba ops it.i).op.run ea c.Z with
  |none=>rw[t]at n;exact n.elim
  |some q=>
   obtain⟨v,Z1⟩:=q;rw[t]at n;obtain⟨P,M,z,w,A,N,B,C⟩:=n;obtain⟨_,E⟩:=ap C;have s:Z1=c.Z:=yC o t;have:=TU r (ach:=if(ba ops it.i).op.isLoad=Za then(it.i,λZ'=>(ba ops it.i).op.run ea Z'=O (v,Z'))::ach else ach) J (m.trans w) A ((g.frame w).putO B) E;rw[z,s]at this;exact this
theorem Hy {m c:Nat}: ∀{g pre:List Nat},okG ops m c pre g=Za->∀i∈g,(ba ops i).dst.isSome=Za/\vY (ba ops i).dst (xG (ba ops m).op)=Za/\W3 (ba ops i).dst (ba ops m).dst=Za/\vY (ba ops c).dst (ba ops i).op.reads=Za/\W3 (ba ops c).dst (ba ops i).dst=Za
 |[],_,_,_,h=>by cases h
 |j::g,pre,a,i,h=>by
  simp only[okG,aD]at a;obtain⟨⟨⟨⟨⟨⟨⟨b,d⟩,f⟩,k⟩,l⟩,_⟩,_⟩,n⟩:=a;rcases List.mem_cons.1 h with rfl|h
  .exact⟨b,d,f,k,l⟩
  .exact Hy n i h
theorem Ky {t:Nat}: ∀{g:List Nat},t∈xB ops g->∃i∈g,(ba ops i).dst=O t
 |[],h=>by cases h
 |i::g,h=>by
  simp only[xB]at h;rcases List.mem_append.1 h with h|h
  .cases a:(ba ops i).dst with
   |none=>rw[a]at h;cases h
   |some f=>
    rw[a]at h;rw[List.mem_singleton.1 h];exact⟨i,dB,a⟩
  .obtain⟨j,b,d⟩:=Ky h;exact⟨j,bD _ b,d⟩
theorem Ye {β:Type}{k:cu->ah->Option β}{y:β}{ach:List (Nat×(Hp->Prop))}{ls nd D D1 g:List Nat}{a o:LItem}{r2 r3:List LItem}{pd:Nat->Nat}{f f1 m:Nat}{vf:Nat->Value}(h0:Rel c0)
  (C:a.kind=1) (w:o.kind=2) (u:o.i=m) (hfr:ue (ba ops m).op=Za) (hF:tH (ba ops m).op ea x vf) (F:vY (ba ops m).dst (xG (ba ops m).op)=Za) (hgc:(ba ops a.i).guard.isNone=Za)
  (L:ls.all (λi=>xr ops i m||qm i nd)=Za) (M:ls.all (λi=>xr ops i a.i||qm i a.chks)=Za) (J:xE ops a.i Zb [m] [o]=Za) (H:okG ops m a.i [] g=Za) (hS:XX ops g f (m::D)=O (f1+1,D1)) (hns:dy ops D1=Y) (P:bp ops D1=[a.i]) (hL:Te g r2=O r3) (hZ:XY ops r3 f1 (a.i::D1)=Za)
  (hI:InvL ops c0 c e ea ach chk [] ls nd [a,o] pd) (hcl: ∀t∈xB ops g,mv e t= .undef) (I:Wl ops c.Z.n x g (ea.putO (ba ops m).dst (vf c.Z.n))) (hz:Fr tab ops (a::o::r2) chk e c.S k=O y):
  DK ops m (c.Z.add x) ach/\Fb (gu tab) (tI c0 k y) ops f (m::D) ach (ea.putO (ba ops m).dst (vf c.Z.n)) (c.Z.add x):=by
 have r:=Kx hI (by simp) hfr hF (by simp[xE,C,w,u,show aB 1 2=Zb from rfl,show aB 2 2=Za from rfl]) F (by simp[C,w,u,show aB 1 2=Zb from rfl,show aB 2 2=Za from rfl]);have hx:(c.Z.add x).m c.Z.n=O x:=zE rfl;refine⟨uf r.K hI.nd λi s=> ?_,SL (ach:=ach) (gl:=[]) hx g [] hS I H (λ_ h=>by cases h) (λ_ h=>by cases h) λA gl hf2 hgl l=> ?_⟩
 .rw[hI.ks]at s;have:=List.all_eq_true.1 L i s;rw[cD]at this;exact this
 .obtain⟨p,hp,hst⟩:=NL (show a.i∈bp ops D1 by rw[P];simp);simp only[Fb];rw[hns];simp only[P,MU,hp,zV hgc,if_true]
  have X:ar ⟨c.μ,c.S,c.Z.add x,λb=>c.fb b∨b=c.Z.n⟩ e A:=by
   intro t;by_cases z:t∈xB ops g
   .rw[hcl t z];exact .undef _
   .rw[l t z];exact r.E t
  have d:InvL ops c0 ⟨c.μ,c.S,c.Z.add x,λb=>c.fb b∨b=c.Z.n⟩ e A ach chk [m] ls nd [a,o] (λq=>if q=m then c.Z.n else pd q):=by
   refine⟨r.le,r.R,X,r.K,r.ks,r.nd,r.fb,r.nod,r.inj,r.new,λq U=> ?_,r.und,r.ds⟩;obtain⟨q1,x',vf',q2,q3,q4⟩:=r.pend q U;have N:=List.mem_singleton.1 U;refine⟨q1,x',vf',q2.same q1 λt z=>l t λhm=> ?_,q3,λt z=>(l t λhm=> ?_).trans (q4 t z)⟩
   .obtain⟨i,s,hd⟩:=Ky hm;rw[N]at z;exact KF (Hy H i s).2.1 t hd z
   .obtain⟨i,s,hd⟩:=Ky hm;rw[N]at z;exact W4 (Hy H i s).2.2.1 t hd z
  simp only[Fr,C,show aB 1 3=Zb from rfl,show aB 1 2=Zb from rfl,show aB 1 1=Za from rfl,zD,zC]at hz;refine qo (bi tab) (λv Z' hx'=> ?_) (xy d.R d.E hz);obtain⟨vv,c4,g1,V,g3,g4,g5,g6⟩:=hx';obtain⟨W,g8⟩:=ap g6;rw[aD]at W;have hn:=d.K.next V g4
  subst g1;have hI4:=d.on J V g3 g5 hn d.ks W.2
  have Q:c4.Z.m c.Z.n=O x:=by
   refine V.un _ _ hx λho=> ?_
   obtain⟨j,hj1,hj2⟩:=ho;exact d.R.fbk j _ (rk hj1) hj2 (.inr rfl)
  refine⟨Ab.uf λi p hip hbf=> ?_, ?_⟩
  .rcases List.mem_append.1 hip with h|h
   .exact hgl _ h _ Q
   .refine Ab.Hs (uf hn W.1 λi s=> ?_) i p h hbf;rw[d.ks]at s;have:=List.all_eq_true.1 M i s;rw[cD]at this;exact this
  .simp only[Fr,w,show aB 2 3=Zb from rfl,show aB 2 2=Za from rfl,zD,zC]at g8;obtain⟨c5,e5,l1,T,l3,_⟩:=ND (K:=λe' S'=>Fr tab ops r2 _ e' S' k) h0 hI4 (by rw[w];rfl) (by rw[u];simp) g8;have hP:DC o.i [m]=[]:=by rw[u];simp[DC]
   rw[hP]at T
   have hfb:c5.fb=c0.fb:=by
    funext b
    refine propext ((T.fb b).trans ⟨λh=> ?_, .inl⟩);rcases h with h|⟨q,U,_⟩
    .exact h
    .cases U
   have hle:Le c0 c5:=by
    have:=T.le;rw[<-hfb]at this;exact this
   have hf4:Ie ops c.Z.n x g (A.putO (ba ops a.i).dst v):=by
    refine Pv (λj B=>hf2 j (by simp[B])) (λj B=>(Hy H j B).2.2.2.1) λj B=>(Hy H j B).2.2.2.2
   obtain⟨c6,e6,chk6,k1,k2,k3,k4,k5⟩:=Tf g hL hf4 (by rw[l1];exact Q) (λj B=>(Hy H j B).1) T.R T.E l3;have:=TU r3 (ach:=gl++ach) hZ (hle.trans k2) k3 k4 k5;rw[k1,l1]at this;exact this
theorem Nl {β:Type}{c0:Ctx}{k:cu->ah->Option β}{y:β}(U:Rel c0): ∀(f:Nat) {D P ls nd:List Nat} {r:List LItem} {c:Ctx} {e:cu} {ea:cj} {ach:List (Nat×(Hp->Prop))} {chk:HV} {pd:Nat->Nat},O2 ops f D P ls nd r=Za->InvL ops c0 c e ea ach chk P ls nd r pd->Fr tab ops r chk e c.S k=O y->
  Fb (gu tab) (tI c0 k y) ops f D ach ea c.Z
 |0,D,P,ls,nd,r,c,e,ea,ach,chk,pd,h,s,T=>Ra U r h s T
 |f+1,D,P,ls,nd,r,c,e,ea,ach,chk,pd,h,s,T=>by
  simp only[O2]at h;simp only[Fb];cases hns:dy ops D with
  |some i=>
   rw[hns]at h;simp only[aD]at h⊢;obtain⟨hg,h⟩:=h;obtain⟨p,ho,J⟩:=Rs hns;rw[ho]
   have hw:wanted (ba ops i) ea=Za:=by
    unfold wanted;cases hgg:(ba ops i).guard with
    |none=>rfl
    |some q=>rw[hgg]at hg;cases hg
   simp only[hw,if_true];cases hs:E7 r P i with
   |none=>rw[hs]at h;cases h
   |some q=>
    obtain⟨P',it,r'⟩:=q;rw[hs]at h;simp only[aD]at h;obtain⟨⟨hk0,hd⟩,hc⟩:=h;obtain⟨c1,e1,A,B,h3,h4,h5,h6⟩:=JQ U r hs s T;subst h5;have u:aB it.kind 1=Zb:=by rw[bB hk0];rfl
    have hk3:aB it.kind 3=Zb:=by rw[bB hk0];rfl
    have hk5:aB it.kind 5=Zb:=by rw[bB hk0];rfl
    simp only[Fr,h4,u,hk3,hk5,zD]at h3;obtain⟨_,h3⟩:=ap h3;have h7:=xy B.R B.E h3;rw[<-rO J,A]at h7;cases hr:(ba ops it.i).op.run ea c.Z with
    |none=>rw[hr]at h7;exact h7.elim
    |some q=>
     obtain⟨v,Z1⟩:=q;rw[hr]at h7;obtain⟨vv,c2,g1,W,g3,g4,g5,g6⟩:=h7;simp only
     have hdd:Gq tab (ba ops it.i).op e1 c1.S=[]:=by
      cases hop:(ba ops it.i).op<;>rw[hop]at J<;>first|(cases J;done)|rfl
     have hZ1:Z1=c.Z:=yC J hr;obtain⟨L,g8⟩:=ap g6;have hn:=B.K.next W g4
     rw[hdd,B2]at hn
     have Q: ∀{C:List (Nat×(Hp->Prop))} {F:HV} {ls':List Nat},ChkRel c2 C F->C.map (·.1)=ls'->uj it.need F=Za->Fr tab ops r' F (putO e1 (ba ops it.i).dst vv) c2.S k=O y->O2 ops f (it.i::D) P' ls' it.need r'=Za->
       Fb (gu tab) (tI c0 k y) ops f (it.i::D) C (ea.putO (ba ops it.i).dst v) c.Z:=by
      intro C F ls' q1 q2 q3 q4 q5;have:=Nl U f q5 (B.on hd W g3 g5 q1 q2 q3) q4;rw[g1,hZ1]at this;exact this
     cases hld:(ba ops it.i).op.isLoad with
     |false=>
      rw[hld]at L g8 hc;rw[zF (by decide)];exact Q hn B.ks L g8 hc
     |true=>
      rw[hld]at L g8 hc;rw[zE rfl];have hkp:=Kc B.R B.E hld (by rw[A];exact hr);have hn2:=(ChkRel.cons (i:=it.i) (f:=λ_=>Zb) hkp (λ_ _ _ h=>by cases h) B.K).next W g4
      rw[hdd,B2]at hn2;exact Q hn2 (by rw[List.map_cons,B.ks];rfl) L g8 hc
  |none=>
   rw[hns]at h;simp only at h⊢;cases hgp:aI0 r with
   |true=>
    rw[hgp,zC,aD]at h;obtain⟨X,hB⟩:=h
    obtain⟨it,w,g,r2,rfl⟩: ∃it w g r2,r=it::w::g::r2:=by
     match r,X with
     |it::w::g::r2,_=>exact⟨it,w,g,r2,rfl⟩
     |[],X=>cases X
     |[_],X=>cases X
     |[_,_],X=>cases X
    simp only[ad0,aD]at X;obtain⟨⟨⟨⟨⟨⟨⟨⟨⟨⟨⟨⟨⟨⟨⟨a1,a2⟩,a3⟩,a4⟩,a5⟩,a6⟩,a7⟩,a8⟩,a9⟩,a10⟩,a11⟩,a12⟩,a13⟩,M⟩,a15⟩,V⟩:=X
    have hP:P=[]:=by
     cases P with
     |nil=>rfl
     |cons a l=>cases a1
    subst hP;have hk5:it.kind=5:=bB hgp;have u:=bB a2;have hkm:=bB a3;have N:=bB a4;simp only[Fr,hk5,show aB 5 3=Zb from rfl,show aB 5 2=Zb from rfl,show aB 5 1=Zb from rfl,show aB 5 5=Za from rfl,zD,zC]at T;have hds:=s.ds;simp only[H6,aD]at hds
    have d:InvL ops c0 c (uO e (xB ops it.chks)) ea ach chk [] ls nd (w::g::r2) pd:=by
     refine⟨s.le,s.R,λt=> ?_,s.K,s.ks,s.nd,s.fb,s.nod,s.inj,s.new,s.pend,λj hj hk t ht=> ?_,by simp only[H6,aD];exact hds.2⟩
     .rcases @Ba (xB ops it.chks) e t with A|⟨_,A⟩
      .rw[A];exact .undef _
      .rw[A];exact s.E t
     .rcases @Ba (xB ops it.chks) e t with A|⟨_,A⟩
      .exact A
      .rw[A];exact s.und j (bD _ hj) hk t ht
    have hI2:InvL ops c0 c (uO e (xB ops it.chks)) ea ach chk [] ls nd [w,g] pd:=by
     refine⟨d.le,d.R,d.E,d.K,d.ks,d.nd,d.fb,d.nod,d.inj,d.new,d.pend,λj hj hk t ht=>d.und j (by simp only[fD,List.not_mem_nil,or_false]at hj⊢;rcases hj with h|h<;>simp[h]) hk t ht,by simp[H6,u,show aB 1 2=Zb from rfl]⟩
    have hcl: ∀t∈xB ops it.chks,mv (uO e (xB ops it.chks)) t= .undef:=by
     intro t ht;rcases @Ba (xB ops it.chks) e t with A|⟨A,_⟩
     .exact A
     .exact(A ht).elim
    obtain⟨_,_,_,x,vf,_,hFF⟩:=EO d.E T;have hF:=hFF.run;have H:=Kx hI2 (by simp) a5 hF (by simp[xE,u,hkm,N,show aB 1 2=Zb from rfl,show aB 2 2=Za from rfl]) a9 (by simp[u,hkm,N,show aB 1 2=Zb from rfl,show aB 2 2=Za from rfl]);rw[<-N]at T H
    have hN3:InvL ops c0 ⟨c.μ,c.S,c.Z.add x,λb=>c.fb b∨b=c.Z.n⟩ (uO e (xB ops it.chks)) (ea.putO (ba ops g.i).dst (vf c.Z.n)) ach chk [g.i] ls nd [g] (λq=>if q=g.i then c.Z.n else pd q):=
     ⟨H.le,H.R,H.E,H.K,H.ks,H.nd,H.fb,H.nod,H.inj,H.new,H.pend,λj hj hk t ht=>H.und j (bD _ hj) hk t ht,by simp[H6]⟩
    obtain⟨c3,e3,l1,l2,l3,l4,l5,_⟩:=ND (K:=λe2 S2=>evG tab ops c.S.length it.chks e2 S2 (Fr tab ops (w::g::r2) chk (uO e (xB ops it.chks)) c.S k)) U hN3 (by rw[hkm];rfl) (by simp) T;obtain⟨hGrp,hz⟩:=ae2 (b:=c.Z.n) (x:=x) (by rw[l4];simp) l5 (by rw[l1];exact zE rfl) it.chks (Le.refl c3) rfl l2.R l2.E l3;rw[N]at hGrp
    have hdst:xE ops w.i Zb [it.i] [g]=Za:=by
     simp only[xE,aD,List.all_cons]at M⊢;exact⟨M.1,M.2.1,rfl⟩
    cases I:bp ops D with
    |nil=>rw[I]at a10;cases a10
    |cons a l=>
     refine QP λm hm=> ?_
     have hmem:m∈bp ops D:=by rw[I];exact hm
     obtain⟨p,ho,J⟩:=NL hmem;have hor:=List.all_eq_true.1 a11 m hmem;rw[cD]at hor;rw[ho];rcases hor with hor|hor
     .have:=bB hor;subst this;simp only[zV a7,if_true];split at V
      .rename_i f1 D1 r3 hS hL;simp only[aD]at V;obtain⟨⟨b1,b2⟩,b3⟩:=V
       have hns1:dy ops D1=Y:=by
        cases h:dy ops D1 with
        |none=>rfl
        |some i=>rw[h]at b1;cases b1
       have hrm1:bp ops D1=[w.i]:=by
        split at b2
        .rename_i x hx;rw[hx,bB b2]
        .cases b2
       exact br (hF c.Z) (Ye U u hkm N a5 hF a9 a8 a12 a13 hdst a15 hS hns1 hrm1 hL b3 hI2 hcl hGrp hz)
      .cases V
     .have:=bB hor;subst this;simp only[zV a8,if_true];simp only[Fr,u,show aB 1 3=Zb from rfl,show aB 1 2=Zb from rfl,show aB 1 1=Za from rfl,zD,zC]at hz;refine qo (bi tab) (λv Z' hx'=> ?_) (xy d.R d.E hz);obtain⟨vv,c2,g1,W,g3,g4,g5,g6⟩:=hx';obtain⟨L,g8⟩:=ap g6;rw[aD]at L;have hn:=d.K.next W g4
      subst g1
      have hd0:xE ops w.i Zb [] (g::r2)=Za:=by
       simp only[xE,aD]at M⊢;exact⟨rfl,M.2⟩
      refine⟨uf hn L.1 λi hi=> ?_,Nl U f hB (d.on hd0 W g3 g5 hn d.ks L.2) g8⟩;rw[d.ks]at hi;have:=List.all_eq_true.1 a13 i hi;rw[cD]at this;exact this
   |false=>
   rw[hgp,zD]at h
   have each: ∀{ms:List Nat},(∀m∈ms,m∈bp ops D)->(ms.all λm=>(ba ops m).guard.isNone&&cond (ue (ba ops m).op)
    (!qm m P&&r.any (λit=>aB it.kind 2&&aB it.i m)&&(Ny (ba ops m).op||Nv ops r m)&&xE ops m Za P r&&vY (ba ops m).dst (xG (ba ops m).op)&&ls.all (λi=>xr ops i m||qm i nd)&&O2 ops f (m::D) (m::P) ls nd r)
    (match E7 r P m with
    |some (P',it,r')=>aB it.kind 1&&xE ops m Zb P' r'&&ls.all (λi=>xr ops i m||qm i it.chks)&&O2 ops f (m::D) P' ls it.need r'
    |none=>Zb))=Za->MU (λm=>match ops[m]? with
     |some (o,_)=>if wanted o ea then bn (gu tab) o.op ea c.Z λv Z'=>DK ops m Z' ach/\Fb (gu tab) (tI c0 k y) ops f (m::D) ach (ea.putO o.dst v) Z'
      else Fb (gu tab) (tI c0 k y) ops f (m::D) ach (ea.putO o.dst undef) c.Z
     |none=>False) ms:=by
    intro ms hms hall;refine QP λm hm=> ?_
    have h:=List.all_eq_true.1 hall m hm;simp only[aD]at h;obtain⟨hg,h⟩:=h;obtain⟨p,ho,J⟩:=NL (hms m hm);rw[ho]
    have hw:wanted (ba ops m) ea=Za:=by
     unfold wanted;cases hgg:(ba ops m).guard with
     |none=>rfl
     |some q=>rw[hgg]at hg;cases hg
    simp only[hw,if_true];cases hfr:ue (ba ops m).op with
    |false=>
     rw[hfr,zD]at h;cases hs:E7 r P m with
     |none=>rw[hs]at h;cases h
     |some q=>
      obtain⟨P',it,r'⟩:=q;rw[hs]at h;simp only[aD]at h;obtain⟨⟨⟨u,hd⟩,hls⟩,hc⟩:=h;obtain⟨c1,e1,A,B,h3,h4,h5,h6⟩:=JQ U r hs s T;subst h5;have hk3:aB it.kind 3=Zb:=by rw[bB u];rfl
      simp only[Fr,h4,u,hk3,zD,zC]at h3;have h7:=xy B.R B.E h3;rw[A]at h7;refine qo (bi tab) (λv Z' hx=> ?_) h7;obtain⟨vv,c2,g1,W,g3,g4,g5,g6⟩:=hx;obtain⟨L,g8⟩:=ap g6;rw[aD]at L;have hn:=B.K.next W g4
      subst g1;refine⟨uf hn L.1 λi hi=> ?_,Nl U f hc (B.on hd W g3 g5 hn B.ks L.2) g8⟩;rw[B.ks]at hi;have:=List.all_eq_true.1 hls i hi;rw[cD]at this;exact this
    |true=>
     rw[hfr,zC]at h;simp only[aD]at h;obtain⟨⟨⟨⟨⟨⟨hnm,hany⟩,hor⟩,hd⟩,hself⟩,hls⟩,hc⟩:=h;have hmP:m∉P:=λe=>by rw[pj.2 e]at hnm;cases hnm
     obtain⟨x,vf,hF⟩: ∃x vf,tH (ba ops m).op ea x vf:=by
      rw[cD]at hor;rcases hor with hor|hor
      .cases hop:(ba ops m).op<;>rw[hop]at hor<;>first|(cases hor;done)|skip
       case alloc es z=>exact⟨⟨z,Za,es⟩,λn=> .pointer (O ⟨n,0,Y⟩),λZ=>rfl⟩
      .obtain⟨x,vf,_,A⟩:=Mj r hor s.E (λt _=>rfl) T;exact⟨x,vf,A⟩
     have d:=Kx s hmP hfr hF hd hself hany;refine br (hF c.Z) ⟨uf d.K s.nd λi hi=> ?_, ?_⟩
     .rw[s.ks]at hi;have:=List.all_eq_true.1 hls i hi;rw[cD]at this;exact this
     .exact Nl U f hc d T
   cases I:bp ops D with
   |nil=>rw[I]at h;exact Ra U r h s T
   |cons a l=>
    rw[I]at h;exact each (λm hm=>by rw[I];exact hm) h
end
end
section
open Bool renaming and_eq_true -> aB
open List renaming mem_cons_self -> aD, mem_cons_of_mem -> cB, mem_of_getElem? -> cD
open Nat renaming beq -> bB, zero_add -> bD, eq_of_beq_eq_true -> dB
section
variable {tab:Tab}
theorem TL {t:Nat}{p:Bool}(b:ar c e ea)(f:mv e t= .bool p):ar c (ui e t (.bool p)) ea:=by
 have a:=b t;rw[f]at a;have a:=a.bool_inv;intro i;rw[zL];by_cases d:i=t
 .subst d;rw[zE rfl,a];exact .bool _
 .rw[zF d];exact b i
theorem Iq {β:Type}{y:β}: ∀{n:List SItem} {c:Ctx} {e:cu} {ea:cj} {chk:HV} {ach:List (Nat×(Hp->Prop))} {k:cu->ah->Option β},Rel c->ar c e ea->ChkRel c ach chk->xx tab n chk e c.S k=O y->R0 (gu tab) (tI c k y) n ach ea c.Z
 |[],c,e,ea,chk,ach,k,q,j,A,h=>⟨e,c,rfl,Le.refl c,q,j,h⟩
 |it::r,c,e,ea,chk,ach,k,q,j,A,h=>by
  have b: ∀i,ar c i ea->Kr tab it chk i c.S (λf C S'=>xx tab r f C S' k)=O y->
    (if it.mover then bn (gu tab) it.o.op ea c.Z (λv Z'=>A3 it.chks Z' ach/\R0 (gu tab) (tI c k y) r ach (ea.putO it.o.dst v) Z')
    else match it.o.op.run ea c.Z with
     |some (v,_)=>R0 (gu tab) (tI c k y) r (if it.keep then(it.idx,λZ'=>it.o.op.run ea Z'=O (v,Z'))::ach else ach) (ea.putO it.o.dst v) c.Z
     |none=>False):=by
   intro i l z;refine X4 (Q:=λd ea' Z'=>R0 (gu tab) (tI c k y) r d ea' Z') q l A z λc' d f C ea' E F H I J=> ?_
   exact Hb (bi tab) (λD Z'' m=>m.of E) _ _ _ _ (Iq F I H J)
  have skip: ∀i,ar c i ea->xx tab r chk (putO i it.o.dst (.tup [])) c.S k=O y->R0 (gu tab) (tI c k y) r ach (ea.putO it.o.dst undef) c.Z:=λi l z=>Iq q (l.putO (.tup .nil)) A z
  simp only[xx]at h;simp only[R0];split at h
  .rename_i s;have:wanted it.o ea=Za:=by simp only[wanted,s]
   rw[zE this];exact b e j h
  .rename_i t w s;split at h
   .rename_i p m;have g:=j t;rw[m]at g;have g:=g.bool_inv;have B:wanted it.o ea=(p==w):=by simp only[wanted,s,g]
    have a:=TL j m;rw[B];cases p<;>cases w<;>simp only[zC,zD]at h
    .rw[zE (by decide)];exact b _ a h
    .rw[zF (by decide)];exact skip _ a h
    .rw[zF (by decide)];exact skip _ a h
    .rw[zE (by decide)];exact b _ a h
   .rename_i m;have g:=j t;rw[m]at g
    have B:wanted it.o ea=Zb:=by
     simp only[wanted,s];generalize ea t=u at g;cases g;rfl
    rw[B,zF (by decide)];exact skip _ j h
   .cases h
def vI (as:List Nat)(e e':cj):Prop:= ∀t,t∉as->e' t=e t
theorem vI.refl (as:List Nat)(e:cj):vI as e e:=λ_ _=>rfl
theorem vI.put {as:List Nat}{e e':cj}{d:Option Nat}(h:vI as e e')(b: ∀t,t∈Q6 d->t∈as):vI as e (e'.putO d v):=by
 intro t a;cases d with
 |none=>exact h t a
 |some d=>
  have:t≠d:=by rintro rfl;exact a (b t (List.mem_singleton.2 rfl))
  simp only[cj.putO,cj.put,zF this];exact h t a
theorem IM {T:Ab.lj}(b:w8 T){Q:cj->Hp->Prop}{as:List Nat}{e0:cj}: ∀{ops:List AOper} {e:cj} {Z:Hp},(∀o,o∈ops->∀t,t∈Q6 o.dst->t∈as)->vI as e0 e->Ab.AH T Q ops e Z->Ab.AH T (λe' Z'=>vI as e0 e'/\Q e' Z') ops e Z
 |[],e,Z,_,a,h=>⟨a,h⟩
 |o::r,e,Z,d,a,h=>by
  simp only[Ab.AH]at h⊢;have g: ∀o,o∈r->∀t,t∈Q6 o.dst->t∈as:=λo i=>d o (cB _ i)
  split at h
  .rename_i f;rw[zE f];exact qo b (λv Z' j=>IM b g (a.put (d o aD)) j) h
  .rename_i f;rw[zF f];exact IM b g (a.put (d o aD)) h
theorem JV {T:Ab.lj}(d:w8 T){Q:cj->Hp->Prop}{as:List Nat}{e0:cj}: ∀{a:List SItem} {chk:List (Nat×(Hp->Prop))} {e:cj} {Z:Hp},(∀o,o∈a->∀t,t∈Q6 o.o.dst->t∈as)->vI as e0 e->R0 T Q a chk e Z->R0 T (λe' Z'=>vI as e0 e'/\Q e' Z') a chk e Z
 |[],chk,e,Z,_,b,h=>⟨b,h⟩
 |it::r,chk,e,Z,f,b,h=>by
  simp only[R0]at h⊢;have i: ∀o,o∈r->∀t,t∈Q6 o.o.dst->t∈as:=λo l=>f o (cB _ l)
  split at h
  .rename_i j;rw[zE j];split at h
   .rename_i g;rw[zE g];exact qo d (λv Z' k=>⟨k.1,JV d i (b.put (f it aD)) k.2⟩) h
   .rename_i g;rw[zF g];split at h
    .exact JV d i (b.put (f it aD)) h
    .exact h.elim
  .rename_i j;rw[zF j];exact JV d i (b.put (f it aD)) h
theorem Sz {F G:Nat->Prop}(h: ∀m,F m->G m): ∀{l:List Nat},MU F l->MU G l
 |[],_=>trivial
 |[m],q=>h m q
 |m::a::r,q=>⟨h m q.1,Sz h q.2⟩
theorem G9 {T:Ab.lj}(q:w8 T){Q:cj->Hp->Prop}{as:List Nat}{e0:cj}{ops:List (AOper×List Nat)}(d: ∀o,o∈ops->∀t,t∈Q6 o.1.dst->t∈as): ∀(f:Nat) {D:List Nat} {chk:List (Nat×(Hp->Prop))} {e:cj} {Z:Hp},vI as e0 e->Fb T Q ops f D chk e Z->Fb T (λe' Z'=>vI as e0 e'/\Q e' Z') ops f D chk e Z
 |0,D,chk,e,Z,j,h=>⟨j,h⟩
 |f+1,D,chk,e,Z,j,h=>by
  simp only[Fb]at h⊢;cases u:dy ops D with
  |some i=>
   rw[u]at h;simp only at h⊢;cases k:ops[i]? with
   |none=>rw[k]at h;exact h
   |some p=>
    obtain⟨o,s⟩:=p;rw[k]at h;have b:(o,s)∈ops:=cD k;simp only at h⊢;split at h
    .rename_i n;rw[zE n];split at h
     .rename_i v Z' r;exact G9 q d f (j.put (d _ b)) h
     .exact h.elim
    .rename_i n;rw[zF n];exact G9 q d f (j.put (d _ b)) h
  |none=>
   rw[u]at h;simp only at h⊢;cases r:bp ops D with
   |nil=>rw[r]at h;exact⟨j,h⟩
   |cons a l=>
    rw[r]at h;simp only at h⊢;refine Sz (λm b=> ?_) h;cases k:ops[m]? with
    |none=>rw[k]at b;exact b
    |some p=>
     obtain⟨o,s⟩:=p;rw[k]at b;have g:(o,s)∈ops:=cD k;simp only at b⊢;split at b
     .rename_i n;rw[zE n];exact qo q (λv Z' w=>⟨w.1,G9 q d f (j.put (d _ g)) w.2⟩) b
     .rename_i n;rw[zF n];exact G9 q d f (j.put (d _ g)) b
theorem zW {T:Ab.lj}(l:w8 T){as:List Nat}{e0:cj}: ∀(c:AC) {Q:AExit->cj->Hp->Prop} {e:cj} {Z:Hp},GD c=Za->(∀t,t∈qk c->t∈as)->vI as e0 e->yd T c Q e Z->yd T c (λx e' Z'=>vI as e0 e'/\Q x e' Z') e Z
 | .skip,_,_,_,_,_,g,h=>⟨g,h⟩
 | .exit _,_,_,_,_,_,g,h=>⟨g,h⟩
 | .ret,_,_,_,_,_,g,h=>⟨g,h⟩
 | .region ops,Q,e,Z,_,j,g,h=>IM l (λo q t k=>j t (List.mem_flatMap.2 ⟨o,q,k⟩)) g h
 | .sched z,Q,e,Z,_,j,g,h=>JV l (λo q t k=>j t (List.mem_flatMap.2 ⟨o,q,k⟩)) g h
 | .draw ops,Q,e,Z,_,j,g,h=>G9 l (λo q t k=>j t (List.mem_flatMap.2 ⟨o,q,k⟩)) _ g h
 | .seq a b,Q,e,Z,m,j,g,h=>by
  simp only[GD,aB]at m;have p:=zW l a m.1 (λt k=>j t (List.mem_append.2 (.inl k))) g h;refine fg l a _ _ (λx e' Z' r=> ?_) e Z p;obtain⟨f,d⟩:=r;cases x with
  |normal=>exact zW l b m.2 (λt k=>j t (List.mem_append.2 (.inr k))) f d
  |exit i=>exact⟨f,d⟩
  |ret=>exact⟨f,d⟩
 | .cond c a b,Q,e,Z,m,j,g,h=>by
  simp only[GD,aB]at m;simp only[yd]at h⊢;split at h
  .exact zW l a m.1 (λt k=>j t (List.mem_append.2 (.inl k))) g h
  .exact zW l b m.2 (λt k=>j t (List.mem_append.2 (.inr k))) g h
  .exact h.elim
 | .block id b,Q,e,Z,m,j,g,h=>by
  have p:=zW l b m j g h;refine fg l b _ _ (λx e' Z' r=> ?_) e Z p;obtain⟨f,d⟩:=r;cases x with
  |normal=>exact⟨f,d⟩
  |exit i=>
   simp only at d⊢;split at d
   .rename_i s;rw[zE s];exact⟨f,d⟩
   .rename_i s;rw[zF s];exact⟨f,d⟩
  |ret=>exact⟨f,d⟩
 | .loop b,Q,e,Z,m,j,g,h=>by
  obtain⟨n,u⟩:=h;refine⟨n, ?_⟩;induction n generalizing e Z with
  |zero=>exact u.elim
  |succ n w=>
   simp only[od]at u⊢;have p:=zW l b m j g u;refine fg l b _ _ (λx e' Z' r=> ?_) e Z p;obtain⟨f,d⟩:=r;cases x with
   |normal=>exact w _ _ f d
   |exit i=>exact⟨f,d⟩
   |ret=>exact⟨f,d⟩
theorem Km {N:Nat}{t:FN sk.shs}(h:Ni S N fx sk vals=O t):sk.noRo=Za/\∃st,rL S N fx sk vals=O st/\Uu sk.shs t=st.ls:=by
 unfold Ni at h;obtain⟨a,b⟩:=ap h;obtain⟨st,d,f⟩:=ag b;exact⟨a,st,d,Hx f⟩
theorem ad8 {N:Nat}{t:FN sk.shs}(h:Wz S N fx sk vals=O t):sk.fxRo=Za/\∃st,rL S N fx sk vals=O st/\Uu sk.shs t=st.ls:=by
 unfold Wz at h;obtain⟨a,b⟩:=ap h;obtain⟨st,d,f⟩:=ag b;exact⟨a,st,d,Hx f⟩
theorem Hi {S:ah}{N:Nat}{fx:List Nat}{vals:List Nat->List VV}{d:XK->Bool}: ∀{l:List Alt} {s:yn l},Al S N fx vals d l=O s->∃p,ab3 l s=O p/\d p.1.x=Za/\Ni S N fx p.1.sk (vals p.1.ts)=O p.2
 |[],s,h=>by cases h
 |[a],s,h=>by
  simp only[Al]at h;cases f:d a.x with
  |false=>rw[f]at h;cases h
  |true=>rw[f]at h;exact⟨⟨a,s⟩,rfl,f,h⟩
 |a::b::r,s,h=>by
  simp only[Al]at h;split at h
  .rename_i t g;injection h with h
   subst h;cases f:d a.x with
   |false=>rw[f]at g;cases g
   |true=>rw[f]at g;exact⟨⟨a,t⟩,rfl,f,g⟩
  .obtain⟨o,j,i⟩:=ag h;injection i with i
   subst i;obtain⟨p,k,m,n⟩:=Hi j;exact⟨p,k,m,n⟩
theorem XK.is_out {x:XK}{y:AExit}(h:x.is y=Za):x.out=y:=by
 cases x<;>cases y<;>simp only[XK.is]at h<;>first|rfl|(cases h;done)|skip
 rename_i i j;rw[show(XK.exit i).out=AExit.exit i from rfl,dB h]
theorem JI {c:Ctx}: ∀{ts:List Nat} {e:cu} {ea:cj} {vs:List VV},ar c e ea->F2 (VRel c) vs (ts.map ea)->ar c (TM e ts vs) ea
 |[],e,ea,vs,a,b=>by
  cases b;exact a
 |t::ts,e,ea,vs,a,b=>by
  cases b with
  |cons f g=>
   have:=JI a g;intro i;simp only[TM,zL];by_cases d:i=t
   .subst d;rw[zE rfl];exact f
   .rw[zF d];exact this i
theorem Hg {as:List Nat}(d:ar c e ea)(f:vI as ea ea'):ar c (uO e as) ea':=by
 intro t;rcases Ba (ts:=as) (e:=e) (t:=t)with h|⟨a,b⟩
 .rw[h];exact .undef _
 .rw[b,f t a];exact d t
theorem Mn {c:Ctx}{e:cu}{ea:cj}(a:ar c e ea): ∀ts:List Nat,F2 (VRel c) (ts.map (mv e)) (ts.map ea)
 |[]=> .nil
 |t::ts=> .cons (a t) (Mn a ts)
theorem Ri {β:Type}{e0:cu}{d:cj}{b:List Nat}{a:List Alt}{s:yn a}{k:AExit->cu->ah->Option β}{y:β}{e':cu}{x:AExit}(J:Rel c)(m:ar c e0 d)(f:Rel c')(L:Within c c1 fx mov)(g:Rel c1)(o:Le c1 c')(r:L0 c.S fx=Za)
  (n:vI b d ea') (l:ar c' e' ea') (K:Al c'.S c.S.length fx (λts=>ts.map (mv e')) (λy=>y.is x) a=O s) (h:ax4 e0 c.S fx mov b a s k=O y):uN c k y x ea' c'.Z:=by
 obtain⟨p,D,E,F⟩:=Hi K;obtain⟨t,st,H,I⟩:=Km F;unfold ax4 at h;rw[QQ,D]at h;simp only[zG]at h;rw[XK.is_out E]at h;unfold GR at h;rw[I]at h;cases j:ud id p.1.sk st.ls with
 |none=>rw[j]at h;cases h
 |some q=>
  obtain⟨vs,fs,bs⟩:=q;rw[j]at h;simp only[Bool.false_or]at h;cases i:zS fx fs (ov fx mov (Fm vs fs bs) 0 c.S)with
  |none=>rw[i]at h;cases h
  |some S2=>
   rw[i]at h;obtain⟨w,z,A,u,B,C⟩:=ay7 J f L g o r t H j (Mn l _) i;refine⟨_,w,z,u,B,JI (Hg (m.frame u) n) C, ?_⟩;rw[A];exact h
theorem UU :uS S (ov fx [] Za 0 S):=by
 refine⟨rj,λk=> ?_⟩;by_cases a:k<S.length
 .rw[ri a];simp only[qm,zD,bD];cases qm k fx with
  |true=>exact .inl rfl
  |false=>exact .inr rfl
 .rw[zQ (by rw[rj];omega),zQ (by omega)];exact .inl rfl
def bh2 (c:Ctx)(e0:cu)(b:cj)(fx mov a:List Nat)(ts:List Nat)(sk:yk)(t:FN sk.shs)(ea:cj)(Z:Hp):Prop:=
 ∃c1 d,c1.Z=Z/\GR e0 c.S fx mov a Za ts sk t=O (d,c1.S)/\Rel c1/\ar c1 d ea/\Within c c1 fx mov/\vI a b ea
theorem Oi {e0 e1:cu}{S1:ah}{a ts:List Nat}{t:FN sk.shs}(h:GR e0 S fx mov a Za ts sk t=O (e1,S1)): ∃vs fs bs S',ud id sk (Uu sk.shs t)=O (vs,fs,bs)/\zS fx fs (ov fx mov Za 0 S)=O S'/\e1=TM (uO e0 a) ts vs/\S1=S'++bs:=by
 unfold GR at h;split at h
 .rename_i vs fs bs g;simp only[Bool.true_or]at h;split at h
  .rename_i S' f;injection h with h
   injection h with b d
   exact⟨vs,fs,bs,S',g,f,b.symm,d.symm⟩
  .cases h
 .cases h
theorem Lp {ops:List (AOper×List Nat)}: ∀{r:List LItem} {it:LItem} {t:Nat},it∈r->bB it.kind 2=Za->(ba ops it.i).dst=O t->t∈Hm ops r
 |a::r,it,t,h,b,d=>by
  simp only[Hm];rcases List.mem_cons.1 h with rfl|h
  .rw[b,zC,d];exact aD
  .have:=Lp h b d;cases bB a.kind 2 with
   |false=>exact this
   |true=>exact List.mem_append.2 (.inr this)
theorem da {α γ:Type}(f:α->Option (α⊕γ))(n:Nat)(a:α):aw f (n+1) a=(f a).bind λs=>bz s (aw f n) O:=rfl
theorem K3 {f:(AExit->cj->Hp->Prop)->cj->Hp->Prop}(d: ∀(Q Q':AExit->cj->Hp->Prop),(∀x e Z,Q x e Z->Q' x e Z)->∀e Z,f Q e Z->f Q' e Z){Q:AExit->cj->Hp->Prop}:
  ∀(n m:Nat) (e:cj) (Z:Hp),n<=m->od f Q n e Z->od f Q m e Z
 |0,_,_,_,_,h=>h.elim
 |n+1,0,_,_,a,_=>absurd a (Nat.not_succ_le_zero _)
 |n+1,m+1,e,Z,a,h=>by
  simp only[od]at h⊢;refine d _ _ (λx g Z' b=> ?_) e Z h;cases x with
  |normal=>exact K3 d n m g Z' (Nat.le_of_succ_le_succ a) b
  |exit id=>exact b
  |ret=>exact b
theorem Jt {b:AC}(f: ∀(at':AT) {β:Type} {y:β} {c:Ctx} {e:cu} {ea:cj} {k:AExit->cu->ah->Option β},Rel c->ar c e ea->eval tab b at' β e c.S k=O y->yd (gu tab) b (uN c k y) ea c.Z):
  ∀(at':AT) {β:Type} {y:β} {c:Ctx} {e:cu} {ea:cj} {k:AExit->cu->ah->Option β},Rel c->ar c e ea->NH (eval tab b) at' β e c.S k=O y->od (yd (gu tab) b) (uN c k y) at'.rounds ea c.Z
 | .n l r,β,y,c,e,ea,k,a,d,h=>by
  simp only[NH]at h;have u:=f l a d h;simp only[AT.rounds,od];refine fg (bi tab) b _ _ (λx ea' Z' A=> ?_) ea c.Z u;obtain⟨q,c',w,g,j,o,p⟩:=A;subst w;cases x with
  |normal=>exact CM (fg (bi tab) b) (λx s Z'' z=>tI.of g z) _ _ _ (Jt f r j o p)
  |exit i=>exact⟨q,c',rfl,g,j,o,p⟩
  |ret=>exact⟨q,c',rfl,g,j,o,p⟩
 | .sz m l r,β,y,c,e,ea,k,a,d,h=>by
  simp only[NH]at h;simp only[AT.rounds];cases t:bB m c.S.length with
  |true=>
   rw[t]at h;exact K3 (fg (bi tab) b) _ _ _ _ (Nat.le_add_right _ _) (Jt f l a d h)
  |false=>
   rw[t]at h;exact K3 (fg (bi tab) b) _ _ _ _ (Nat.le_add_left _ _) (Jt f r a d h)
 | .no,_,_,_,_,_,_,_,_,h=>by cases h
 | .lp _ _ _ _,_,_,_,_,_,_,_,_,h=>by cases h
 | .jn _ _ _ _ _,_,_,_,_,_,_,_,_,h=>by cases h
 | .dr _,_,_,_,_,_,_,_,_,h=>by cases h
 | .all,_,_,_,_,_,_,_,_,h=>by cases h
theorem Tk {b:AC}(m: ∀{β:Type} {y:β} {c:Ctx} {e:cu} {ea:cj} {k:AExit->cu->ah->Option β},Rel c->ar c e ea->eval tab b .all β e c.S k=O y->yd (gu tab) b (uN c k y) ea c.Z):
  ∀(n:Nat) {β:Type} {y:β} {c:Ctx} {e:cu} {ea:cj} {k:AExit->cu->ah->Option β},Rel c->ar c e ea->ah0 (eval tab b .all) n β e c.S k=O y->od (yd (gu tab) b) (uN c k y) n ea c.Z
 |0,_,_,_,_,_,_,_,_,h=>by cases h
 |n+1,β,y,c,e,ea,k,q,r,h=>by
  have o:=m q r (show eval tab b .all β e c.S (λx a S'=>match x with
   | .normal=>ah0 (eval tab b .all) n β a S' k
   |x=>k x a S')=O y from h)
  simp only[od];refine fg (bi tab) b _ _ (λx ea' Z' t=> ?_) ea c.Z o;obtain⟨a,c',p,d,f,g,j⟩:=t;subst p;cases x with
  |normal=>exact CM (fg (bi tab) b) (λx l Z'' s=>tI.of d s) _ _ _ (Tk m n f g j)
  |exit i=>exact⟨a,c',rfl,d,f,g,j⟩
  |ret=>exact⟨a,c',rfl,d,f,g,j⟩
theorem sO : ∀(ac:AC) (at':AT) {β:Type} {y:β} {c:Ctx} {e:cu} {ea:cj} {k:AExit->cu->ah->Option β},Rel c->ar c e ea->eval tab ac at' β e c.S k=O y->yd (gu tab) ac (uN c k y) ea c.Z
 | .skip,_,_,_,c,e,ea,k,f,d,h=>⟨e,c,rfl,Le.refl c,f,d,h⟩
 | .exit i,_,_,_,c,e,ea,k,f,d,h=>⟨e,c,rfl,Le.refl c,f,d,h⟩
 | .ret,_,_,_,c,e,ea,k,f,d,h=>⟨e,c,rfl,Le.refl c,f,d,h⟩
 | .region ops,_,_,_,c,e,ea,k,f,d,h=>Nm f d h
 | .sched its,_,_,_,c,e,ea,k,f,d,h=>Iq f d .nil h
 | .draw ops,at',_,y,c,e,ea,k,f,d,h=>by
  simp only[eval]at h;split at h
  .rename_i L _;obtain⟨N,h⟩:=ap h;rw[aB]at N;refine Nl f ops.length (pd:=λ_=>0) N.1 ⟨Le.refl c,f,Hg d (vI.refl _ ea), .nil,rfl,rfl,λb=>⟨.inl,λh=> ?_⟩,List.nodup_nil,(λ_ _ h=>by cases h),(λ_ h=>by cases h),(λ_ h=>by cases h),λit hit V t P=> ?_,N.2⟩ h
   .rcases h with h|⟨_,h,_⟩
    .exact h
    .cases h
   .rcases @Ba (Hm ops (CA ops L L [])) e t with h1|⟨h1,_⟩
    .exact h1
    .exact(h1 (Lp hit V P)).elim
  .cases h
 | .seq a b,at',β,y,c,e,ea,k,f,d,h=>by
  have K: ∀l r,(eval tab a l β e c.S λx B S'=>match x with
    | .normal=>eval tab b r β B S' k
    |x=>k x B S')=O y->yd (gu tab) (.seq a b) (uN c k y) ea c.Z:=by
   intro l r h1;refine fg (bi tab) a _ _ (λx ea' Z' hx=> ?_) ea c.Z (sO a l f d h1);obtain⟨B,c',h2,A,E,F,w⟩:=hx;subst h2;cases x with
   |normal=>exact fg (bi tab) b _ _ (λx ea'' Z'' X=>tI.of A X) _ _ (sO b r E F w)
   |exit i=>exact⟨B,c',rfl,A,E,F,w⟩
   |ret=>exact⟨B,c',rfl,A,E,F,w⟩
  simp only[eval]at h;split at h
  .rename_i fx mov D l r _;obtain⟨N,h⟩:=ap h;rw[aB]at N;obtain⟨s,h1,h2⟩:=ag h;have u:uS c.S (ov (fx++mov) [] Za 0 c.S):=UU;have hR1:Rel ⟨c.μ,ov (fx++mov) [] Za 0 c.S,c.Z,c.fb⟩:=u.rel f
   have hw:Within c ⟨c.μ,ov (fx++mov) [] Za 0 c.S,c.Z,c.fb⟩ fx mov:=by
    refine⟨u.le,λq hq hn W=> ?_,λ_ _ _ _ _ _ _ _ hy=>hy⟩;show ad (ov (fx++mov) [] Za 0 c.S) q=_;rw[ri hq];simp only[qm,zD,bD];rcases W with W|hz
    .rw[oz (by simp[hn,W])];rfl
    .cases qm q (fx++mov)with
     |true=>exact(DI hz).symm
     |false=>rfl
   have A:=zW (bi tab) (as:=qk a) (e0:=ea) a N.2 (λt P=>P) (vI.refl _ ea) (sO a l (c:=⟨c.μ,ov (fx++mov) [] Za 0 c.S,c.Z,c.fb⟩) hR1 (d.frame u.le) h1);refine fg (bi tab) a _ _ (λx ea' Z' hx=> ?_) ea c.Z A;obtain⟨V,B,c',E,F,w,h7,h8⟩:=hx;subst E;have M:=Ri f d w hw hR1 F N.1 V h7 h8 h2;cases x with
   |normal=>
    obtain⟨C,c2,g1,g2,g3,g4,g5⟩:=M;rw[<-g1];exact fg (bi tab) b _ _ (λx ea'' Z'' X=>tI.of g2 X) _ _ (sO b r g3 g4 g5)
   |exit i=>exact M
   |ret=>exact M
  .exact K _ _ h
  .exact K _ _ h
 | .cond t a b,at',β,y,c,e,ea,k,f,d,h=>by
  simp only[eval]at h;split at h
  .rename_i p X;have P:=bl d t;rw[X]at P;have P:=P.bool_inv
   have U: ∀(Q C:cu) (l r:AT),ar c Q ea∨p=Zb->ar c C ea∨p=Za->cond p (eval tab a l β Q c.S k) (eval tab b r β C c.S k)=O y->yd (gu tab) (.cond t a b) (uN c k y) ea c.Z:=by
    intro Q C l r h1 h2 A;simp only[yd,P];cases p with
    |true=>
     rcases h1 with h1|h1
     .exact sO a l f h1 A
     .cases h1
    |false=>
     rcases h2 with h2|h2
     .exact sO b r f h2 A
     .cases h2
   have pb: ∀(i:Nat),t= .tmp i->(ar c (ui e i (.bool Za)) ea∨p=Zb)/\(ar c (ui e i (.bool Zb)) ea∨p=Za):=by
    intro i hi;subst hi;have:=TL d X;cases p with
    |true=>exact⟨.inl this, .inr rfl⟩
    |false=>exact⟨.inr rfl, .inl this⟩
   split at h
   .exact U _ _ _ _ (pb _ rfl).1 (pb _ rfl).2 h
   .exact U _ _ _ _ (pb _ rfl).1 (pb _ rfl).2 h
   .exact U _ _ _ _ (.inl d) (.inl d) h
   .exact U _ _ _ _ (.inl d) (.inl d) h
  .cases h
 | .block id b,at',β,y,c,e,ea,k,f,d,h=>by
  simp only[eval]at h;refine fg (bi tab) b _ _ (λx ea' Z' hx=> ?_) ea c.Z (sO b _ f d h);obtain⟨B,c',h2,A,E,F,w⟩:=hx;cases x with
  |normal=>exact⟨B,c',h2,A,E,F,w⟩
  |ret=>exact⟨B,c',h2,A,E,F,w⟩
  |exit i=>
   simp only at w⊢;cases hi:bB i id with
   |true=>
    rw[hi]at w;rw[zE (dB hi)];exact⟨B,c',h2,A,E,F,w⟩
   |false=>
    rw[hi]at w;rw[zF (λe=>by rw[e,Nat.beq_refl]at hi;cases hi)];exact⟨B,c',h2,A,E,F,w⟩
 | .loop b,at',β,y,c,e,ea,k,f,d,h=>by
  simp only[eval]at h;split at h
  .rename_i fx head D l _;have u:=S7 c.S.length head.sk.free head.sk.vals (head.ts.map (mv e)) c.S;refine fg (bi tab) (.loop b) _ _ (λx ea' Z' X=>tI.of u.le X) ea c.Z ?_;replace f:=u.rel f;replace d:=d.frame u.le;generalize ax0 c.S.length head.sk.free head.sk.vals (head.ts.map (mv e)) c.S=S1 at h f d u⊢;clear u;generalize hc:(⟨c.μ,S1,c.Z,c.fb⟩:Ctx)=c1 at f d⊢;have Q:S1=c1.S:=by rw[<-hc]
   have C:c.Z=c1.Z:=by rw[<-hc]
   rw[C];rw[Q]at h;clear Q C hc;revert h d f;revert c1;intro c h f d;obtain⟨N,h⟩:=ap h;rw[aB,aB]at N;obtain⟨⟨g1,g2⟩,g3⟩:=N;split at h
   .rename_i st hd;obtain⟨t0,h1,h⟩:=ag h;obtain⟨s,h2,A⟩:=ag h
    have round: ∀(n:Nat) (t:FN head.sk.shs) (H:cj) (Z1:Hp),bh2 c e ea fx (sY st.m) (qk b) head.ts head.sk t H Z1->aw (λt=>match GR e c.S fx (sY st.m) (qk b) Za head.ts head.sk t with
      |some (Q,S1)=>eval tab b l (FN head.sk.shs⊕yn D) Q S1 λx B S'=>(match x with
       | .normal=>(Wz S' c.S.length fx head.sk (head.ts.map (mv B))).bind λt=>O (.inl t)
       |x=>(Al S' c.S.length fx (λts=>ts.map (mv B)) (λy=>y.is x) D).bind λs=>O (.inr s))
      |none=>Y) n t=O s->od (yd (gu tab) b) (uN c k y) n H Z1:=by
     intro n;induction n with
     |zero=>intro t H Z1 _ hl;cases hl
     |succ n ih=>
      intro t H Z1 hH hl;rw[da]at hl;obtain⟨z,hl1,j⟩:=ag hl;obtain⟨c1,Q,q1,q2,q3,q4,q5,q6⟩:=hH;subst q1;rw[q2]at hl1;simp only at hl1;have E:=zW (bi tab) (as:=qk b) (e0:=ea) b g3 (λt P=>P) q6 (sO b l q3 q4 hl1);simp only[od];refine fg (bi tab) b _ _ (λx ea' Z' hx=> ?_) H c1.Z E;obtain⟨V,B,c',F,w,h7,h8,M⟩:=hx;subst F;cases x with
      |normal=>
       simp only at M⊢;obtain⟨t',I,o⟩:=ag M;injection o with o
       subst o;simp only[bz]at j;refine ih t' ea' c'.Z ?_ j;obtain⟨hro,st',h12,h13⟩:=ad8 I
       have g: ∃C S2,GR e c.S fx (sY st.m) (qk b) Za head.ts head.sk t'=O (C,S2):=by
        cases n with
        |zero=>cases j
        |succ n=>
         rw[da]at j;obtain⟨z',J,_⟩:=ag j;cases hz:GR e c.S fx (sY st.m) (qk b) Za head.ts head.sk t' with
         |none=>rw[hz]at J;cases J
         |some q=>exact⟨q.1,q.2,rfl⟩
       obtain⟨C,S2,g⟩:=g;obtain⟨vs,fs,bs,S3,r1,r2,r3,r4⟩:=Oi g;rw[h13]at r1;obtain⟨ct,u1,u2,u3,u4,u5,u6,u7,u8⟩:=leave f h7 q5 q3 w g2 hro h12 r1 (Mn h8 _) r2;refine⟨ct,C,u1,by rw[g,r4,u2],u6, ?_,Qp u5 r2 u2 λq hq hn W T b' y' hb hy=> ?_,V⟩
       .rw[r3];exact JI (Hg (d.frame u5) V) u7
       .refine(u8 q hq hn ?_).2 b' y' hb hy;obtain⟨v1,v2,v3,_⟩:=pn r2;rw[rj]at v2;rw[u2,rP (by rw[v2];exact hq),v3 q hn,ri hq,bD,oz hn];rcases W with W|hz
        .rw[oz W,zD,zD,zC,gy];exact T
        .rw[hz];cases qm q (sY st.m)with
         |true=>exact T
         |false=>rw[zD,zD,zC,gy];exact T
      |exit i=>
       simp only at M⊢;obtain⟨s',I,o⟩:=ag M;injection o with o
       subst o;simp only[bz]at j;injection j with j
       subst j;exact Ri f d h7 q5 q3 w g2 V h8 I A
      |ret=>
       simp only at M⊢;obtain⟨s',I,o⟩:=ag M;injection o with o
       subst o;simp only[bz]at j;injection j with j
       subst j;exact Ri f d h7 q5 q3 w g2 V h8 I A
    refine⟨gv,round gv t0 ea c.Z ?_ h2⟩
    have g: ∃C S2,GR e c.S fx (sY st.m) (qk b) Za head.ts head.sk t0=O (C,S2):=by
     have hb:gv=(gv-1)+1:=rfl;rw[hb,da]at h2;obtain⟨z',J,_⟩:=ag h2;cases hz:GR e c.S fx (sY st.m) (qk b) Za head.ts head.sk t0 with
     |none=>rw[hz]at J;cases J
     |some q=>exact⟨q.1,q.2,rfl⟩
    obtain⟨C,S2,g⟩:=g;obtain⟨vs,fs,bs,S3,r1,r2,r3,r4⟩:=Oi g;rw[Hx h1]at r1;obtain⟨ct,u1,u2,u3,u4,u5,u6,u7⟩:=X2 f g2 g1 hd r1 (Mn d _) r2;refine⟨ct,C,u1,by rw[g,r4,u2],u6, ?_,Qp u5 r2 u2 λq hq hn W T b' y' hb hy=>by rw[u1];exact hy,vI.refl _ _⟩;rw[r3];exact JI (Hg (d.frame u5) (vI.refl _ _)) u7
   .cases h
  .exact⟨_,Tk (λf d h=>sO b .all f d h) _ f d h⟩
  .exact⟨_,Jt (λat'' {β y c e ea k} f d h=>sO b at'' f d h) at' f d h⟩
end
end
end Go.V
