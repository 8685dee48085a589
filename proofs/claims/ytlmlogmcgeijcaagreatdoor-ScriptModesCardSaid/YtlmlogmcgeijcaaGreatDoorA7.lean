/- A part of the proof. No condition. -/
import Derived.Test.YtlmlogmcgeijcaaGreatDoorA6
set_option linter.unusedVariables false
set_option linter.unusedSimpArgs false
set_option linter.unusedSectionVars false
namespace Go.V
open Go.Ab
open Option renaming some->O,none->Y
open Bool renaming true->Za,false->Zb
open Decidable renaming decide->Zc
variable {st st' stf:DSt}{N i j k:Nat}{c c' ct:Ctx}{fx l mov:List Nat}{sk:ui}{vals vs:List VV}{as:List Value}{bs fs:List Blk}{a:Value}{x:Option Src}{o:OSk}{s:Sh}{b:Blk}{m:List (Option Src)}{S':ai}
section
open Bool renaming and_eq_true -> cB
open List renaming append_assoc -> aD, singleton_append -> bD, mem_cons_of_mem -> cD, getElem?_eq_none -> cL, length_take -> cM, take_of_length_le -> cN
open Nat renaming beq -> aB, eq_of_beq_eq_true -> bB, lt_or_ge -> cK
structure Still (c ct:Ctx):Prop where
 Z:ct.Z=c.Z
 nm: ∀b y,c.Z.m b=O y->¬c.mut b->¬ct.mut b
section
variable {c ct:Ctx}
theorem qB (h:Still c ct): ∀(s:Sh) (x:El s) (as:List Value),F2 (VRel c) (dq s x) as->F2 (VRel ct) (dq s x) as
 | .int k,n,as,d=>by
  cases d with
  |cons e f=>cases f;cases e;exact .cons (.int _ _) .nil
 | .bool,b,as,d=>by
  cases d with
  |cons e f=>cases f;cases e;exact .cons (.bool _) .nil
 | .str,l,as,d=>by
  cases d with
  |cons e f=>cases f;cases e;exact .cons (.str (by assumption)) .nil
 | .list s,l,as,d=>by
  cases d with
  |cons e f=>
   cases f;refine .cons ?_ .nil;cases e with
   |lstn E=>exact .lstn E
   |lst B t A v w z g=>
    refine .lst (h.nm _ _ t B) (by rw[h.Z];exact t) A v w z ?_;clear t A w z B;subst v;revert g;rename_i b p D y;generalize (y.cells.drop _).take _=as;clear y D p b;intro g;induction l generalizing as with
    |nil=>cases g;exact .nil
    |cons x l F=>
     rw[gf]at g⊢;obtain⟨u,C,rfl,q,r⟩:=F2.app_left g;exact(qB h s x u q).append (F _ r)
 | .pair a b,x,as,d=>by
  simp only[dq]at d⊢;obtain⟨u,C,rfl,q,r⟩:=F2.app_left d;exact(qB h a x.1 u q).append (qB h b x.2 C r)
theorem IW (h:Still c ct){l:List (El s)}: ∀{as:List Value},F2 (VRel c) (ff s l) as->F2 (VRel ct) (ff s l) as:=by
 induction l with
 |nil=>intro as d;cases d;exact .nil
 |cons x l g=>
  intro as d;rw[gf]at d⊢;obtain⟨n,p,rfl,e,f⟩:=F2.app_left d;exact(qB h s x n e).append (g f)
theorem xU.still (h:Still c ct){l:List (El s)}(t:xU c s l a):xU ct s l a:=by
 rcases t with d|⟨b,p,e,y,d,f,g,n,q,r⟩
 .exact .inl d
 .exact .inr ⟨b,p,e,y,d,by rw[h.Z];exact f,g,n,q,IW h r⟩
structure Sub (st st':DSt):Prop where
 m: ∃t,st'.m=st.m++t
 lent: ∀k∈st.lent,k∈st'.lent
theorem Sub.refl (st:DSt):Sub st st:=⟨⟨[],by simp⟩,λ_ h=>h⟩
theorem Sub.trans {a b d:DSt}(h:Sub a b)(k:Sub b d):Sub a d:=by
 obtain⟨t,e⟩:=h.m;obtain⟨u,f⟩:=k.m;exact⟨⟨t++u,by rw[f,e,aD]⟩,λi g=>k.lent i (h.lent i g)⟩
def Dm (N:Nat)(m:List (Option Src))(j:Nat)(x:Option Src):Prop:=(j<N/\x=O ⟨j,Y⟩)∨(N<=j/\nth m (j-N)=O x)
theorem GZ {α:Type}{l t:List α}{x:α}(h:nth l i=O x):nth (l++t) i=O x:=by
 rw[we]at h⊢
 have d:i<l.length:=by
  rcases cK i l.length with h1|h1
  .exact h1
  .rw[cL h1]at h;cases h
 rw[List.getElem?_append_left d];exact h
theorem Dm.sub (g:Sub st st')(h:Dm N st.m j x):Dm N st'.m j x:=by
 rcases h with h|⟨d,e⟩
 .exact .inl h
 .obtain⟨t,f⟩:=g.m;exact .inr ⟨d,by rw[f];exact GZ e⟩
theorem zq (h:st.link N j x=O st'):Dm N st'.m j x/\st'.ls=st.ls/\st'.lent=st.lent/\Sub st st':=by
 unfold DSt.link at h;cases e:Nat.blt j N with
 |true=>
  rw[e,zC]at h;split at h
  .rename_i k;cases d:aB k j with
   |false=>rw[d]at h;cases h
   |true=>
    rw[d]at h;injection h with h
    subst h;have:=bB d;subst this;exact⟨.inl ⟨Nat.le_of_ble_eq_true e,rfl⟩,rfl,rfl,Sub.refl _⟩
  .cases h
 |false=>
  rw[e,zD]at h
  have f:N<=j:=by
   rcases cK j N with h1|h1
   .rw[show Nat.blt j N=Za from Nat.ble_eq_true_of_le h1]at e;cases e
   .exact h1
  split at h
  .rename_i k g;split at h
   .rename_i n;cases d:aB k n with
    |false=>rw[d]at h;cases h
    |true=>
     rw[d]at h;injection h with h
     subst h;have:=bB d;subst this;exact⟨.inr ⟨f,g⟩,rfl,rfl,Sub.refl _⟩
   .cases h
  .cases h
  .rename_i g;cases d:aB (j-N) st.m.length with
   |false=>rw[d]at h;cases h
   |true=>
    rw[d]at h;injection h with h
    subst h;have:=bB d;refine⟨.inr ⟨f, ?_⟩,rfl,rfl,⟨⟨[x],rfl⟩,λ_ h=>h⟩⟩;rw[we,this];simp
def Lk (c ct:Ctx)(x:Option Src)(f:Nat):Prop:=f<ct.S.length/\∀e,(ae ct.S f).dim=O e->match x with
 |none=>e.2=0/\ct.μ f=Y
 |some ⟨k,g⟩=> ∃d,(ae c.S k).dim=O d/\e.1=d.1/\ct.μ f=c.μ k/\(match g with
  |none=>e.2=d.2
  |some n=>e.2=min (n*d.1) d.2)
structure Tell (c ct:Ctx)(N:Nat)(f:Nat->Nat)(stf:DSt):Prop extends Still c ct where
 lk: ∀j x,Dm N stf.m j x->Lk c ct x (f j)
 lent: ∀k,k∈stf.lent->(ae c.S k).dim≠Y->∀b,c.μ k=O b->¬ct.mut b
theorem Ga.tell {t n:Nat}{d:Nat×Nat}{d2':Nat}(z:ct.Z=c.Z)(r:ct.μ t=c.μ k)(g:d2'=n*d.1)(h:Ga c k 0 n d a):Ga ct t 0 n (d.1,d2') a:=by
 rcases h with⟨f,_,e,p,q⟩|⟨b,u,y,f,e,p,q,v,w⟩
 .exact .inl ⟨f,rfl,e,r.trans p,by rw[g,e];simp⟩
 .exact .inr ⟨b,u,y,f,r.trans e,by rw[g,Nat.zero_add];exact Nat.le_refl _,q,by rw[z];exact v,w⟩
theorem VD {f:Nat->Nat}(E:dv c)(r:Tell c ct N f stf){v:VV}{l:List (El s)}(h:Uw c.S s v=O l)(H:VRel c v a)(F: ∀k,H7 v=O k->k∈stf.lent):VRel ct (.lst s l) a:=by
 obtain⟨t,B⟩:=Yc E h H;refine(t.still r.toStill).rel λb p n w e u=> ?_
 rcases B b p n w e u with g|⟨k,g,C,D⟩
 .rcases t with⟨q,d,_⟩|⟨I,J,z,y,d,A,_⟩
  .rw[d]at e;injection e with _ _ e
   exact(u e.symm).elim
  .rw[d]at e;injection e with e _ _
   injection e with e
   injection e with e
   subst e;exact r.nm _ _ A g
 .exact r.lent k (F k g) C b D
theorem No {st:DSt}{v:VV}:(∀k,H7 v=O k->k∈(st.lend v).lent)/\(st.lend v).m=st.m/\(st.lend v).ls=st.ls/\(∀k∈st.lent,k∈(st.lend v).lent):=by
 cases v<;>refine⟨λk h=> ?_,rfl,rfl,λk h=> ?_⟩<;>first|(cases h;done)|(injection h with h;subst h;exact List.mem_cons_self)|exact cD _ h|exact h
mutual
theorem ag5 {S:ai}{N:Nat}: ∀(sk:Sk) (v:VV) (st st1:DSt),HO S N sk v st=O st1->Sub st st1
 | .undef,v,st,st1,h=>by
  simp only[HO]at h;injection h with h;subst h;exact Sub.refl _
 | .leaf s,v,st,st1,h=>by
  simp only[HO]at h;split at h
  .rename_i k k' n;cases hk:Zc (k'=k)with
   |false=>rw[hk]at h;cases h
   |true=>rw[hk]at h;injection h with h;subst h;exact⟨⟨[],by simp[DSt.push]⟩,λ_ h=>h⟩
  .injection h with h;subst h;exact⟨⟨[],by simp[DSt.push]⟩,λ_ h=>h⟩
  .injection h with h;subst h;exact⟨⟨[],by simp[DSt.push]⟩,λ_ h=>h⟩
  .rename_i s;obtain⟨l,h1,h2⟩:=ah h;injection h2 with h2;subst h2
   obtain⟨_,h4,_,h6⟩:= @No st v;exact⟨⟨[],by simp[DSt.push,h4]⟩,h6⟩
  .cases h
 | .cint k n,v,st,st1,h=>by
  cases v<;>simp only[HO]at h<;>try(cases h;done)
  rename_i k' n';cases hk:(Zc (k'=k)&&Zc (n'=n))with
  |false=>rw[hk]at h;cases h
  |true=>rw[hk]at h;injection h with h;subst h;exact Sub.refl _
 | .nilp,v,st,st1,h=>by
  cases v<;>simp only[HO]at h<;>try(cases h;done)
  injection h with h;subst h;exact Sub.refl _
 | .nils,v,st,st1,h=>by
  cases v<;>simp only[HO]at h<;>try(cases h;done)
  injection h with h;subst h;exact Sub.refl _
 | .nilf,v,st,st1,h=>by
  cases v<;>simp only[HO]at h<;>try(cases h;done)
  injection h with h;subst h;exact Sub.refl _
 | .ptr j o,v,st,st1,h=>by
  cases v<;>simp only[HO]at h<;>try(cases h;done)
  rename_i k o';cases hk:aB o o' with
  |false=>rw[hk]at h;cases h
  |true=>rw[hk,zC]at h;exact(zq h).2.2.2
 | .full j,v,st,st1,h=>by
  simp only[HO]at h;split at h
  .exact(zq h).2.2.2
  .exact(zq h).2.2.2
  .exact(zq h).2.2.2
  .cases h
 | .pin s o,v,st,st1,h=>by
  cases v<;>simp only[HO]at h<;>try(cases h;done)
  rename_i s' x o';cases hk:aB o o' with
  |false=>rw[hk]at h;cases h
  |true=>
   rw[hk]at h;obtain⟨y,h1,h2⟩:=ah h;injection h2 with h2;subst h2;exact⟨⟨[],by simp[DSt.push]⟩,λ_ h=>h⟩
 | .fn g a b,v,st,st1,h=>by
  cases v<;>simp only[HO]at h<;>try(cases h;done)
  rename_i g' a' b';cases hk:aB g g' with
  |false=>rw[hk]at h;cases h
  |true=>
   rw[hk]at h;obtain⟨st2,h1,h2⟩:=ah h;exact(tc a a' st st2 h1).trans (tc b b' st2 st1 h2)
 | .agg l,v,st,st1,h=>by
  cases v<;>simp only[HO]at h<;>try(cases h;done)
  exact tc l _ st st1 h
 | .tup l,v,st,st1,h=>by
  cases v<;>simp only[HO]at h<;>try(cases h;done)
  exact tc l _ st st1 h
theorem tc {S:ai}{N:Nat}: ∀(l:List Sk) (vs:List VV) (st st1:DSt),FP S N l vs st=O st1->Sub st st1
 |[],vs,st,st1,h=>by
  cases vs<;>simp only[FP]at h<;>try(cases h;done)
  injection h with h;subst h;exact Sub.refl _
 |k::r,vs,st,st1,h=>by
  cases vs with
  |nil=>simp only[FP]at h;cases h
  |cons v vs=>
   simp only[FP]at h;obtain⟨st2,h1,h2⟩:=ah h;exact(ag5 k v st st2 h1).trans (tc r vs st2 st1 h2)
end
theorem VQ {f:Nat->Nat}(r:Tell c ct N f stf)(A:Dm N stf.m j (O ⟨k,Y⟩))(C:VRel c (.full k) a):VRel ct (.full (f j)) a:=by
 obtain⟨t,u⟩:=r.lk _ _ A;cases C with
 |full D B z=>
  refine .full t B λh g=> ?_
  obtain⟨d,v,p,w,e⟩:=u h g;obtain⟨n,q,y⟩:=z d v;simp only at e;refine⟨n,by rw[p,e];exact q, ?_⟩;have:=y.tell r.Z w (d2':=h.2) (by rw[e,q]);rw[<-p]at this;exact this
theorem XI {f:Nat->Nat}(t:Tell c ct N f stf){n:Nat}(A:Dm N stf.m j (O ⟨k,O n⟩))(C:VRel c (.part k 0 n) a):VRel ct (.full (f j)) a:=by
 obtain⟨v,w⟩:=t.lk _ _ A;cases C with
 |part D B u=>
  refine .full v B λp h=> ?_
  obtain⟨d,q,r,y,g⟩:=w p h;simp only at g
  have z:n*d.1<=d.2:=by
   rcases u d q with⟨_,_,e,_,_⟩|⟨_,_,_,_,_,e,_⟩
   .rw[e];simp
   .rwa [Nat.zero_add]at e
  rw[Nat.min_eq_left z]at g;refine⟨n,by rw[r,g], ?_⟩;have:=(u d q).tell t.Z y (d2':=p.2) g;rw[<-r]at this;exact this
theorem Yt {f:Nat->Nat}(q:Tell c ct N f stf)(r:Dm N stf.m j Y):VRel ct (.full (f j)) (.slice Y 0 0):=by
 obtain⟨h,n⟩:=q.lk _ _ r;refine .full h rfl λg d=> ?_
 obtain⟨e,p⟩:=n g d;exact⟨0,by rw[e];simp, .inl ⟨rfl,rfl,rfl,p,e⟩⟩
mutual
theorem ag6 {N:Nat}{f:Nat->Nat}{stf:DSt}(hR:dv c)(hT:Tell c ct N f stf): ∀(sk:Sk) (v:VV) (st st1:DSt) (a:Value),HO c.S N sk v st=O st1->Sub st1 stf->VRel c v a->
  ∃new,st1.ls=st.ls++new/\∀rest,∃v',enc f sk (new++rest)=O (v',rest)/\VRel ct v' a
 | .undef,v,st,st1,a,h,hs,hv=>by
  simp only[HO]at h;injection h with h;subst h
  exact⟨[],by simp,λrest=>⟨.undef,by simp[enc], .undef _⟩⟩
 | .leaf s,v,st,st1,a,h,hs,hv=>by
  simp only[HO]at h;split at h
  .rename_i k k' n;cases hk:Zc (k'=k)with
   |false=>rw[hk]at h;cases h
   |true=>
    rw[hk]at h;injection h with h;subst h
    have:=of_decide_eq_true hk;subst this;refine⟨[⟨.int k',n⟩],rfl,λrest=>⟨.int k' n, ?_, ?_⟩⟩
    .simp only[bD,enc,jY,zG]
    .rw[hv.int_inv];exact .int _ _
  .rename_i b;injection h with h;subst h
   refine⟨[⟨.bool,b⟩],rfl,λrest=>⟨.bool b, ?_, ?_⟩⟩
   .simp only[bD,enc,jY,zG]
   .rw[hv.bool_inv];exact .bool _
  .rename_i l;injection h with h;subst h
   refine⟨[⟨.str,l⟩],rfl,λrest=>⟨.str l, ?_, ?_⟩⟩
   .simp only[bD,enc,jY,zG]
   .obtain⟨s,h1,h2⟩:=hv.str_inv;rw[h1];exact .str h2
  .rename_i s;obtain⟨l,h1,h2⟩:=ah h;injection h2 with h2;subst h2
   obtain⟨h3,h4,h5,h6⟩:= @No st v;refine⟨[⟨.list s,l⟩],by simp[DSt.push,h5],λrest=>⟨.lst s l, ?_, ?_⟩⟩
   .simp only[bD,enc,jY,zG]
   .exact VD hR hT h1 hv λk hk=>hs.lent k (h3 k hk)
  .cases h
 | .cint k n,v,st,st1,a,h,hs,hv=>by
  cases v<;>simp only[HO]at h<;>try(cases h;done)
  rename_i k' n';cases hk:(Zc (k'=k)&&Zc (n'=n))with
  |false=>rw[hk]at h;cases h
  |true=>
   rw[hk]at h;injection h with h;subst h
   rw[cB]at hk;have e1:=of_decide_eq_true hk.1;have e2:=of_decide_eq_true hk.2;subst e1;subst e2;refine⟨[],by simp,λrest=>⟨.int k' n',by simp[enc], ?_⟩⟩;rw[hv.int_inv];exact .int _ _
 | .nilp,v,st,st1,a,h,hs,hv=>by
  cases v<;>simp only[HO]at h<;>try(cases h;done)
  injection h with h;subst h
  cases hv;exact⟨[],by simp,λrest=>⟨.nilp,by simp[enc], .nilp⟩⟩
 | .nils,v,st,st1,a,h,hs,hv=>by
  cases v<;>simp only[HO]at h<;>try(cases h;done)
  injection h with h;subst h
  cases hv;exact⟨[],by simp,λrest=>⟨.nils,by simp[enc], .nils⟩⟩
 | .nilf,v,st,st1,a,h,hs,hv=>by
  cases v<;>simp only[HO]at h<;>try(cases h;done)
  injection h with h;subst h
  cases hv;exact⟨[],by simp,λrest=>⟨.nilf,by simp[enc], .nilf⟩⟩
 | .ptr j o,v,st,st1,a,h,hs,hv=>by
  cases v<;>simp only[HO]at h<;>try(cases h;done)
  rename_i k o';cases hk:aB o o' with
  |false=>rw[hk]at h;cases h
  |true=>
   rw[hk,zC]at h;have:=bB hk;subst this;obtain⟨h1,h2,h3,h4⟩:=zq h;obtain⟨h5,h6⟩:=hT.lk _ _ (h1.sub hs);refine⟨[],by simp[h2],λrest=>⟨.ptr (f j) o,by simp[enc], ?_⟩⟩;cases hv with
   |ptr hk ho hd=>
    refine .ptr h5 ho λd' hd'=> ?_
    obtain⟨d,h7,_,h8,_⟩:=h6 d' hd';obtain⟨b,h9,h10⟩:=hd d h7;exact⟨b,h8.trans h9,h10⟩
 | .full j,v,st,st1,a,h,hs,hv=>by
  simp only[HO]at h;split at h
  .obtain⟨h1,h2,h3,h4⟩:=zq h;exact⟨[],by simp[h2],λrest=>⟨.full (f j),by simp[enc],VQ hT (h1.sub hs) hv⟩⟩
  .obtain⟨h1,h2,h3,h4⟩:=zq h;exact⟨[],by simp[h2],λrest=>⟨.full (f j),by simp[enc],XI hT (h1.sub hs) hv⟩⟩
  .obtain⟨h1,h2,h3,h4⟩:=zq h;cases hv;exact⟨[],by simp[h2],λrest=>⟨.full (f j),by simp[enc],Yt hT (h1.sub hs)⟩⟩
  .cases h
 | .pin s o,v,st,st1,a,h,hs,hv=>by
  cases v<;>simp only[HO]at h<;>try(cases h;done)
  rename_i s' x o';cases hk:aB o o' with
  |false=>rw[hk]at h;cases h
  |true=>
   rw[hk,zC]at h;have:=bB hk;subst this;obtain⟨y,h1,h2⟩:=ah h;obtain⟨ee,h3⟩:=lG h1;cases ee;subst h3;injection h2 with h2;subst h2
   refine⟨[⟨s,y⟩],rfl,λrest=>⟨.pin s y o, ?_, ?_⟩⟩
   .simp only[bD,enc,jY,zG]
   .cases hv with
    |pin hn hy hl hf=>exact .pin (hT.nm _ _ hy hn) (by rw[hT.Z];exact hy) hl (qB hT.toStill _ _ _ hf)
 | .fn g p q,v,st,st1,a,h,hs,hv=>by
  cases v<;>simp only[HO]at h<;>try(cases h;done)
  rename_i g' p' q';cases hk:aB g g' with
  |false=>rw[hk]at h;cases h
  |true=>
   rw[hk,zC]at h;have:=bB hk;subst this;obtain⟨st2,h1,h2⟩:=ah h;cases hv with
   |fn f1 f2=>
    obtain⟨new1,e1,e2⟩:=vt hR hT p p' st st2 _ h1 ((tc q q' st2 st1 h2).trans hs) f1;obtain⟨new2,e3,e4⟩:=vt hR hT q q' st2 st1 _ h2 hs f2;refine⟨new1++new2,by rw[e3,e1,aD],λrest=> ?_⟩;obtain⟨v1,e5,e6⟩:=e2 (new2++rest);obtain⟨v2,e7,e8⟩:=e4 rest;exact⟨.fn g v1 v2,by simp only[enc,aD,e5,zG,e7], .fn e6 e8⟩
 | .agg l,v,st,st1,a,h,hs,hv=>by
  cases v<;>simp only[HO]at h<;>try(cases h;done)
  cases hv with
  |agg f1=>
   obtain⟨new1,e1,e2⟩:=vt hR hT l _ st st1 _ h hs f1;refine⟨new1,e1,λrest=> ?_⟩;obtain⟨v1,e5,e6⟩:=e2 rest;exact⟨.agg v1,by simp only[enc,e5,zG], .agg e6⟩
 | .tup l,v,st,st1,a,h,hs,hv=>by
  cases v<;>simp only[HO]at h<;>try(cases h;done)
  cases hv with
  |tup f1=>
   obtain⟨new1,e1,e2⟩:=vt hR hT l _ st st1 _ h hs f1;refine⟨new1,e1,λrest=> ?_⟩;obtain⟨v1,e5,e6⟩:=e2 rest;exact⟨.tup v1,by simp only[enc,e5,zG], .tup e6⟩
theorem vt {N:Nat}{f:Nat->Nat}{stf:DSt}(hR:dv c)(hT:Tell c ct N f stf): ∀(l:List Sk) (vs:List VV) (st st1:DSt) (as:List Value),FP c.S N l vs st=O st1->Sub st1 stf->F2 (VRel c) vs as->
  ∃new,st1.ls=st.ls++new/\∀rest,∃vs',MH f l (new++rest)=O (vs',rest)/\F2 (VRel ct) vs' as
 |[],vs,st,st1,as,h,hs,hf=>by
  cases vs<;>simp only[FP]at h<;>try(cases h;done)
  injection h with h;subst h
  cases hf;exact⟨[],by simp,λrest=>⟨[],by simp[MH], .nil⟩⟩
 |k::r,vs,st,st1,as,h,hs,hf=>by
  cases hf with
  |nil=>simp only[FP]at h;cases h
  |cons f1 f2=>
   simp only[FP]at h;obtain⟨st2,h1,h2⟩:=ah h;obtain⟨new1,e1,e2⟩:=ag6 hR hT k _ st st2 _ h1 ((tc r _ st2 st1 h2).trans hs) f1;obtain⟨new2,e3,e4⟩:=vt hR hT r _ st2 st1 _ h2 hs f2;refine⟨new1++new2,by rw[e3,e1,aD],λrest=> ?_⟩;obtain⟨v1,e5,e6⟩:=e2 (new2++rest);obtain⟨v2,e7,e8⟩:=e4 rest;exact⟨v1::v2,by simp only[MH,aD,e5,zG,e7], .cons e6 e8⟩
end
def uC (c ct:Ctx)(o:OSk)(x:Option Src)(blk:Blk):Prop:=
 (o= .dead/\blk= .dead)∨(blk.frozen=o.ro/\match x with
  |none=>o.ro=Zb/\∃s,blk= .arr s Zb []
  |some ⟨k,e⟩=>(o.ro=Zb->(ae c.S k).frozen=Zb)/\∃d,(ae c.S k).dim=O d/\(match e with
   |none=>blk.dim=O d
   |some n=>blk.dim=O (d.1,min (n*d.1) d.2))/\∀f,F2 (VRel c) (ae c.S k).vals f->F2 (VRel ct) blk.vals (f.take blk.vals.length))
theorem GH {S:ai}{f:DSt}(h:SC S N o x st=O f):Sub st f:=by
 unfold SC at h;split at h
 .injection h with h;subst h;exact Sub.refl _
 .split at h
  .rename_i r d l k _ g t u v;cases e:(aB r g&&(d|| !t))with
   |false=>rw[e]at h;cases h
   |true=>
    rw[e,zC]at h;have n:=tc _ _ _ _ h;cases d with
    |false=>exact n
    |true=>exact Sub.trans ⟨⟨[],by simp⟩,λ_ h=>cD _ h⟩ n
  .cases h
 .rename_i d s;cases d with
  |true=>cases h
  |false=>injection h with h;subst h;exact⟨⟨[],by simp[DSt.push]⟩,λ_ h=>h⟩
 .rename_i d s k q;cases e:(d|| !(ae S k).frozen)with
  |false=>rw[e]at h;cases h
  |true=>
   rw[e,zC]at h;obtain⟨l,n,p⟩:=ah h;injection p with p;subst p
   cases d with
   |false=>exact⟨⟨[],by simp[DSt.push]⟩,λ_ h=>h⟩
   |true=>exact⟨⟨[],by simp[DSt.push]⟩,λ_ h=>cD _ h⟩
 .cases h
theorem Qc {f:Nat->Nat}(I:dv c)(U:Tell c ct N f stf){q:DSt}(h:SC c.S N o x st=O q)(hs:Sub q stf):
  ∃p,q.ls=st.ls++p/\∀rest,∃blk,MI f o (p++rest)=O (blk,rest)/\uC c ct o x blk:=by
 unfold SC at h;split at h
 .injection h with h;subst h
  exact⟨[],by simp,λrest=>⟨.dead,by simp[MI], .inl ⟨rfl,rfl⟩⟩⟩
 .split at h
  .rename_i H ro l k _ P fz r J;cases u:(aB H P&&(ro|| !fz))with
   |false=>rw[u]at h;cases h
   |true=>
    rw[u,zC]at h;rw[cB]at u;have he:=bB u.1;subst he;have z:(ae c.S k).dim=O (H,r.length):=by rw[J];rfl
    obtain⟨h0,D⟩:=I.blk k _ z
    have K: ∃as,F2 (VRel c) r as:=by
     rcases D with⟨F,W⟩|⟨b,y,as,rest,_,_,_,_,_,B⟩
     .have:r=[]:=List.length_eq_zero_iff.1 F;subst this;exact⟨[], .nil⟩
     .rw[J]at B;exact⟨as,B⟩
    obtain⟨as,K⟩:=K;obtain⟨p,F,W⟩:=vt I U l r _ q as h hs K;refine⟨p, ?_,λrest=> ?_⟩
    .rw[F];cases ro<;>rfl
    .obtain⟨vs,B,e4⟩:=W rest;refine⟨.cells H ro vs,by simp only[MI,B,zG], .inr ⟨rfl,λg=> ?_,(H,r.length),z, ?_,λL v=> ?_⟩⟩
     .simp only[OSk.ro]at g;subst g;rw[J];have:=u.2;simp only[Bool.false_or,Bool.not_eq_true']at this;exact this
     .simp only[Blk.dim];rw[e4.length,K.length]
     .rw[J]at v;obtain⟨E,A,M⟩:=vt I U l r _ q L h hs v
      have:E=p:=by
       rw[F]at A;exact(List.append_cancel_left A).symm
      subst this;obtain⟨vs',e,C⟩:=M rest;rw[B]at e;injection e with e
      injection e with e _
      subst e;rw[cN (by rw[<-C.length];exact Nat.le_refl _)];exact C
  .cases h
 .rename_i ro s;cases ro with
  |true=>cases h
  |false=>
   injection h with h;subst h
   refine⟨[⟨.list s,[]⟩],rfl,λrest=>⟨.arr s Zb [], ?_, .inr ⟨rfl,rfl,s,rfl⟩⟩⟩;simp only[bD,MI,jY,zG]
 .rename_i ro s k t;cases u:(ro|| !(ae c.S k).frozen)with
  |false=>rw[u]at h;cases h
  |true=>
   rw[u,zC]at h;obtain⟨l,h1,Q⟩:=ah h;injection Q with Q;subst Q
   obtain⟨d,h3,X,Z,h6⟩:=rB (jZ I s) h1;refine⟨[⟨.list s,KS t l⟩],by cases ro<;>rfl,λrest=>⟨.arr s ro (KS t l), ?_, .inr ⟨rfl,λg=> ?_,d,h3, ?_,λr V=> ?_⟩⟩⟩
   .simp only[bD,MI,jY,zG]
   .simp only[OSk.ro]at g;subst g;simpa using u
   .cases t with
    |none=>
     simp only[Blk.dim,KS];rw[<-Z,<-X]
    |some n=>
     simp only[Blk.dim,KS,cM];rw[Z,X,<-Nat.mul_min_mul_right]
   .have T:=IW U.toStill (h6 r V);have h8:r.length=l.length*s.w:=by rw[<-T.length,gk]
    cases t with
    |none=>
     simp only[Blk.vals,KS];rw[cN (by rw[gk];omega)];exact T
    |some n=>
     simp only[Blk.vals,KS];have h9:((ff s (l.take n)).length)=min (n*s.w) r.length:=by rw[kA,cM,gk,h8]
     rw[h9,kA,<-List.take_take,List.take_length];exact T.take (n*s.w)
 .cases h
theorem FO {S:ai}{N:Nat}: ∀{os:List OSk} {js:List Nat} {st d:DSt},HP S N os js st=O d->Sub st d
 |[],[],st,d,h=>by injection h with h;subst h;exact Sub.refl _
 |[],_::_,st,d,h=>by cases h
 |_::_,[],st,d,h=>by cases h
 |o::os,j::js,st,d,h=>by
  simp only[HP]at h;obtain⟨g,e,f⟩:=ah h;exact(GH e).trans (FO f)
theorem pn {S:ai}{N:Nat}: ∀{os:List OSk} {i:Nat} {st d:DSt},tb S N os i st=O d->Sub st d
 |[],i,st,d,h=>by
  simp only[tb]at h;cases e:aB i st.m.length with
  |false=>rw[e]at h;cases h
  |true=>rw[e]at h;injection h with h;subst h;exact Sub.refl _
 |o::os,i,st,d,h=>by
  simp only[tb]at h;split at h
  .obtain⟨n,f,g⟩:=ah h;exact(GH f).trans (pn g)
  .cases h
inductive zg (c ct:Ctx):List OSk->List Nat->List Blk->Prop where
 |nil:zg c ct [] [] []
 |cons {o:OSk} {j:Nat} {b:Blk} {os:List OSk} {js:List Nat} {bs:List Blk}:uC c ct o (O ⟨j,Y⟩) b->zg c ct os js bs->zg c ct (o::os) (j::js) (b::bs)
inductive vh (c ct:Ctx):List OSk->List (Option Src)->List Blk->Prop where
 |nil:vh c ct [] [] []
 |cons {o:OSk} {x:Option Src} {b:Blk} {os:List OSk} {xs:List (Option Src)} {bs:List Blk}:uC c ct o x b->vh c ct os xs bs->vh c ct (o::os) (x::xs) (b::bs)
theorem KU {N:Nat}{f:Nat->Nat}{stf:DSt}(r:dv c)(t:Tell c ct N f stf): ∀{os:List OSk} {js:List Nat} {st d:DSt},HP c.S N os js st=O d->Sub d stf->
  ∃n,d.ls=st.ls++n/\∀rest,∃bs,CD f os (n++rest)=O (bs,rest)/\zg c ct os js bs
 |[],[],st,d,h,g=>by injection h with h;subst h;exact⟨[],by simp,λrest=>⟨[],by simp[CD], .nil⟩⟩
 |[],_::_,st,d,h,g=>by cases h
 |_::_,[],st,d,h,g=>by cases h
 |o::os,j::js,st,d,h,g=>by
  simp only[HP]at h;obtain⟨E,D,q⟩:=ah h;obtain⟨p,u,v⟩:=Qc r t D ((FO q).trans g);obtain⟨e,w,y⟩:=KU r t q g;refine⟨p++e,by rw[w,u,aD],λrest=> ?_⟩;obtain⟨F,z,A⟩:=v (e++rest);obtain⟨H,B,C⟩:=y rest;exact⟨F::H,by simp only[CD,aD,z,zG,B], .cons A C⟩
theorem IQ {N:Nat}{f:Nat->Nat}{stf:DSt}(w:dv c)(y:Tell c ct N f stf): ∀{os:List OSk} {i:Nat} {st d:DSt},tb c.S N os i st=O d->Sub d stf->
  ∃n,d.ls=st.ls++n/\i+os.length=d.m.length/\∀rest,∃bs,CD f os (n++rest)=O (bs,rest)/\vh c ct os (d.m.drop i) bs
 |[],i,st,d,h,u=>by
  simp only[tb]at h;cases t:aB i st.m.length with
  |false=>rw[t]at h;cases h
  |true=>
   rw[t]at h;injection h with h;subst h
   have:=bB t;subst this;exact⟨[],by simp,by simp,λrest=>⟨[],by simp[CD],by rw[List.drop_length];exact .nil⟩⟩
 |o::os,i,st,d,h,u=>by
  simp only[tb]at h;split at h
  .rename_i x J;obtain⟨K,v,r⟩:=ah h;obtain⟨p,A,B⟩:=Qc w y v ((pn r).trans u);obtain⟨g,C,q,D⟩:=IQ w y r u;refine⟨p++g,by rw[C,A,aD],by rw[<-q];simp;omega,λrest=> ?_⟩;obtain⟨P,E,F⟩:=B (g++rest);obtain⟨Q,H,I⟩:=D rest;refine⟨P::Q,by simp only[CD,aD,E,zG,H], ?_⟩;obtain⟨T,L⟩:=(GH v).m;obtain⟨U,M⟩:=(pn r).m
   have e:d.m[i]?=O x:=by
    rw[<-we,M,L];exact GZ (GZ J)
   have z:i<d.m.length:=by
    rcases cK i d.m.length with h|h
    .exact h
    .rw[cL h]at e;cases e
   rw[List.drop_eq_getElem_cons z];rw[List.getElem?_eq_getElem z]at e;injection e with e
   rw[e];exact .cons F I
  .cases h
theorem HR {f:Nat->Nat}(g:dv c)(n:Tell c ct N f st)(h:mG c.S N fx sk vals=O st)(K:F2 (VRel c) vals as):
  ∃vs fs bs,pp f sk st.ls=O (vs,fs,bs)/\F2 (VRel ct) vs as/\zg c ct sk.fix fx fs/\vh c ct sk.free st.m bs:=by
 unfold mG at h;obtain⟨M,J,h⟩:=ah h;obtain⟨P,u,h⟩:=ah h;obtain⟨d,e,h⟩:=ah h
 have:d=st:=by
  cases v:(Fz (fx++nT d.m)&&B4 (fx++jJ sk.free d.m) d.lent)with
  |false=>rw[v]at h;cases h
  |true=>rw[v]at h;injection h
 subst this;obtain⟨L,y,B⟩:=vt g n _ _ _ _ _ J ((FO u).trans (pn e)) K;obtain⟨w,z,C⟩:=KU g n u (pn e);obtain⟨q,A,Q,D⟩:=IQ g n e (Sub.refl _);obtain⟨vs,E,F⟩:=B (w++q);obtain⟨fs,H,I⟩:=C q;obtain⟨bs,r,t⟩:=D [];refine⟨vs,fs,bs, ?_,F,I,by rw[List.drop_zero]at t;exact t⟩;have p:d.ls=L++(w++q):=by rw[A,z,y];simp
 rw[List.append_nil]at r;simp only[pp,p,E,zG,H,r]
theorem po {S:ai}(h:mG S N fx sk vals=O st):Fz (fx++nT st.m)=Za/\B4 (fx++jJ sk.free st.m) st.lent=Za:=by
 unfold mG at h;obtain⟨f,n,h⟩:=ah h;obtain⟨g,p,h⟩:=ah h;obtain⟨d,q,h⟩:=ah h;cases e:(Fz (fx++nT d.m)&&B4 (fx++jJ sk.free d.m) d.lent)with
 |false=>rw[e]at h;cases h
 |true=>
  rw[e]at h;injection h with h
  subst h
  rwa [cB]at e
theorem EQ : ∀{f:List Sh} {ls:List Leaf} {t:Df f},PI f ls=O t->RG f t=ls
 |[],ls,t,h=>by
  cases ls with
  |nil=>rfl
  |cons=>simp[PI]at h
 |[s],ls,t,h=>by
  cases ls with
  |nil=>simp[PI]at h
  |cons x ls=>
   cases ls with
   |nil=>
    simp only[PI]at h;obtain⟨d,e⟩:=lG h;obtain⟨p,v⟩:=x;simp only at d;subst d;subst e;rfl
   |cons=>simp[PI]at h
 |s::p::r,ls,t,h=>by
  cases ls with
  |nil=>simp[PI]at h
  |cons x ls=>
   simp only[PI]at h;obtain⟨a,e,h⟩:=ah h;obtain⟨b,g,h⟩:=ah h;injection h with h
   subst h;obtain⟨d,n⟩:=lG e;obtain⟨q,v⟩:=x;simp only at d;subst d;subst n;simp only[RG];rw[EQ g]
end
end
section
open Bool renaming and_eq_true -> cD
open List renaming getElem?_eq_getElem -> aB, all_eq_true -> aD, getElem?_eq_none -> bD, replicate -> cB, mem_cons_of_mem -> cK, mem_cons_self -> cL, mem_of_getElem? -> cM, nodup_cons -> cN
open Nat renaming lt_or_ge -> bB, le_add_right -> cO, lt_of_lt_of_le -> cP
def Bh (c:Ctx):Option Src->Option Nat
 |none=>Y
 |some x=>c.μ x.k
theorem zg.get : ∀{os:List OSk} {js:List Nat} {bs:List Blk},zg c ct os js bs->js.length=bs.length/\os.length=bs.length/\∀(i j:Nat) (b:Blk),js[i]?=O j->bs[i]?=O b->∃o,os[i]?=O o/\uC c ct o (O ⟨j,Y⟩) b
 |_,_,_, .nil=>⟨rfl,rfl,λi j b h=>by simp at h⟩
 |_,_,_, .cons p q=>by
  obtain⟨f,g,n⟩:=q.get;refine⟨by simp[f],by simp[g],λi j b e d=> ?_⟩;cases i with
  |zero=>
   simp at e d;subst e;subst d;exact⟨_,rfl,p⟩
  |succ i=>
   simp at e d;obtain⟨o,r,t⟩:=n i j b e d;exact⟨o,by simpa using r,t⟩
theorem vh.get : ∀{os:List OSk} {f:List (Option Src)} {bs:List Blk},vh c ct os f bs->f.length=bs.length/\os.length=bs.length/\∀(i:Nat) (x:Option Src) (b:Blk),f[i]?=O x->bs[i]?=O b->∃o,os[i]?=O o/\uC c ct o x b
 |_,_,_, .nil=>⟨rfl,rfl,λi j b h=>by simp at h⟩
 |_,_,_, .cons q r=>by
  obtain⟨g,n,p⟩:=r.get;refine⟨by simp[g],by simp[n],λi j b e d=> ?_⟩;cases i with
  |zero=>
   simp at e d;subst e;subst d;exact⟨_,rfl,q⟩
  |succ i=>
   simp at e d;obtain⟨o,t,u⟩:=p i j b e d;exact⟨o,by simpa using t,u⟩
theorem uC.blkRel (V:dv c)(W:ct.Z=c.Z){p:Nat}(h:uC c ct o x b)(E:ae ct.S p=b)(K:b.dim≠Y->ct.μ p=Bh c x):J8 ct p:=by
 intro w e;rw[E]at e;have f:ct.μ p=Bh c x:=K (by rw[e];simp);clear K;rcases h with⟨_,h⟩|⟨M,F⟩
 .subst h;cases e
 .cases x with
  |none=>
   obtain⟨_,s,D⟩:=F;subst D;injection e with e
   subst e;exact⟨mM s, .inl ⟨by simp,by simpa[Bh]using f⟩⟩
  |some x=>
   obtain⟨k,v⟩:=x;obtain⟨D,d,P,t,Q⟩:=F;simp only[Bh]at f;obtain⟨T,U⟩:=V.blk k d P
   have q:w.1=d.1/\w.2<=d.2:=by
    cases v with
    |none=>
     simp only at t;rw[t]at e;injection e with e
     subst e;exact⟨rfl,Nat.le_refl _⟩
    |some n=>
     simp only at t;rw[t]at e;injection e with e
     subst e;exact⟨rfl,Nat.min_le_right _ _⟩
   refine⟨by rw[q.1];exact T, ?_⟩;rcases U with⟨H,g⟩|⟨L,y,u,r,H,g,z,A,B,C⟩
   .exact .inl ⟨by omega,f.trans g⟩
   .have I:b.vals.length=w.2:=BY e;refine .inr ⟨L,y,u.take b.vals.length,u.drop b.vals.length++r,f.trans H,by rw[W];exact g,by rw[q.1];exact z,λJ=> ?_,by rw[<-List.append_assoc,List.take_append_drop];exact B, ?_⟩
    .rw[E,M]at J;exact A (D J)
    .rw[E];exact Q u C
theorem TT (f:Nat->Nat): ∀n,∃K,∀j,j<n->f j<K
 |0=>⟨0,λj h=>by omega⟩
 |n+1=>by
  obtain⟨K,h⟩:=TT f n;refine⟨max K (f n+1),λj d=> ?_⟩;rcases bB j n with h1|h1
  .have:=h j h1;omega
  .have:j=n:=by omega
   subst this;omega
theorem Ec {n:Nat}:ae (cB n Blk.dead) k= .dead:=by
 induction n generalizing k with
 |zero=>rfl
 |succ n d=>
  cases k with
  |zero=>rfl
  |succ k=>exact d
theorem M3 {f:Nat->Nat}(r:dv c)(h:mG c.S N fx sk vals=O st)(u:F2 (VRel c) vals as):
  ∃e vs fs bs,pp f sk st.ls=O (vs,fs,bs)/\zg c e sk.fix fx fs/\vh c e sk.free st.m bs:=by
 obtain⟨K,q⟩:=TT f (N+st.m.length)
 have t:Tell c ⟨λ_=>Y,cB K .dead,c.Z,λ_=>False⟩ N f st:=by
  have p: ∀b,¬(⟨λ_=>Y,cB K .dead,c.Z,λ_=>False⟩:Ctx).mut b:=by
   rintro b (⟨k,d,_⟩|h)
   .simp only[Ec]at d;cases d
   .exact h
  refine⟨⟨rfl,λb _ _ _=>p b⟩,λj x v=>⟨?_,λw n=> ?_⟩,λk _ _ b _=>p b⟩
  .simp only[List.length_replicate];refine q j ?_;rcases v with⟨d,_⟩|⟨d,g⟩
   .omega
   .rw[we]at g;rcases bB (j-N) st.m.length with h3|h3
    .omega
    .rw[bD h3]at g;cases g
  .simp only[Ec]at n;cases n
 obtain⟨vs,fs,bs,d,_,g,h3⟩:=HR r t h u;exact⟨_,vs,fs,bs,d,g,h3⟩
theorem jH :kB k l=Za↔k∈l:=by
 induction l with
 |nil=>simp[kB]
 |cons a l d=>
  simp only[kB,List.mem_cons];cases h:Nat.beq a k with
  |true=>
   have:=Nat.eq_of_beq_eq_true h;simp[this]
  |false=>
   have:a≠k:=by rintro rfl;rw[Nat.beq_refl]at h;cases h
   rw[zD,d];simp[Ne.symm this]
theorem pj :Fz l=Za->l.Nodup:=by
 induction l with
 |nil=>intro _;exact List.nodup_nil
 |cons a l f=>
  intro h;simp only[Fz]at h;cases d:kB a l with
  |true=>rw[d]at h;cases h
  |false=>
   rw[d]at h;refine List.nodup_cons.2 ⟨λe=> ?_,f h⟩;rw[jH.2 e]at d;cases d
theorem K5 {w:List Nat}(h:B4 w l=Za)(e:k∈w):k∉l:=by
 intro d;simp only[B4,aD]at h;have:=h k e;rw[jH.2 d]at this;cases this
theorem yv {x:Src}(h:m[i]?=O (O x)):x.k∈nT m:=by
 induction m generalizing i with
 |nil=>simp at h
 |cons a m d=>
  cases i with
  |zero=>
   simp at h;subst h;exact cL
  |succ i=>
   simp at h;have:=d h;cases a with
   |none=>exact this
   |some a=>exact cK _ this
theorem GR (d:(nT m).Nodup){x y:Src}(h:m[i]?=O (O x))(f:m[j]?=O (O y))(e:x.k=y.k):i=j:=by
 induction m generalizing i j with
 |nil=>simp at h
 |cons a m p=>
  cases i with
  |zero=>
   simp at h;subst h;cases j with
   |zero=>rfl
   |succ j=>
    simp at f;have g:=yv f;simp only[nT,cN]at d;rw[e]at d;exact(d.1 g).elim
  |succ i=>
   simp at h;cases j with
   |zero=>
    simp at f;subst f;have g:=yv h;simp only[nT,cN]at d;rw[<-e]at d;exact(d.1 g).elim
   |succ j=>
    simp at f
    have n:(nT m).Nodup:=by
     cases a with
     |none=>exact d
     |some a=>exact(List.nodup_cons.1 d).2
    rw[p n h f]
theorem Hu {os:List OSk}{x:Src}(h:m[i]?=O (O x))(d:os[i]?=O o)(e:o.ro=Zb):x.k∈jJ os m:=by
 induction m generalizing os i with
 |nil=>simp at h
 |cons a m f=>
  cases os with
  |nil=>simp at d
  |cons g os=>
   cases i with
   |zero=>
    simp at h d;subst h;subst d;simp only[jJ,e,zD];exact cL
   |succ i=>
    simp at h d;have:=f h d;cases a with
    |none=>exact this
    |some a=>
     simp only[jJ];cases g.ro with
     |true=>exact this
     |false=>exact cK _ this
theorem aC9 (h:b.may=Za)(e:b.dim≠Y)(d:b.frozen=Za):False:=by
 cases b with
 |dead=>exact e rfl
 |cells f z l=>simp only[Blk.may,Blk.frozen]at h d;rw[d]at h;cases h
 |arr s z l=>simp only[Blk.may,Blk.frozen]at h d;rw[d]at h;cases h
theorem Ul (h:sk.noRo=Za):sk.fxRo=Za:=by
 unfold ui.noRo at h;rw[cD]at h;exact h.1
structure GT (c c' ct:Ctx)(N:Nat)(f:Nat->Nat)(fx:List Nat)(sk:ui)(st:DSt)(fs bs:List Blk):Prop where
 Z:ct.Z=c'.Z
 fb:ct.fb=c.fb
 len:ct.S.length=c.S.length+bs.length
 oth: ∀k,k<c.S.length->(∀j,j∈fx->f j≠k)->ae ct.S k=ae c.S k∨ae ct.S k=(ae c.S k).freeze∨(ae ct.S k= .dead/\(ae c.S k).frozen=Zb)
 fix: ∀(i j:Nat) (b:Blk),fx[i]?=O j->fs[i]?=O b->ae ct.S (f j)=b
 fixlt: ∀j,j∈fx->f j<c.S.length
 free: ∀(i:Nat) (b:Blk),bs[i]?=O b->ae ct.S (c.S.length+i)=b
 fN: ∀i,f (N+i)=c.S.length+i
 μo: ∀k,k<c.S.length->ct.μ k=c.μ k
 μn: ∀(i:Nat) (x:Option Src),st.m[i]?=O x->ct.μ (c.S.length+i)=Bh c' x
 un: ∀b y,c.Z.m b=O y->¬c.own b->c'.Z.m b=O y
 ow: ∀b y,c.Z.m b=O y->¬c.own b->¬c'.own b
 n:c.Z.n<=c'.Z.n
 oun: ∀k,k<c.S.length->(∀j,j∈fx->f j≠k)->(ae ct.S k).dim≠Y->∀b y,c.μ k=O b->c.Z.m b=O y->c'.Z.m b=O y
 odis: ∀k,k<c.S.length->(∀j,j∈fx->f j≠k)->(ae ct.S k).dim≠Y->∀s,(s∈fx∨s∈nT st.m)->(ae c'.S s).frozen=Zb->∀b,c'.μ s=O b->c.μ k≠O b
 wr: ∀j,j∈fx->(ae c'.S j).dim≠Y->(ae c.S (f j)).dim=(ae c'.S j).dim/\c'.μ j=c.μ (f j)/\∀b y,c.μ (f j)=O b->c.Z.m b=O y->∃y',c'.Z.m b=O y'/\y'.cells.length=y.cells.length
 wrz: ∀j,j∈fx->(ae c.S (f j)).may=Za
 finj: ∀j j',j∈fx->j'∈fx->f j=f j'->j=j'
 fbk: ∀k b,(ae c'.S k).dim≠Y->c'.μ k=O b->¬c.fb b
 lk: ∀j,j<N->j∉fx->Lk c' ct (O ⟨j,Y⟩) (f j)
 onm: ∀k,k<c.S.length->(∀j,j∈fx->f j≠k)->(ae ct.S k).frozen=Zb->∀b y,c.μ k=O b->c'.Z.m b=O y->c'.mut b
 olent: ∀k,k<c.S.length->(∀j,j∈fx->f j≠k)->(ae ct.S k).frozen=Zb->∀s,s∈st.lent->(ae c'.S s).dim≠Y->∀b,c'.μ s=O b->c.μ k≠O b
 fbm: ∀b,c.fb b->c'.mut b
 fxN: ∀j,j∈fx->j<N
 noro:sk.fxRo=Za
 roz:sk.noRo=Za∨∀k,k<c.S.length->(∀j,j∈fx->f j≠k)->(ae ct.S k).dim≠Y->(ae ct.S k).frozen=Za
theorem GT.all {f:Nat->Nat}(g:GT c c' ct N f fx sk st fs bs)(hR:dv c)(J:dv c')(hd:mG c'.S N fx sk vals=O st)
  (he:pp f sk st.ls=O (vs,fs,bs)) (hf:F2 (VRel c') vals as):Le c ct/\dv ct/\F2 (VRel ct) vs as:=by
 obtain⟨ct0,vs0,fs0,bs0,p1,p2,p3⟩:=M3 (f:=f) J hd hf;rw[he]at p1;injection p1 with p1
 injection p1 with M p1
 injection p1 with P W
 subst M;subst P;subst W;obtain⟨ap1,ap2⟩:=po hd;have hnd:=pj ap1;rw[List.nodup_append]at hnd;obtain⟨nd1,nd2,nd3⟩:=hnd;obtain⟨x1,x2,x3⟩:=p2.get;obtain⟨y1,y2,y3⟩:=p3.get;have hro:=g.noro;unfold ui.fxRo at hro;rw[aD]at hro
 have nro: ∀(i:Nat) (o:OSk),sk.fix[i]?=O o->o.ro=Zb:=by
  intro i o h;simpa using hro o (cM h)
 have nro2: ∀(i:Nat) (o:OSk),sk.noRo=Za->sk.free[i]?=O o->o.ro=Zb:=by
  intro i o Q h;unfold ui.noRo at Q;rw[cD,aD,aD]at Q;simpa using Q.2 o (cM h)
 have V: ∀j,j∈fx->∃(i:Nat) (b:Blk) (o:OSk),fx[i]?=O j/\fs[i]?=O b/\sk.fix[i]?=O o/\ae ct.S (f j)=b/\uC c' ct0 o (O ⟨j,Y⟩) b:=by
  intro j u;obtain⟨i,C,e⟩:=List.mem_iff_getElem.1 u;have h1:fx[i]?=O j:=by rw[aB C,e]
  have q:i<fs.length:=by rw[<-x1];exact C
  obtain⟨o,r,t⟩:=x3 i j _ h1 (aB q);exact⟨i,fs[i],o,h1,aB q,r,g.fix i j _ h1 (aB q),t⟩
 have B: ∀i,i<bs.length->∃(b:Blk) (x:Option Src) (o:OSk),st.m[i]?=O x/\bs[i]?=O b/\sk.free[i]?=O o/\ae ct.S (c.S.length+i)=b/\ct.μ (c.S.length+i)=Bh c' x/\uC c' ct0 o x b:=by
  intro i C;have q:i<st.m.length:=by rw[y1];exact C
  obtain⟨o,r,t⟩:=y3 i _ _ (aB q) (aB C);exact⟨bs[i],st.m[i],o,aB q,aB C,r,g.free i _ (aB C),g.μn i _ (aB q),t⟩
 have D: ∀k,(ae ct.S k).dim≠Y->(∃j,j∈fx/\f j=k)∨(k<c.S.length/\(∀j,j∈fx->f j≠k))∨(∃i,i<bs.length/\k=c.S.length+i):=by
  intro k z;have hl:=me z;rw[g.len]at hl;by_cases h1:k<c.S.length
  .by_cases q: ∃j,j∈fx/\f j=k
   .exact .inl q
   .exact .inr (.inl ⟨h1,λj u e=>q ⟨j,u,e⟩⟩)
  .exact .inr (.inr ⟨k-c.S.length,by omega,by omega⟩)
 have H: ∀j,j∈fx->∀d,(ae ct.S (f j)).dim=O d->(ae c'.S j).dim=O d/\(ae c'.S j).frozen=Zb/\(ae c.S (f j)).dim=O d/\c'.μ j=c.μ (f j):=by
  intro j u d p;obtain⟨i,b,o,h1,q,r,t,w⟩:=V j u;rw[t]at p;rcases w with⟨_,w⟩|⟨w,E,d0,h7,h8,h9⟩
  .subst w;cases p
  .simp only at h8;rw[h8]at p;injection p with p
   subst p;obtain⟨w1,w2,_⟩:=g.wr j u (by rw[h7];simp);exact⟨h7,E (nro i o r),by rw[w1,h7],w2⟩
 have found: ∀i,i<bs.length->∀d,(ae ct.S (c.S.length+i)).dim=O d->(∃x,st.m[i]?=O (O x)/\((ae ct.S (c.S.length+i)).frozen=Zb∨sk.noRo=Za->(ae c'.S x.k).frozen=Zb)/\(ae c'.S x.k).dim≠Y/\ct.μ (c.S.length+i)=c'.μ x.k)∨ct.μ (c.S.length+i)=Y:=by
  intro i C d p;obtain⟨b,x,o,h1,q,r,t,w,E⟩:=B i C;rw[t]at p;rcases E with⟨_,E⟩|⟨E,h7⟩
  .subst E;cases p
  .cases x with
   |none=>exact .inr w
   |some x=>
    obtain⟨k,cut⟩:=x;obtain⟨h7,d2,h8,_⟩:=h7;refine .inl ⟨_,h1,λhz=>h7 ?_,by rw[h8];simp,w⟩;rcases hz with hz|hz
    .rw[t,E]at hz;exact hz
    .exact nro2 i o hz r
 have A: ∀k b,(ae ct.S k).dim≠Y->ct.μ k=O b->(k<c.S.length/\(∀j,j∈fx->f j≠k)/\c.μ k=O b)∨
   ∃s,(s∈fx∨s∈nT st.m)/\((ae ct.S k).frozen=Zb∨sk.noRo=Za->(ae c'.S s).frozen=Zb)/\(ae c'.S s).dim≠Y/\c'.μ s=O b/\((s∈fx/\k=f s)∨∃i x,st.m[i]?=O (O x)/\x.k=s/\k=c.S.length+i):=by
  intro k b z I;cases U:(ae ct.S k).dim with
  |none=>exact(z U).elim
  |some d=>
   rcases D k z with⟨j,u,rfl⟩|⟨h1,q⟩|⟨i,C,rfl⟩
   .obtain⟨h1,q,r,t⟩:=H j u d U;exact .inr ⟨j, .inl u,λ_=>q,by rw[h1];simp,by rw[t,<-g.μo _ (g.fixlt j u)];exact I, .inl ⟨u,rfl⟩⟩
   .exact .inl ⟨h1,q,by rw[<-g.μo k h1];exact I⟩
   .rcases found i C d U with⟨x,h1,q,h2',r⟩|h1
    .exact .inr ⟨x.k, .inr (yv h1),q,h2',by rw[<-r];exact I, .inr ⟨i,x,h1,rfl,rfl⟩⟩
    .rw[h1]at I;cases I
 have v: ∀k,k<c.S.length->(∀j,j∈fx->f j≠k)->(ae ct.S k).dim≠Y->(ae ct.S k=ae c.S k∨ae ct.S k=(ae c.S k).freeze):=by
  intro k h1 q r;rcases g.oth k h1 q with h|h|⟨h,_⟩
  .exact .inl h
  .exact .inr h
  .rw[h]at r;exact(r rfl).elim
 have L: ∀k,k<c.S.length->(∀j,j∈fx->f j≠k)->(ae ct.S k).frozen=Zb->ae ct.S k=ae c.S k:=by
  intro k h1 q r;rcases v k h1 q (lT r)with h|h
  .exact h
  .rw[h,ke]at r;cases r
 have hle:Le c ct:=by
  refine⟨by rw[g.len];exact cO _ _,λk d z p=>⟨?_,g.μo k z⟩,λk hz F=> ?_,λk d b y z p I hy=> ?_,λb y hy Q=>by rw[g.Z];exact g.un b y hy Q,λb y hy Q=> ?_,by rw[g.Z];exact g.n,g.fb⟩
  .rcases D k (by rw[p];simp)with⟨j,u,rfl⟩|⟨h1,q⟩|⟨i,C,rfl⟩
   .exact(H j u d p).2.2.1
   .rcases v k h1 q (by rw[p];simp)with h|h
    .rw[<-h];exact p
    .rw[h,fF]at p;exact p
   .omega
  .have z:=me F;by_cases q: ∃j,j∈fx/\f j=k
   .obtain⟨j,u,rfl⟩:=q;exact(aC9 (g.wrz j u) F hz).elim
   .rcases g.oth k z (λj u e=>q ⟨j,u,e⟩)with h|h|⟨_,h⟩
    .exact h
    .rw[h,A0 hz]
    .rw[h]at hz;cases hz
  .rw[g.Z];rcases D k (by rw[p];simp)with⟨j,u,rfl⟩|⟨h1,q⟩|⟨i,C,rfl⟩
   .obtain⟨h1,q,r,t⟩:=H j u d p;exact(g.wr j u (by rw[h1];simp)).2.2 b y I hy
   .exact⟨y,g.oun k h1 q (by rw[p];simp) b y I hy,rfl⟩
   .omega
  .rintro⟨k,h1,q⟩;rcases A k b (lT h1) q with⟨r,t,w⟩|⟨s,r,t,_,w,_⟩
   .exact Q ⟨k,by rw[<-L k r t h1];exact h1,w⟩
   .exact g.ow b y hy Q ⟨s,t (.inl h1),w⟩
 have hT:Tell c' ct N f st:=by
  have hsp: ∀k b,(ae ct.S k).frozen=Zb->ct.μ k=O b->(k<c.S.length/\(∀j,j∈fx->f j≠k)/\c.μ k=O b)∨∃s,(s∈fx∨s∈jJ sk.free st.m)/\(ae c'.S s).frozen=Zb/\c'.μ s=O b:=by
   intro k b h1 q;rcases A k b (lT h1) q with h|⟨s,r,t,_,w,E⟩
   .exact .inl h
   .refine .inr ⟨s, ?_,t (.inl h1),w⟩;rcases E with⟨E,_⟩|⟨i,x,E,h7,h8⟩
    .exact .inl E
    .refine .inr ?_
     have C:i<bs.length:=by
      rw[<-y1];rcases bB i st.m.length with h|h
      .exact h
      .rw[bD h]at E;cases E
     obtain⟨b',x',o,M,P,W,X,q5,T⟩:=B i C;rw[<-h7];refine Hu E W ?_;rcases T with⟨T,_⟩|⟨T,_⟩
     .rw[T];rfl
     .rw[<-T,<-X,<-h8];exact h1
  refine⟨⟨g.Z,λb y hy Q=> ?_⟩,λj x hl=> ?_,λs hs hsd b I=> ?_⟩
  .rintro(⟨k,h1,q⟩|h)
   .rcases hsp k b h1 q with⟨r,t,w⟩|⟨s,r,t,w⟩
    .exact Q (g.onm k r t h1 b y w hy)
    .exact Q (.inl ⟨s,t,w⟩)
   .rw[g.fb]at h;exact Q (g.fbm b h)
  .rcases hl with⟨h1,rfl⟩|⟨h1,q⟩
   .by_cases u:j∈fx
    .refine⟨by rw[g.len];exact cP (g.fixlt j u) (cO _ _),λd' p=> ?_⟩;obtain⟨M,P,W,X⟩:=H j u d' p;exact⟨d',M,rfl,by rw[g.μo _ (g.fixlt j u),X],rfl⟩
    .exact g.lk j h1 u
   .rw[we]at q
    have C:j-N<bs.length:=by
     rw[<-y1];rcases bB (j-N) st.m.length with h|h
     .exact h
     .rw[bD h]at q;cases q
    have hfj:f j=c.S.length+(j-N):=by rw[<-g.fN];congr 1;omega
    rw[hfj];refine⟨by rw[g.len];omega,λd' p=> ?_⟩;obtain⟨b,x',o,M,P,W,X,q5,T⟩:=B (j-N) C;rw[q]at M;injection M with M
    subst M;rw[X]at p;rcases T with⟨_,T⟩|⟨T,q7⟩
    .subst T;cases p
    .cases x with
     |none=>
      obtain⟨_,s,q8⟩:=q7;subst q8;injection p with p
      subst p;exact⟨by simp,q5⟩
     |some x=>
      obtain⟨k,cut⟩:=x;obtain⟨q8,d,q9,q10,q11⟩:=q7;refine⟨d,q9, ?_⟩;cases cut with
      |none=>
       simp only at q10;rw[q10]at p;injection p with p
       subst p;exact⟨rfl,q5,rfl⟩
      |some n=>
       simp only at q10;rw[q10]at p;injection p with p
       subst p;exact⟨rfl,q5,rfl⟩
  .rintro(⟨k,h1,q⟩|h)
   .rcases hsp k b h1 q with⟨r,t,w⟩|⟨s',r,t,w⟩
    .exact g.olent k r t h1 s hs hsd b I w
    .have:=J.inj s' s b t hsd w I;subst this;exact K5 ap2 (List.mem_append.2 r) hs
   .rw[g.fb]at h;exact g.fbk s b hsd I h
 obtain⟨vs1,fs1,bs1,r1,r2,r3,r4⟩:=HR J hT hd hf;rw[he]at r1;injection r1 with r1
 injection r1 with e1 r1
 injection r1 with e2 e3
 subst e1;subst e2;subst e3;obtain⟨_,_,x4⟩:=r3.get;obtain⟨_,_,y4⟩:=r4.get;refine⟨hle,⟨by rw[g.Z];exact J.ok,λk k' b z K I hm'=> ?_,λk=> ?_,λk b z I hb=> ?_,λb hb=> ?_⟩,r2⟩
 .rcases A k b (lT z) I with⟨h1,q,r⟩|⟨s,h1,q,_,r,t⟩
  .rcases A k' b K hm' with⟨g1,g2,g3⟩|⟨s',g1,g2,_,g3,g4⟩
   .refine hR.inj k k' b (by rw[<-L k h1 q z];exact z) ?_ r g3;rcases v k' g1 g2 K with h|h
    .rw[<-h];exact K
    .rw[h,fF]at K;exact K
   .rcases g.roz with Q|hz
    .exact(g.odis k h1 q (lT z) s' g1 (g2 (.inr Q)) b g3 r).elim
    .rw[hz k h1 q (lT z)]at z;cases z
  .rcases A k' b K hm' with⟨g1,g2,g3⟩|⟨s',g1,_,g2,g3,g4⟩
   .exact(g.odis k' g1 g2 K s h1 (q (.inl z)) b r g3).elim
   .have:=J.inj s s' b (q (.inl z)) g2 r g3;subst this;rcases t with⟨t,w⟩|⟨i,x,t,w,E⟩
    .rcases g4 with⟨g4,g5⟩|⟨i',x',g4,g5,g6⟩
     .rw[w,g5]
     .subst g5;exact(nd3 _ t _ (yv g4) rfl).elim
    .rcases g4 with⟨g4,g5⟩|⟨i',x',g4,g5,g6⟩
     .subst w;exact(nd3 _ g4 _ (yv t) rfl).elim
     .rw[E,g6,GR nd2 t g4 (w.trans g5.symm)]
 .by_cases F:(ae ct.S k).dim=Y
  .intro d p;rw[F]at p;cases p
  .rcases D k F with⟨j,u,rfl⟩|⟨h1,q⟩|⟨i,C,rfl⟩
   .obtain⟨i,b,o,M,P,W,X,q5⟩:=V j u;obtain⟨o',T,q7⟩:=x4 i j b M P;refine q7.blkRel J g.Z X λhb=> ?_
    cases U:(ae ct.S (f j)).dim with
    |none=>exact(F U).elim
    |some d=>
     obtain⟨_,_,_,q8⟩:=H j u d U;rw[g.μo _ (g.fixlt j u),<-q8];rfl
   .intro d p;have r:=v k h1 q F
    have hdc:(ae c.S k).dim=O d:=by
     rcases r with h|h
     .rw[<-h];exact p
     .rw[h,fF]at p;exact p
    have hvc:(ae ct.S k).vals=(ae c.S k).vals:=by
     rcases r with h|h
     .rw[h]
     .rw[h,Ja]
    obtain⟨M,P⟩:=hR.blk k d hdc;refine⟨M, ?_⟩;rcases P with⟨P,W⟩|⟨b,y,cs,rest,P,W,X,q5,T,q7⟩
    .exact .inl ⟨P,(g.μo k h1).trans W⟩
    .refine .inr ⟨b,y,cs,rest,(g.μo k h1).trans P,by rw[g.Z];exact g.oun k h1 q F b y P W,X,λhz=> ?_,T,by rw[hvc];exact VRel.frames hle q7⟩;rw[L k h1 q hz]at hz;exact q5 hz
   .obtain⟨b,x,o,M,P,W,X,q5,T⟩:=B i C;obtain⟨o',q7,q8⟩:=y4 i x b M P;exact q8.blkRel J g.Z X λ_=>q5
 .rw[g.fb]at hb;rcases A k b z I with⟨h1,q,r⟩|⟨s,h1,_,q,r,_⟩
  .refine hR.fbk k b ?_ r hb;rcases v k h1 q z with h|h
   .rw[<-h];exact z
   .rw[h,fF]at z;exact z
  .exact g.fbk s b q r hb
 .rw[g.fb]at hb;rw[g.Z];exact cP (hR.fbl b hb) g.n
end
section
open Bool renaming or_eq_false_iff -> aB
open List renaming cons_append -> bB, length_append -> bD, mem_of_getElem? -> cB, nodup_append -> cD
open Nat renaming zero_add -> aD, add_sub_cancel_left -> cK
theorem lS {fx mov:List Nat}{fz:Bool}: ∀{S:ai} {i:Nat},(jA fx mov fz i S).length=S.length
 |[],_=>rfl
 |_::r,i=>by simp[jA,lS (S:=r)]
theorem lR {fx mov:List Nat}{fz:Bool}: ∀{S:ai} {i k:Nat},k<S.length->ae (jA fx mov fz i S) k=cond (kB (i+k) mov) (cond (ae S k).frozen (ae S k) .dead) (cond (kB (i+k) fx) (ae S k) (cond fz (ae S k).freeze (ae S k)))
 |[],_,_,h=>by simp at h
 |b::r,i,0,_=>rfl
 |b::r,i,k+1,h=>by
  have:=lR (fx:=fx) (mov:=mov) (fz:=fz) (S:=r) (i:=i+1) (k:=k) (by simpa using h);rw[show i+1+k=i+(k+1)by omega]at this;exact this
theorem jI : ∀{js:List Nat} {bs:List Blk} {S S':ai},vE js bs S=O S'->js.length=bs.length/\S'.length=S.length/\(∀k,k∉js->ae S' k=ae S k)/\
  (js.Nodup->∀(i j:Nat) (b:Blk),js[i]?=O j->bs[i]?=O b->j<S.length->ae S' j=b)
 |[],[],S,S',h=>by
  injection h with h;subst h
  exact⟨rfl,rfl,λ_ _=>rfl,λ_ i j b h=>by simp at h⟩
 |[],_::_,S,S',h=>by cases h
 |_::_,[],S,S',h=>by cases h
 |j::js,b::bs,S,S',h=>by
  simp only[vE]at h;obtain⟨t,u,n,v⟩:=jI h;refine⟨by simp[t],by rw[u,Ee],λk p=> ?_,λg i w r f d q=> ?_⟩
  .rw[n k (λe=>p (List.mem_cons_of_mem _ e))];exact aq7 (λe=>p (by rw[e];exact List.mem_cons_self))
  .rw[List.nodup_cons]at g;cases i with
   |zero=>
    simp at f d;subst f;subst d;rw[n j g.1];exact UV q
   |succ i=>
    simp at f d;exact v g.2 i w r f d (by rw[Ee];exact q)
theorem vB : ∀{l:List Blk} {i:Nat} {b:Blk},l[i]?=O b->ae l i=b
 |[],i,b,h=>by simp at h
 |a::l,0,b,h=>by simpa[ae]using h
 |a::l,i+1,b,h=>vB (l:=l) (by simpa using h)
structure Within (c c1:Ctx)(fx mov:List Nat):Prop where
 le:Le c c1
 fr: ∀k,k<c.S.length->k∉fx->(k∉mov∨(ae c.S k).frozen=Za)->ae c1.S k=(ae c.S k).freeze
 un: ∀k,k<c.S.length->k∉fx->(k∉mov∨(ae c.S k).frozen=Za)->(ae c.S k).dim≠Y->∀b y,c.μ k=O b->c.Z.m b=O y->c1.Z.m b=O y
theorem lI {S:ai}(h:JG S fx=Za)(f:j∈fx):j<S.length/\(ae S j).may=Za:=by
 simp only[JG,List.all_eq_true,Bool.and_eq_true]at h;obtain⟨d,e⟩:=h j f;exact⟨Nat.le_of_ble_eq_true d,e⟩
theorem jB (h:k∉l):kB k l=Zb:=by
 cases d:kB k l with
 |false=>rfl
 |true=>exact(h (jH.1 d)).elim
theorem w9 {fz:Bool}{S:ai}(h:k<S.length)(g:k∉fx)(d:(ae (jA fx mov fz 0 S) k).dim≠Y):(k∉mov∨(ae S k).frozen=Za)/\ae (jA fx mov fz 0 S) k=cond fz (ae S k).freeze (ae S k):=by
 rw[lR h,aD,jB g]at d⊢;by_cases e:k∈mov
 .rw[jH.2 e]at d⊢;cases f:(ae S k).frozen with
  |false=>rw[f]at d;exact(d rfl).elim
  |true=>exact⟨.inr rfl,by cases fz<;>simp[A0 f]⟩
 .rw[jB e];exact⟨.inl e,rfl⟩
theorem au8 {c1:Ctx}(hR:dv c)(L:dv c')(X:Within c c1 fx mov)(hR1:dv c1)(M:Le c1 c')
  (D:JG c.S fx=Za) (hro:sk.fxRo=Za) (hd:mG c'.S c.S.length fx sk vals=O st) (he:pp id sk st.ls=O (vs,fs,bs)) (hf:F2 (VRel c') vals as) (hS:vE fx fs (jA fx mov Za 0 c.S)=O S'):
  ∃ct:Ctx,ct.Z=c'.Z/\ct.S=S'++bs/\ct.fb=c.fb/\(∀k,k<c.S.length->ct.μ k=c.μ k)/\Le c ct/\dv ct/\F2 (VRel ct) vs as/\
   (∀k,k<c.S.length->k∉fx->(ae ct.S k).dim≠Y->(k∉mov∨(ae c.S k).frozen=Za)/\∀b y,c.μ k=O b->c.Z.m b=O y->ct.Z.m b=O y):=by
 obtain⟨s1,s2,s3,s4⟩:=jI hS;rw[lS]at s2 s4;obtain⟨ap1,_⟩:=po hd;have W:=pj ap1;rw[cD]at W;obtain⟨nd1,_,_⟩:=W;have t:=X.le.trans M;have U:c'.fb=c.fb:=t.fb
 let ct:Ctx:=⟨λi=>if i<c.S.length then c.μ i else match st.m[i-c.S.length]? with
  |some x=>Bh c' x
  |none=>Y,S'++bs,c'.Z,c.fb⟩
 have I: ∀k,k<c.S.length->ae ct.S k=ae S' k:=λk h=>mK (by rw[s2];exact h)
 have J: ∀k,k<c.S.length->k∉fx->ae ct.S k=ae (jA fx mov Za 0 c.S) k:=λk h q=>by rw[I k h,s3 k q]
 have p: ∀k,k<c.S.length->k∉fx->(ae ct.S k).dim≠Y->(k∉mov∨(ae c.S k).frozen=Za)/\ae ct.S k=(ae c.S k).freeze/\ae c'.S k=(ae c.S k).freeze/\c'.μ k=c.μ k/\(ae c.S k).dim≠Y:=by
  intro k h q f;rw[J k h q]at f⊢;obtain⟨A,v⟩:=w9 h q f;have B:=X.fr k h q A;rw[v]at f;simp only[zC]at f v;rw[fF]at f
  have E:ae c'.S k=(ae c.S k).freeze:=by
   rw[M.fz k (by rw[B,ke]) (by rw[B,fF];exact f),B]
  refine⟨A,v,E, ?_,f⟩;cases r:(ae c.S k).dim with
  |none=>exact(f r).elim
  |some d=>exact(t.al k d h (by rw[E,fF];exact r)).2
 have K: ∀k,k<c.S.length->k∉fx->(ae ct.S k).dim≠Y->∀b y,c.μ k=O b->c.Z.m b=O y->c'.Z.m b=O y:=by
  intro k h q f b y u Q;obtain⟨A,v,B,E,H⟩:=p k h q f;have h6:=X.un k h q A H b y u Q;have h7:=X.fr k h q A
  have V:c1.μ k=O b:=by
   cases r:(ae c.S k).dim with
   |none=>exact(H r).elim
   |some d=>rw[(X.le.al k d h (by rw[h7,fF];exact r)).2];exact u
  have h8: ¬c1.mut b:=hR1.fz_mut (by rw[h7,ke]) (by rw[h7,fF];exact H) V;exact M.un b y h6 λe=>h8 (.inl e)
 have g:GT c c' ct c.S.length id fx sk st fs bs:=by
  refine⟨rfl,rfl,by simp[ct,s2],λk h q=> ?_,λi j b hi T=> ?_,λj w=>(lI D w).1,λi b T=> ?_,λ_=>rfl,λk h=>zE h,λi x hx=> ?_,t.un,t.ow,t.n,λk h q f b y u Q=> ?_,λk h q f s hs z b u e=> ?_,λj w f=> ?_,λj w=>(lI D w).2,
   λ_ _ _ _ e=>e,λk b f u=> ?_,λj w q=> ?_,λk h q z b y u Q=> ?_,λk h q z s hs hsd b u e=> ?_,λb T=> ?_,λj w=>(lI D w).1,hro, .inr λk h q f=>by rw[(p k h (λe=>q k e rfl) f).2.1,ke]⟩
  .have P:k∉fx:=λe=>q k e rfl
   rw[J k h P];by_cases f:(ae (jA fx mov Za 0 c.S) k).dim=Y
   .rw[lR h,aD,jB P]at f⊢;by_cases u:k∈mov
    .rw[jH.2 u]at f⊢;cases z:(ae c.S k).frozen with
     |false=>exact .inr (.inr ⟨rfl,rfl⟩)
     |true=>exact .inl rfl
    .rw[jB u];exact .inr (.inl rfl)
   .exact .inr (.inl (w9 h P f).2)
  .have w:=cB hi;have C:=(lI D w).1;show ae ct.S j=b;rw[I j C];exact s4 nd1 i j b hi T C
  .show ae (S'++bs) (c.S.length+i)=b;rw[<-s2,rH];exact vB T
  .show(if c.S.length+i<c.S.length then _ else _)=_;rw[Zh,cK,hx]
  .exact K k h (λe=>q k e rfl) f b y u Q
  .obtain⟨A,v,B,E,H⟩:=p k h (λe=>q k e rfl) f;have:=L.inj s k b z (by rw[B,fF];exact H) u (E.trans e);subst this;rw[B,ke]at z;cases z
  .have C:=(lI D w).1;cases r:(ae c'.S j).dim with
   |none=>exact(f r).elim
   |some d=>
    obtain⟨A,v⟩:=t.al j d C r;exact⟨A,v,λb y u Q=>t.ln j d b y C r u Q⟩
  .rw[<-U];exact L.fbk k b f u
  .refine⟨by simp only[id,ct,bD,s2];omega,λd' F=> ?_⟩;obtain⟨A,v,B,E,H⟩:=p j w q (by rw[show id j=j from rfl]at F;rw[F];simp);rw[show id j=j from rfl,v]at F;refine⟨d',by rw[B];exact F,rfl, ?_,rfl⟩;show(if j<c.S.length then c.μ j else _)=_;rw[zE w,E]
  .obtain⟨A,v,B,E,H⟩:=p k h (λe=>q k e rfl) (lT z);rw[v,ke]at z;cases z
  .obtain⟨A,v,B,E,H⟩:=p k h (λe=>q k e rfl) (lT z);rw[v,ke]at z;cases z
  .exact .inr (by rw[U];exact T)
 obtain⟨r1,r2,r3⟩:=g.all hR L hd he hf;exact⟨ct,rfl,rfl,rfl,λk h=>zE h,r1,r2,r3,λk h q f=>⟨(p k h q f).1,K k h q f⟩⟩
theorem VF (I:dv c)
  (w:JG c.S fx=Za) (L:sk.fxRo=Za) (P:mG c.S c.S.length fx sk vals=O st) (W:pp id sk st.ls=O (vs,fs,bs)) (X:F2 (VRel c) vals as) (V:vE fx fs (jA fx (nT st.m) Za 0 c.S)=O S'):
  ∃ct:Ctx,ct.Z=c.Z/\ct.S=S'++bs/\ct.fb=c.fb/\(∀k,k<c.S.length->ct.μ k=c.μ k)/\Le c ct/\dv ct/\F2 (VRel ct) vs as:=by
 obtain⟨s1,F,s3,T⟩:=jI V;rw[lS]at F T;obtain⟨K,_⟩:=po P;have E:=pj K;rw[cD]at E;obtain⟨M,_,_⟩:=E
 let ct:Ctx:=⟨λi=>if i<c.S.length then c.μ i else match st.m[i-c.S.length]? with
  |some x=>Bh c x
  |none=>Y,S'++bs,c.Z,c.fb⟩
 have z: ∀k,k<c.S.length->ae ct.S k=ae S' k:=λk f=>mK (by rw[F];exact f)
 have A: ∀k,k<c.S.length->k∉fx->ae ct.S k=ae (jA fx (nT st.m) Za 0 c.S) k:=λk f p=>by rw[z k f,s3 k p]
 have n: ∀k,k<c.S.length->k∉fx->(ae ct.S k).dim≠Y->(k∉nT st.m∨(ae c.S k).frozen=Za)/\ae ct.S k=(ae c.S k).freeze/\(ae c.S k).dim≠Y:=by
  intro k f p d;rw[A k f p]at d⊢;obtain⟨h1,t⟩:=w9 f p d;rw[t]at d;simp only[zC]at d t;rw[fF]at d;exact⟨h1,t,d⟩
 have g:GT c c ct c.S.length id fx sk st fs bs:=by
  refine⟨rfl,rfl,by simp[ct,F],λk f p=> ?_,λi j b Q C=> ?_,λj r=>(lI w r).1,λi b C=> ?_,λ_=>rfl,λk f=>zE f,λi x hx=> ?_,λ_ _ h _=>h,λ_ _ _ h=>h,Nat.le_refl _,λk f p d b y v J=>J,λk f p d s hs q b v e=> ?_,λj r d=>⟨rfl,rfl,λb y _ J=>⟨y,J,rfl⟩⟩,λj r=>(lI w r).2,
   λ_ _ _ _ e=>e,λk b d v=>I.fbk k b d v,λj r p=> ?_,λk f p q b y v J=> ?_,λk f p q s hs hsd b v e=> ?_,λb C=> .inr C,λj r=>(lI w r).1,L, .inr λk f p d=>by rw[(n k f (λe=>p k e rfl) d).2.1,ke]⟩
  .have B:k∉fx:=λe=>p k e rfl
   rw[A k f B];by_cases d:(ae (jA fx (nT st.m) Za 0 c.S) k).dim=Y
   .rw[lR f,aD,jB B]at d⊢;by_cases v:k∈nT st.m
    .rw[jH.2 v]at d⊢;cases q:(ae c.S k).frozen with
     |false=>exact .inr (.inr ⟨rfl,rfl⟩)
     |true=>exact .inl rfl
    .rw[jB v];exact .inr (.inl rfl)
   .exact .inr (.inl (w9 f B d).2)
  .have r:=cB Q;have D:=(lI w r).1;show ae ct.S j=b;rw[z j D];exact T M i j b Q C D
  .show ae (S'++bs) (c.S.length+i)=b;rw[<-F,rH];exact vB C
  .show(if c.S.length+i<c.S.length then _ else _)=_;rw[Zh,cK,hx]
  .obtain⟨h1,t,H⟩:=n k f (λe=>p k e rfl) d;have:=I.inj s k b q H v e;subst this;rcases hs with hs|hs
   .exact p s hs rfl
   .rcases h1 with h1|h1
    .exact h1 hs
    .rw[h1]at q;cases q
  .refine⟨by simp only[id,ct,bD,F];omega,λU u=> ?_⟩;obtain⟨h1,t,H⟩:=n j r p (by rw[show id j=j from rfl]at u;rw[u];simp);rw[show id j=j from rfl,t,fF]at u;refine⟨U,u,rfl, ?_,rfl⟩;show(if j<c.S.length then c.μ j else _)=_;rw[zE r]
  .obtain⟨h1,t,H⟩:=n k f (λe=>p k e rfl) (lT q);rw[t,ke]at q;cases q
  .obtain⟨h1,t,H⟩:=n k f (λe=>p k e rfl) (lT q);rw[t,ke]at q;cases q
 obtain⟨r1,r2,r3⟩:=g.all I I P W X;exact⟨ct,rfl,rfl,rfl,λk f=>zE f,r1,r2,r3⟩
theorem NT {c1:Ctx}(d:Le c c1)(q:vE fx fs (jA fx mov Za 0 c.S)=O S')(p:c1.S=S'++bs)
  (f: ∀k,k<c.S.length->k∉fx->(k∉mov∨(ae c.S k).frozen=Za)->(ae c.S k).dim≠Y->∀b y,c.μ k=O b->c.Z.m b=O y->c1.Z.m b=O y):Within c c1 fx mov:=by
 obtain⟨t,n,r,u⟩:=jI q;rw[lS]at n;refine⟨d,λk g h e=> ?_,f⟩;rw[p,mK (by rw[n];exact g),r k h,lR g,aD,jB h];rcases e with e|hz
 .rw[jB e];rfl
 .cases kB k mov with
  |false=>rfl
  |true=>rw[hz];simp[A0 hz]
section
variable {ctf ct:Ctx}
theorem VRel.thaw (r:ct.μ=ctf.μ)(u:ct.Z=ctf.Z)(q:ct.S.length=ctf.S.length)(p: ∀k,(ae ct.S k).dim=(ae ctf.S k).dim): ∀{v:VV} {a:Value},VRel ctf v a->alV v=Zb->VRel ct v a
 |_,_, .undef a,_=> .undef a
 |_,_, .bool b,_=> .bool b
 |_,_, .int k n,_=> .int k n
 |_,_, .str w,_=> .str w
 |_,_, .nilp,_=> .nilp
 |_,_, .nils,_=> .nils
 |_,_, .nilf,_=> .nilf
 |_,_, .ptr g e f,_=> .ptr (by rw[q];exact g) e λd h=>by rw[p]at h;rw[r];exact f d h
 |_,_, .it g e w f,_=> .it (by rw[q];exact g) e w λd h=>by rw[p]at h;rw[r];exact f d h
 |_,_, .bld g e f,_=> .bld (by rw[q];exact g) e λd h=>by rw[p]at h;rw[r];exact f d h
 |_,_, .pix g e z f,_=> .pix (by rw[q];exact g) e z λd h=>by rw[p]at h;rw[r];exact f d h
 |_,_, .pel g e f,_=> .pel (by rw[q];exact g) e λd h=>by rw[p]at h;rw[r];exact f d h
 |_,_, .pin _ _ _ _,h=>by cases h
 |_,_, .lstn _,h=>by cases h
 |_,_, .tgtn _,h=>by cases h
 |_,_, .tgt _ _ _ _ _,h=>by cases h
 |_,_, .lst _ _ _ _ _ _ _,h=>by cases h
 |_,_, .full g e f,_=> .full (by rw[q];exact g) e λd h=>by
  rw[p]at h;obtain⟨n,y,t⟩:=f d h;refine⟨n,y, ?_⟩;unfold Ga at t⊢;rw[r,u];exact t
 |_,_, .part g e f,_=> .part (by rw[q];exact g) e λd h=>by
  rw[p]at h;have t:=f d h;unfold Ga at t⊢;rw[r,u];exact t
 |_,_, .fn e f,h=>by
  simp only[alV,aB]at h;exact .fn (go e h.1) (go f h.2)
 |_,_, .agg e,h=>by
  simp only[alV]at h;exact .agg (go e h)
 |_,_, .tup e,h=>by
  simp only[alV]at h;exact .tup (go e h)
where
 go: ∀{l:List VV} {m:List Value},F2 (VRel ctf) l m->Ox l=Zb->F2 (VRel ct) l m
  |_,_, .nil,_=> .nil
  |_,_, .cons e f,h=>by
   simp only[Ox,aB]at h;exact .cons (VRel.thaw r u q p e h.1) (go f h.2)
theorem F8 : ∀{s:Sh} (x:El s),s.al=Zb->Ox (dq s x)=Zb
 | .int _,_,_=>rfl
 | .bool,_,_=>rfl
 | .str,_,_=>rfl
 | .list _,_,h=>by cases h
 | .pair a b,x,h=>by
  simp only[Sh.al,aB]at h;have d:=F8 x.1 h.1;have e:=F8 x.2 h.2;simp only[dq];revert d;generalize dq a x.1=l;intro d;induction l with
  |nil=>exact e
  |cons v l f=>
   simp only[Ox,aB,bB]at d⊢;exact⟨d.1,f d.2⟩
theorem ae7 {l m:List VV}(d:Ox l=Zb)(e:Ox m=Zb):Ox (l++m)=Zb:=by
 induction l with
 |nil=>exact e
 |cons v l f=>
  simp only[Ox,aB,bB]at d⊢;exact⟨d.1,f d.2⟩
theorem Xf (h:alB b=Zb):Ox b.vals=Zb:=by
 cases b with
 |dead=>rfl
 |cells e z l=>exact h
 |arr s z l=>
  simp only[Blk.vals];induction l with
  |nil=>rfl
  |cons x l d=>rw[gf];exact ae7 (F8 x h) (d h)
theorem thaw {c:Ctx}{S2:ai}{vs:List VV}{as:List Value}(hR:dv c)(f:Le c ctf)(q:dv ctf)(hf:F2 (VRel ctf) vs as)(hal:Ox vs=Zb)(w:S2.length=ctf.S.length)(T: ∀k,k<c.S.length->ctf.μ k=c.μ k)
  (M: ∀k,(ae S2 k=ae ctf.S k/\((ae ctf.S k).dim≠Y->((ae ctf.S k).frozen=Zb/\alB (ae ctf.S k)=Zb)∨(k<c.S.length/\ae ctf.S k=ae c.S k/\∀b y,c.μ k=O b->c.Z.m b=O y->ctf.Z.m b=O y)))∨
   (k<c.S.length/\ae S2 k=ae c.S k/\ae ctf.S k=(ae c.S k).freeze/\((ae c.S k).dim≠Y->∀b y,c.μ k=O b->c.Z.m b=O y->ctf.Z.m b=O y))):
  Le c ⟨ctf.μ,S2,ctf.Z,ctf.fb⟩/\dv ⟨ctf.μ,S2,ctf.Z,ctf.fb⟩/\F2 (VRel ⟨ctf.μ,S2,ctf.Z,ctf.fb⟩) vs as:=by
 have H: ∀k,(ae S2 k).dim=(ae ctf.S k).dim:=by
  intro k;rcases M k with⟨h,_⟩|⟨_,p,e,_⟩
  .rw[h]
  .rw[p,e,fF]
 have D:Le c ⟨ctf.μ,S2,ctf.Z,ctf.fb⟩:=by
  refine⟨by rw[w];exact f.len,λk d J h=>f.al k d J (by rw[<-H];exact h),λk Q r=> ?_,λk d b y J h=>f.ln k d b y J (by rw[<-H];exact h),f.un,λb y hy hn=> ?_,f.n,f.fb⟩
  .rcases M k with⟨h,_⟩|⟨_,p,e,_⟩
   .rw[h];exact f.fz k Q r
   .exact p
  .rintro⟨k,p,e⟩;rcases M k with⟨h,_⟩|⟨z,L,X,_⟩
   .exact f.ow b y hy hn ⟨k,by rw[<-h];exact p,e⟩
   .exact hn ⟨k,by rw[<-L];exact p,by rw[<-T k z];exact e⟩
 have hth: ∀{v:VV} {a:Value},VRel ctf v a->alV v=Zb->VRel ⟨ctf.μ,S2,ctf.Z,ctf.fb⟩ v a:=λp e=>VRel.thaw (ctf:=ctf) (ct:=⟨ctf.μ,S2,ctf.Z,ctf.fb⟩) rfl rfl w H p e
 have E: ∀{l:List VV} {m:List Value},F2 (VRel ctf) l m->Ox l=Zb->F2 (VRel ⟨ctf.μ,S2,ctf.Z,ctf.fb⟩) l m:=λp e=>VRel.thaw.go (ctf:=ctf) (ct:=⟨ctf.μ,S2,ctf.Z,ctf.fb⟩) rfl rfl w H p e
 refine⟨D,⟨q.ok,λk C b Q r P B=> ?_,λk=> ?_,λk b r P=>q.fbk k b (by rw[<-H];exact r) P,q.fbl⟩,E hf hal⟩
 .have u:(ae ctf.S C).dim≠Y:=by rw[<-H];exact r
  rcases M k with⟨h,_⟩|⟨z,L,X,_⟩
  .exact q.inj k C b (by rw[<-h];exact Q) u P B
  .rw[L]at Q;rw[T k z]at P
   have F:(C<c.S.length/\(ae c.S C).dim≠Y)∨(ae ctf.S C).frozen=Zb:=by
    rcases M C with⟨g1,A⟩|⟨g1,A,g3,_⟩
    .rcases A u with⟨A,_⟩|⟨A,g3,_⟩
     .exact .inr A
     .exact .inl ⟨A,by rw[<-g3];exact u⟩
    .exact .inl ⟨g1,by rw[<-A];exact r⟩
   rcases F with⟨g1,A⟩|g1
   .rw[T C g1]at B;exact hR.inj k C b Q A P B
   .exact(q.inj C k b g1 (by rw[X,fF];exact lT Q) B (by rw[T k z];exact P)).symm
 .intro d I
  have V:k<c.S.length->ae S2 k=ae c.S k->(∀b y,c.μ k=O b->c.Z.m b=O y->ctf.Z.m b=O y)->1<=d.1/\
   ((d.2=0/\ctf.μ k=Y)∨∃b y K g,ctf.μ k=O b/\ctf.Z.m b=O y/\y.es=d.1/\((ae S2 k).frozen=Zb->y.own=Za)/\y.cells=K++g/\F2 (VRel ⟨ctf.μ,S2,ctf.Z,ctf.fb⟩) (ae S2 k).vals K):=by
   intro p e z;obtain⟨q1,t⟩:=hR.blk k d (by rw[<-e];exact I);refine⟨q1, ?_⟩;rcases t with⟨t,W⟩|⟨b,y,K,g,t,W,q4,q5,q6,q7⟩
   .exact .inl ⟨t,(T k p).trans W⟩
   .exact .inr ⟨b,y,K,g,(T k p).trans t,z b y t W,q4,by rw[e];exact q5,q6,by rw[e];exact VRel.frames D q7⟩
  rcases M k with⟨h,h'⟩|⟨z,L,X,h6⟩
  .have U:(ae ctf.S k).dim=O d:=by rw[<-H];exact I
   rcases h' (by rw[U];simp)with⟨p,e⟩|⟨p,e,z⟩
   .obtain⟨q1,t⟩:=q.blk k d U;refine⟨q1, ?_⟩;rcases t with t|⟨b,y,K,g,t,W,q4,q5,q6,q7⟩
    .exact .inl t
    .exact .inr ⟨b,y,K,g,t,W,q4,by rw[h];exact q5,q6,by rw[h];exact E q7 (Xf e)⟩
   .exact V p (h.trans e) z
  .exact V z L (h6 (by rw[<-L,I];simp))
end
end
section
open List renaming getElem?_eq_getElem -> aB, nodup_nil -> aD, getElem?_eq_none -> bB, mem_cons_self -> bD
theorem Nw : ∀{m:List (Option Src)},Nv m=Za->∀(i:Nat) (x:Option Src),m[i]?=O x->∃k,x=O ⟨k,Y⟩
 |[],_,i,x,h=>by simp at h
 |none::_,h,_,_,_=>by cases h
 |some ⟨k,O n⟩::_,h,_,_,_=>by cases h
 |some ⟨k,Y⟩::r,h,0,x,d=>by simp at d;exact⟨k,d.symm⟩
 |some ⟨k,Y⟩::r,h,i+1,x,d=>Nw (m:=r) h i x (by simpa using d)
theorem HX : ∀{os:List OSk} {i j:Nat},j∈tf os i↔∃p o,os[p]?=O o/\o.ro=Zb/\j=i+p
 |[],i,j=>by simp[tf]
 |o::os,i,j=>by
  simp only[tf];have n:= @HX os (i+1) j;constructor
  .intro h;cases g:o.ro with
   |true=>
    rw[g,zC]at h;obtain⟨p,f,d,e,q⟩:=n.1 h;exact⟨p+1,f,by simpa using d,e,by omega⟩
   |false=>
    rw[g,zD]at h;rcases List.mem_cons.1 h with h|h
    .exact⟨0,o,rfl,g,by omega⟩
    .obtain⟨p,f,d,e,q⟩:=n.1 h;exact⟨p+1,f,by simpa using d,e,by omega⟩
  .rintro⟨p,f,d,e,q⟩;cases p with
   |zero=>
    simp at d;subst d;rw[e,zD];exact List.mem_cons.2 (.inl (by omega))
   |succ p=>
    have:=n.2 ⟨p,f,by simpa using d,e,by omega⟩;cases o.ro with
    |true=>exact this
    |false=>exact List.mem_cons_of_mem _ this
theorem Nd : ∀{os:List OSk} {m:List (Option Src)} {i:Nat} {f:Nat->Nat},os.length=m.length->(∀(p:Nat) (x:Option Src),m[p]?=O x->∃k,x=O ⟨k,Y⟩/\f (i+p)=k)->(tf os i).map f=jJ os m
 |[],[],i,f,_,_=>rfl
 |[],_::_,_,_,h,_=>by simp at h
 |_::_,[],_,_,h,_=>by simp at h
 |o::os,x::m,i,f,h,e=>by
  obtain⟨k,n,d⟩:=e 0 x rfl;subst n
  have g:= @Nd os m (i+1) f (by simpa using h) λp y t=>by
   obtain⟨u,q,r⟩:=e (p+1) y (by simpa using t);exact⟨u,q,by rw[<-r];congr 1;omega⟩
  simp only[tf,jJ];cases o.ro with
  |true=>exact g
  |false=>
   simp only[zD,List.map_cons,g];rw[Nat.add_zero]at d;rw[d]
theorem Eu : ∀{os:List OSk} {m:List (Option Src)} {k:Nat},k∈jJ os m->∃(i:Nat) (o:OSk) (x:Src),m[i]?=O (O x)/\os[i]?=O o/\o.ro=Zb/\x.k=k
 |[],[],k,h=>by simp[jJ]at h
 |[],_::_,k,h=>by simp[jJ]at h
 |_::_,[],k,h=>by simp[jJ]at h
 |o::os,Y::m,k,h=>by
  obtain⟨i,n,x,d,e,f,g⟩:=Eu (os:=os) (m:=m) h;exact⟨i+1,n,x,by simpa using d,by simpa using e,f,g⟩
 |o::os,O x::m,k,h=>by
  simp only[jJ]at h;cases p:o.ro with
  |true=>
   rw[p,zC]at h;obtain⟨i,n,q,d,e,f,g⟩:=Eu (os:=os) (m:=m) h;exact⟨i+1,n,q,by simpa using d,by simpa using e,f,g⟩
  |false=>
   rw[p,zD]at h;rcases List.mem_cons.1 h with h|h
   .exact⟨0,o,x,rfl,rfl,p,h.symm⟩
   .obtain⟨i,n,q,d,e,f,g⟩:=Eu (os:=os) (m:=m) h;exact⟨i+1,n,q,by simpa using d,by simpa using e,f,g⟩
theorem Lg : ∀{m:List (Option Src)} {k:Nat},k∈nT m->∃(i:Nat) (x:Src),m[i]?=O (O x)/\x.k=k
 |[],k,h=>by simp[nT]at h
 |none::m,k,h=>by
  obtain⟨i,x,d,e⟩:=Lg (m:=m) h;exact⟨i+1,x,by simpa using d,e⟩
 |some x::m,k,h=>by
  rcases List.mem_cons.1 h with h|h
  .exact⟨0,x,rfl,h.symm⟩
  .obtain⟨i,f,d,e⟩:=Lg (m:=m) h;exact⟨i+1,f,by simpa using d,e⟩
theorem uA : ∀{os:List OSk} {m:List (Option Src)},(nT m).Nodup->(jJ os m).Nodup
 |[],[],_=>aD
 |[],_::_,_=>aD
 |_::_,[],_=>aD
 |o::os,Y::m,h=>uA (os:=os) (m:=m) h
 |o::os,O x::m,h=>by
  have d:=List.nodup_cons.1 h;have e:=uA (os:=os) d.2;simp only[jJ];cases o.ro with
  |true=>exact e
  |false=>
   refine List.nodup_cons.2 ⟨λf=>d.1 ?_,e⟩;obtain⟨i,p,q,g,_,_,n⟩:=Eu f;rw[<-n];exact yv g
theorem Pl {S:ai}{N:Nat}: ∀{os:List OSk} {i:Nat} {st f:DSt},tb S N os i st=O f->∀(p:Nat) (o:OSk) (x:Src),os[p]?=O o->o.ro=Za->f.m[i+p]?=O (O x)->x.k∈f.lent
 |[],i,st,f,h,p,o,x,q,_,_=>by simp at q
 |o'::os,i,st,f,h,p,o,x,q,g,r=>by
  simp only[tb]at h;split at h
  .rename_i y C;obtain⟨D,e,u⟩:=ah h;cases p with
   |succ p=>exact Pl u p o x (by simpa using q) g (by rw[<-r];congr 1;omega)
   |zero=>
    simp at q;subst q;obtain⟨K,E⟩:=(GH e).m;obtain⟨L,F⟩:=(pn u).m
    have w:f.m[i]?=O y:=by
     rw[<-we,F,E];exact GZ (GZ C)
    rw[Nat.add_zero,w]at r;injection r with r
    subst r;refine(pn u).lent _ ?_;unfold SC at e;split at e
    .cases g
    .rename_i d;injection d with d
     subst d;split at e
     .rename_i A ro l k _ t B H J;simp only[OSk.ro]at g;subst g;cases n:(Nat.beq A t&&(Za|| !B))with
      |false=>rw[n]at e;cases e
      |true=>
       rw[n,zC]at e;exact(tc _ _ _ _ e).lent _ bD
     .cases e
    .rename_i d;cases d
    .rename_i d;injection d with d
     subst d;rename_i ro s z _ _;simp only[OSk.ro]at g;subst g;cases n:(Za|| !(ae S _).frozen)with
     |false=>rw[n]at e;cases e
     |true=>
      rw[n,zC]at e;obtain⟨l,I,v⟩:=ah e;injection v with v
      subst v;exact bD
    .cases e
  .cases h
def lH (c:Ctx)(st:DSt)(bs:List Blk):Ctx:=⟨λi=>match st.m[i]? with
 |some x=>Bh c x
 |none=>Y,bs,c.Z,λb=>c.mut b/\¬∃k,(k∈nT st.m∨k∈st.lent)/\(ae c.S k).dim≠Y/\c.μ k=O b⟩
structure Entered (c c0:Ctx)(objs:List OSk)(st:DSt)(bs:List Blk):Prop where
 rel:dv c0
 sub: ∀i,(ae c0.S i).dim≠Y->∃x,st.m[i]?=O x/\c0.μ i=Bh c x/\∀y,x=O y->(ae c.S y.k).dim≠Y/\(y.cut=Y->(ae c0.S i).dim=(ae c.S y.k).dim)/\((ae c0.S i).frozen=Zb->(ae c.S y.k).frozen=Zb)
 own: ∀b,c0.own b->c.own b
 fz: ∀(i:Nat) (o:OSk),objs[i]?=O o->o.ro=Za->(ae c0.S i).frozen=Za/\(ae c0.S i).dim≠Y
 len:bs.length=objs.length/\st.m.length=objs.length
theorem enter (F:dv c)(h0:sk.fix=[])(hd:mG c.S 0 [] sk vals=O st)(he:pp id sk st.ls=O (vs,fs,bs))(hf:F2 (VRel c) vals as):
  Entered c (lH c st bs) sk.free st bs/\F2 (VRel (lH c st bs)) vs as:=by
 obtain⟨ct0,vs0,fs0,bs0,L,p2,p3⟩:=M3 (f:=id) F hd hf;rw[he]at L;injection L with L
 injection L with q1 L
 injection L with q2 q3
 subst q1;subst q2;subst q3;obtain⟨ap1,P⟩:=po hd;have T:=pj ap1;rw[List.nil_append]at T P;obtain⟨V,y2,y3⟩:=p3.get
 have J: ∀i,(ae bs i).dim≠Y->∃(x:Option Src) (o:OSk),st.m[i]?=O x/\sk.free[i]?=O o/\uC c ct0 o x (ae bs i):=by
  intro i H;have u:=me H;have C:=aB u;have t:i<st.m.length:=by rw[V];exact u
  obtain⟨o,g,q⟩:=y3 i _ _ (aB t) C;rw[vB C];exact⟨_,o,aB t,g,q⟩
 have v: ∀i x,st.m[i]?=O x->(lH c st bs).μ i=Bh c x:=by
  intro i x Z
  show(match st.m[i]? with
   |some x=>Bh c x
   |none=>Y)=_
  rw[Z]
 have I: ∀i,(ae bs i).frozen=Zb->∀b,(lH c st bs).μ i=O b->∃x,st.m[i]?=O (O x)/\(ae c.S x.k).frozen=Zb/\c.μ x.k=O b/\x.k∈jJ sk.free st.m:=by
  intro i z b t;obtain⟨x,o,g,q,p⟩:=J i (lT z);rw[v i x g]at t;rcases p with⟨_,p⟩|⟨p,r⟩
  .rw[p]at z;cases z
  .cases x with
   |none=>cases t
   |some x=>
    obtain⟨k,B⟩:=x;rw[p]at z;exact⟨_,g,r.1 z,t,Hu g q z⟩
 have K: ∀i,(ae bs i).dim≠Y->∀b,(lH c st bs).μ i=O b->∃x,st.m[i]?=O (O x)/\(ae c.S x.k).dim≠Y/\c.μ x.k=O b:=by
  intro i z b t;obtain⟨x,o,g,q,p⟩:=J i z;rw[v i x g]at t;rcases p with⟨_,p⟩|⟨p,r⟩
  .rw[p]at z;exact(z rfl).elim
  .cases x with
   |none=>cases t
   |some x=>
    obtain⟨k,B⟩:=x;obtain⟨_,d,w,_⟩:=r;exact⟨_,g,by rw[w];simp,t⟩
 have hT:Tell c (lH c st bs) 0 id st:=by
  refine⟨⟨rfl,λb y hy hn=> ?_⟩,λj x hl=> ?_,λs hs U b t=> ?_⟩
  .rintro(⟨i,g,q⟩|h)
   .obtain⟨x,_,p,r,_⟩:=I i g b q;exact hn (.inl ⟨x.k,p,r⟩)
   .exact hn h.1
  .rcases hl with⟨g,_⟩|⟨_,q⟩
   .omega
   .rw[Nat.sub_zero,we]at q
    have u:j<bs.length:=by
     rw[<-V];rcases Nat.lt_or_ge j st.m.length with h|h
     .exact h
     .rw[bB h]at q;cases q
    refine⟨u,λd' D=> ?_⟩;obtain⟨x',o,g,p,r⟩:=J j (by rw[show(ae bs j).dim=O d' from D];simp);rw[q]at g;injection g with g
    subst g;have e:(ae bs j).dim=O d':=D;rcases r with⟨_,r⟩|⟨r,w⟩
    .rw[r]at e;cases e
    .cases x with
     |none=>
      obtain⟨_,s,E⟩:=w;rw[E]at e;injection e with e
      subst e;exact⟨by simp,v j _ q⟩
     |some x=>
      obtain⟨k,B⟩:=x;obtain⟨_,d,E,W,_⟩:=w;refine⟨d,E, ?_⟩;cases B with
      |none=>
       simp only at W;rw[W]at e;injection e with e
       subst e;exact⟨rfl,v j _ q,rfl⟩
      |some n=>
       simp only at W;rw[W]at e;injection e with e
       subst e;exact⟨rfl,v j _ q,rfl⟩
  .rintro(⟨i,g,q⟩|h)
   .obtain⟨x,_,p,r,w⟩:=I i g b q;have:=F.inj x.k s b p U r t;rw[this]at w;exact K5 P w hs
   .exact h.2 ⟨s, .inr hs,U,t⟩
 obtain⟨vs1,fs1,bs1,M,r2,r3,r4⟩:=HR F hT hd hf;rw[he]at M;injection M with M
 injection M with e1 M
 injection M with e2 e3
 subst e1;subst e2;subst e3;obtain⟨_,_,y4⟩:=r4.get;refine⟨⟨⟨F.ok,λi i' b z A t hm'=> ?_,λi=> ?_,λi b A t C=> ?_,λb C=> ?_⟩,λi H=> ?_,λb C=> ?_,λi o ho X=> ?_,⟨y2.symm,by rw[V,y2]⟩⟩,r2⟩
 .obtain⟨x,g,q,p,_⟩:=I i z b t;obtain⟨x',r,w,E⟩:=K i' A b hm';exact GR T g r (F.inj _ _ b q w p E)
 .by_cases A:(ae bs i).dim=Y
  .intro d D;rw[show(ae (lH c st bs).S i).dim=Y from A]at D;cases D
  .have u:=me A;have C:=aB u;have t:i<st.m.length:=by rw[V];exact u
   obtain⟨o,g,q⟩:=y4 i _ _ (aB t) C;exact q.blkRel (ct:=lH c st bs) F rfl (vB C) λ_=>v i _ (aB t)
 .obtain⟨x',r,w,E⟩:=K i A b t;exact C.2 ⟨x'.k, .inl (yv r),w,E⟩
 .rcases C.1 with⟨k,g,q⟩|h
  .cases Q:(ae c.S k).dim with
   |none=>exact(lT g Q).elim
   |some d=>
    obtain⟨y,_,_,hy,_⟩:=F.block Q q;exact F.ok b y hy
  .exact F.fbl b h
 .obtain⟨x,o,g,q,p⟩:=J i H;refine⟨x,g,v i x g,λy hy=> ?_⟩;subst hy;rcases p with⟨_,p⟩|⟨p,r,d,w,E,_⟩
  .rw[show ae (lH c st bs).S i=ae bs i from rfl,p]at H;exact(H rfl).elim
  .refine⟨by rw[w];simp,λhc=> ?_,λz=>r (by rw[<-p];exact z)⟩;rw[hc]at E;rw[w];exact E
 .obtain⟨i,g,q⟩:=C;obtain⟨x,_,p,r,_⟩:=I i g b q;exact⟨x.k,p,r⟩
 .have H:i<bs.length:=by
   rw[<-y2];rcases Nat.lt_or_ge i sk.free.length with h|h
   .exact h
   .rw[bB h]at ho;cases ho
  have t:i<st.m.length:=by rw[V];exact H
  obtain⟨o',g,q⟩:=y3 i _ _ (aB t) (aB H);rw[ho]at g;injection g with g
  subst g;rw[show ae (lH c st bs).S i=ae bs i from rfl,vB (aB H)];rcases q with⟨q,_⟩|⟨q,p⟩
  .subst q;cases X
  .refine⟨q.trans X, ?_⟩;cases Z:st.m[i]with
   |none=>rw[Z]at p;obtain⟨p,_⟩:=p;rw[p]at X;cases X
   |some x=>
    obtain⟨k,B⟩:=x;rw[Z]at p;obtain⟨_,d,_,r,_⟩:=p;cases B with
    |none=>simp only at r;rw[r];simp
    |some n=>simp only at r;rw[r];simp
end
section
open List renaming getElem?_eq_getElem -> aB, getElem?_eq_none -> aD
open Nat renaming lt_or_ge -> bB, add_sub_cancel_left -> bD
theorem Ni : ∀{l:List Nat} {S:ai} {k:Nat},k∈l->(ae (CG l S) k).frozen=Za
 |[],S,k,h=>by simp at h
 |a::l,S,k,h=>by
  simp only[CG];by_cases d:k∈l
  .exact Ni d
  .have:k=a:=by
    rcases List.mem_cons.1 h with h|h
    .exact h
    .exact(d h).elim
   subst this;rcases(uq l (kE S k (ae S k).freeze)).2 k with h1|h1
   .rw[h1,xy];split
    .exact ke
    .rename_i f;have: ¬k<S.length:=λe=>f ⟨rfl,e⟩
     rw[vC (by omega)];rfl
   .rw[h1];exact ke
theorem We {c0:Ctx}{f:List OSk}{bs0:List Blk}{Sf:ai}(hR:dv c)(h0:c0=lH c st bs0)(hE:Entered c c0 f st bs0)(z:Le c0 c')(hR':dv c')
  (hcut:Nv st.m=Za) (hok:JG c.S (jJ f st.m)=Za) (hnd:(nT st.m).Nodup) (hlent: ∀(i:Nat) (o:OSk) (x:Src),f[i]?=O o->o.ro=Za->st.m[i]?=O (O x)->x.k∈st.lent)
  (hro:sk.noRo=Za) (hd:mG c'.S f.length (tf f 0) sk vals=O st') (he:pp (vX st.m f.length c.S.length) sk st'.ls=O (vs,fs,bs)) (hf:F2 (VRel c') vals as) (hS:vE (jJ f st.m) fs (CG st.lent c.S)=O Sf):
  ∃ct:Ctx,ct.Z=c'.Z/\ct.S=Sf++bs/\ct.fb=c.fb/\(∀k,k<c.S.length->ct.μ k=c.μ k)/\Le c ct/\dv ct/\F2 (VRel ct) vs as/\
   (∀k,k<c.S.length->k∉jJ f st.m->(ae c.S k).dim≠Y->∀b y,c.μ k=O b->c.Z.m b=O y->ct.Z.m b=O y):=by
 have K:c0.Z=c.Z:=by rw[h0];rfl
 have I: ∀b,c0.fb b↔(c.mut b/\¬∃k,(k∈nT st.m∨k∈st.lent)/\(ae c.S k).dim≠Y/\c.μ k=O b):=by rw[h0];exact λb=>Iff.rfl
 have hS0:c0.S=bs0:=by rw[h0];rfl
 have H:c'.fb=c0.fb:=z.fb;obtain⟨l1,l2⟩:=hE.len;obtain⟨s1,s2,s3,s4⟩:=jI hS;rw[(uq st.lent c.S).1]at s2 s4;have hfz:=uq st.lent c.S
 have pos: ∀i,i<f.length->∃k,st.m[i]?=O (O ⟨k,Y⟩)/\vX st.m f.length c.S.length i=k:=by
  intro i hi;have w:i<st.m.length:=by omega
  obtain⟨k,q⟩:=Nw hcut i _ (aB w);have h1:st.m[i]?=O (O ⟨k,Y⟩):=by rw[aB w,q]
  refine⟨k,h1, ?_⟩;unfold vX;rw[show Nat.blt i f.length=Za from Nat.ble_eq_true_of_le hi,zC,we,h1]
 have Q:(tf f 0).map (vX st.m f.length c.S.length)=jJ f st.m:=by
  refine Nd l2.symm λp x hx=> ?_
  have hp:p<f.length:=by
   rw[<-l2];rcases bB p st.m.length with h|h
   .exact h
   .rw[aD h]at hx;cases hx
  obtain⟨k,h1,t⟩:=pos p hp;rw[hx]at h1;injection h1 with h1
  exact⟨k,h1,by rw[Nat.zero_add];exact t⟩
 have C: ∀j,j∈tf f 0->j<f.length/\∃o,f[j]?=O o/\o.ro=Zb:=by
  intro j A;obtain⟨p,o,h1,t,u⟩:=HX.1 A;rw[Nat.zero_add]at u;subst u;refine⟨?_,o,h1,t⟩;rcases bB j f.length with h|h
  .exact h
  .rw[aD h]at h1;cases h1
 have fxw: ∀j,j∈tf f 0->vX st.m f.length c.S.length j∈jJ f st.m:=λj A=>by rw[<-Q];exact List.mem_map_of_mem A
 have wfx: ∀k,k∈jJ f st.m->∃j,j∈tf f 0/\vX st.m f.length c.S.length j=k:=λk q=>by rw[<-Q]at q;obtain⟨j,h1,t⟩:=List.mem_map.1 q;exact⟨j,h1,t⟩
 have E: ∀k,(∀j,j∈tf f 0->vX st.m f.length c.S.length j≠k)->k∉jJ f st.m:=λk q h=>by obtain⟨j,h1,t⟩:=wfx k h;exact q j h1 t
 let ct:Ctx:=⟨λi=>if i<c.S.length then c.μ i else match st'.m[i-c.S.length]? with
  |some x=>Bh c' x
  |none=>Y,Sf++bs,c'.Z,c.fb⟩
 have hget: ∀k,k<c.S.length->ae ct.S k=ae Sf k:=λk q=>mK (by rw[s2];exact q)
 have U: ∀k,k<c.S.length->k∉jJ f st.m->ae ct.S k=ae (CG st.lent c.S) k:=λk q v=>by rw[hget k q,s3 k v]
 have own0: ∀b,c0.own b->∃k,k∈jJ f st.m/\(ae c.S k).frozen=Zb/\c.μ k=O b:=by
  rintro b ⟨i,h1,t⟩;obtain⟨x,u,D,F⟩:=hE.sub i (lT h1);rw[D]at t;cases x with
  |none=>cases t
  |some x=>
   obtain⟨h6,_,h8⟩:=F x rfl
   have hi:i<f.length:=by
    rw[<-l2];rcases bB i st.m.length with h|h
    .exact h
    .rw[aD h]at u;cases u
   have ho:f[i]?=O f[i]:=aB hi;refine⟨x.k,Hu u ho ?_,h8 h1,t⟩;cases hr:(f[i]).ro with
   |false=>rfl
   |true=>rw[(hE.fz i _ ho hr).1]at h1;cases h1
 have nown: ∀k,k∉jJ f st.m->(ae c.S k).dim≠Y->∀b,c.μ k=O b->¬c0.own b:=by
  intro k q r b w h;obtain⟨M,h1,t,u⟩:=own0 b h;have:=hR.inj M k b t r u w;subst this;exact q h1
 have hun: ∀k,k<c.S.length->k∉jJ f st.m->(ae c.S k).dim≠Y->∀b y,c.μ k=O b->c.Z.m b=O y->c'.Z.m b=O y:=λk _ q r b y w J=>z.un b y (by rw[K];exact J) (nown k q r b w)
 have B: ∀k b,(ae c.S k).dim≠Y->c.μ k=O b->∃y,c.Z.m b=O y:=by
  intro k b r w;cases L:(ae c.S k).dim with
  |none=>exact(r L).elim
  |some d=>
   obtain⟨y,_,_,J,_⟩:=hR.block L w;exact⟨y,J⟩
 have P: ∀k,k<c.S.length->k∉jJ f st.m->(ae ct.S k).dim=(ae c.S k).dim:=λk q v=>by rw[U k q v];exact hfz.dim k
 have X: ∀k,k<c.S.length->k∉jJ f st.m->(ae ct.S k).frozen=Zb->∀b,c.μ k=O b->(ae c.S k).frozen=Zb/\¬∃M,(M∈nT st.m∨M∈st.lent)/\(ae c.S M).dim≠Y/\c.μ M=O b:=by
  intro k q v W b w;rw[U k q v]at W;have hz':(ae c.S k).frozen=Zb:=by rw[<-hfz.fz W];exact W
  refine⟨hz', ?_⟩;rintro⟨M,h1,t,u⟩;have:=hR.inj k M b hz' t w u;subst this;have hnl:k∉st.lent:=λe=>by rw[Ni e]at W;cases W
  rcases h1 with h1|h1
  .obtain⟨i,x,D,F⟩:=Lg h1
   have hi:i<f.length:=by
    rw[<-l2];rcases bB i st.m.length with h|h
    .exact h
    .rw[aD h]at D;cases D
   have ho:f[i]?=O f[i]:=aB hi;cases hr:(f[i]).ro with
   |true=>exact hnl (by rw[<-F];exact hlent i _ x ho hr D)
   |false=>exact v (by rw[<-F];exact Hu D ho hr)
  .exact hnl h1
 have g:GT c c' ct f.length (vX st.m f.length c.S.length) (tf f 0) sk st' fs bs:=by
  refine⟨rfl,rfl,by simp[ct,s2],λk q v=> ?_,λi j b hi T=> ?_,λj A=>(lI hok (fxw j A)).1,λi b T=> ?_,λi=> ?_,λk q=>zE q,λi x hx=> ?_,λb y J v=>z.un b y (by rw[K];exact J) λe=>v (hE.own b e),λb y J v=>z.ow b y (by rw[K];exact J) λe=>v (hE.own b e),by rw[<-K];exact z.n,λk q v r b y w J=> ?_,λk q v r s hs W b w e=> ?_,λj A r=> ?_,λj A=>(lI hok (fxw j A)).2,
   λj j' A hj' e=> ?_,λk b r w T=> ?_,λj A v=> ?_,λk q v W b y w J=> ?_,λk q v W s hs hsd b w e=> ?_,λb T=> ?_,λj A=>(C j A).1,Ul hro, .inl hro⟩
  .rw[U k q (E k v)];rcases hfz.2 k with h|h
   .exact .inl h
   .exact .inr (.inl h)
  .have A:=List.mem_of_getElem? hi;have hw:=fxw j A;have hlt:=(lI hok hw).1;show ae ct.S _=b;rw[hget _ hlt];refine s4 (uA hnd) i _ b ?_ T hlt;rw[<-Q,List.getElem?_map,hi];rfl
  .show ae (Sf++bs) (c.S.length+i)=b;rw[<-s2,rH];exact vB T
  .unfold vX
   have:Nat.blt (f.length+i) f.length=Zb:=by
    cases T:Nat.blt (f.length+i) f.length with
    |false=>rfl
    |true=>have:=Nat.le_of_ble_eq_true T;omega
   rw[this,zD,bD]
  .show(if c.S.length+i<c.S.length then _ else _)=_;rw[Zh,bD,hx]
  .exact hun k q (E k v) (by rw[<-P k q (E k v)];exact r) b y w J
  .have hdm':(ae c.S k).dim≠Y:=by rw[<-P k q (E k v)];exact r
   obtain⟨y,J⟩:=B k b hdm' e;exact z.ow b y (by rw[K];exact J) (nown k (E k v) hdm' b e) ⟨s,W,w⟩
  .obtain⟨k,h1,t⟩:=pos j (C j A).1;have hj0:j<c0.S.length:=by rw[hS0,l1];exact(C j A).1
   cases L:(ae c'.S j).dim with
   |none=>exact(r L).elim
   |some d=>
    obtain⟨u,D⟩:=z.al j d hj0 L;obtain⟨x,F,h6,h7⟩:=hE.sub j (by rw[u];simp);rw[h1]at F;injection F with F
    subst F;obtain⟨h8,h9,_⟩:=h7 _ rfl;rw[t];refine⟨by rw[<-h9 rfl,u],D.trans h6,λb y w J=>z.ln j d b y hj0 L (h6.trans w) (by rw[K];exact J)⟩
  .obtain⟨k,h1,t⟩:=pos j (C j A).1;obtain⟨M,u,D⟩:=pos j' (C j' hj').1;rw[t,D]at e;subst e;exact GR hnd h1 u rfl
  .have h1:=hR'.fbk k b r w;rw[H,I]at h1;refine h1 ⟨.inr T, ?_⟩;rintro⟨M,_,u,D⟩;exact hR.fbk M b u D T
  .obtain⟨k,h1,t⟩:=pos j A;have ho:f[j]?=O f[j]:=aB A
   have hr:(f[j]).ro=Za:=by
    cases hr:(f[j]).ro with
    |true=>rfl
    |false=>exact(v (HX.2 ⟨j,_,ho,hr,by omega⟩)).elim
   obtain⟨u,D⟩:=hE.fz j _ ho hr;obtain⟨x,F,h6,h7⟩:=hE.sub j D;rw[h1]at F;injection F with F
   subst F;obtain⟨h8,h9,_⟩:=h7 _ rfl;simp only at h8 h9;have hkl:k<c.S.length:=me h8
   have hkw:k∉jJ f st.m:=by
    intro q;obtain⟨i,o,x,g1,g2,g3,g4⟩:=Eu q;have:=GR hnd g1 h1 g4;subst this;rw[ho]at g2;injection g2 with g2
    rw[g2,g3]at hr;cases hr
   have hj0:j<c0.S.length:=by rw[hS0,l1];exact A
   have V:=z.fz j u D;rw[t];refine⟨by simp only[ct,List.length_append,s2];omega,λd' hd'=> ?_⟩;rw[P k hkl hkw]at hd';refine⟨d',by rw[V,h9 trivial];exact hd',rfl, ?_,rfl⟩;show(if k<c.S.length then c.μ k else _)=_;rw[zE hkl,(z.al j d' hj0 (by rw[V,h9 trivial];exact hd')).2,h6];rfl
  .obtain⟨h1,t⟩:=X k q (E k v) W b w;exact .inr (by rw[H,I];exact⟨.inl ⟨k,h1,w⟩,t⟩)
  .obtain⟨h1,t⟩:=X k q (E k v) W b e;have u:=hR'.fbk s b hsd w;rw[H,I]at u;exact u ⟨.inl ⟨k,h1,e⟩,t⟩
  .refine .inr ?_;rw[H,I];refine⟨.inr T, ?_⟩;rintro⟨M,_,u,D⟩;exact hR.fbk M b u D T
 obtain⟨r1,r2,r3⟩:=g.all hR hR' hd he hf;exact⟨ct,rfl,rfl,rfl,λk q=>zE q,r1,r2,r3,hun⟩
end
end Go.V
