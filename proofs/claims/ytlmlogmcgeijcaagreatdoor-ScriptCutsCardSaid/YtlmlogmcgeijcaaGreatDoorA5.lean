/- A part of the proof. No condition. -/
import Derived.Test.YtlmlogmcgeijcaaGreatDoorA4
import Derived.Test.YtlmlogmcgeijcaaGreatDoorA2
import Derived.IntWalk
import Derived.KernelRfl
import Derived.WideKeyArr2
import Derived.RowKit
set_option linter.all false
namespace Go.V
open Go.Ab
open Option renaming some->O,none->Y
open Bool renaming true->Za,false->Zb
open Decidable renaming decide->Zc
open List renaming length->dt
open Option renaming bind->ek
variable {c c' c0 c1:Ctx}{ea ea':cm}{e:co}{vs:List VV}{op:AOp}{f:FuncId}{v:Value}{chk:Gc}{vals:List Sk}{sk:rc}{objs:List OSk}{fx mov:List Nat}{bs fs:List Blk}{as:List Value}{tab:Tab}{Z Z1:Hp}{x:Ab.Blk}{it:LItem}{outs:List Alt}{at':AT}{i:Nat}{S2:ai}{st:DSt}
section
open Bool renaming or_eq_false_iff -> bB
open List renaming getElem?_eq_getElem -> aB, getElem_mem -> aD, all_eq_true -> bD, any_eq_false -> cB, length_append -> cD
def Jf : ∀{js:List Nat} {bs:List Blk} {S S1:ai},dt js=dt bs->∃S2,wW js bs S1=O S2
 |[],[],_,S1,_=>⟨S1,rfl⟩
 |[],_::_,_,_,h=>by simp at h
 |_::_,[],_,_,h=>by simp at h
 |j::js,b::bs,S,S1,h=>by
  have⟨S2,a⟩:=Jf (js:=js) (bs:=bs) (S:=S) (S1:=mx S1 j b) V9;exact⟨S2,a⟩
def LN {f:Nat->Nat}: ∀{os:List OSk} {ls rest:List Leaf} {bs:List Blk},DB f os ls=O (bs,rest)->(∀o,o∈os->o.ro=Zb)->∀b,b∈bs->b.dim≠Y->b.frozen=Zb
 |[],ls,rest,bs,h,_,b,hb,_=>by
  simp only[DB]at h;injection h with h
  injection h with a k
  subst a;simp at hb
 |o::os,ls,rest,bs,h,m,b,hb,j=>by
  simp only[DB]at h;obtain⟨p,a,h⟩:=ah h;obtain⟨q,k,h⟩:=ah h;injection h with h
  injection h with n u
  subst n;rcases List.mem_cons.1 hb with hb|hb
  .subst hb;have g:=m o List.mem_cons_self;cases o with
   |dead=>
    simp only[NA]at a;injection a with a
    rw[<-a]at j;exact(j rfl).elim
   |cells t ro l=>
    simp only[NA]at a;have⟨v,r,d⟩:=ah a;injection d with d
    rw[<-d];exact g
   |arr ro s=>
    cases ls with
    |nil=>simp[NA]at a
    |cons x ls=>
     simp only[NA]at a;have⟨v,r,d⟩:=ah a;injection d with d
     rw[<-d];exact g
  .exact LN k (λo g=>m o (List.mem_cons_of_mem _ g)) b hb j
def RG {f:Nat->Nat}{ls:List Leaf}(h:mN f sk ls=O (vs,fs,bs))(a:sk.noRo=Za):(∀b,b∈fs->b.dim≠Y->b.frozen=Zb)/\∀b,b∈bs->b.dim≠Y->b.frozen=Zb:=by
 unfold rc.noRo at a;rw[Bool.and_eq_true,bD,bD]at a;unfold mN at h;obtain⟨p,n,h⟩:=ah h;obtain⟨q,k,h⟩:=ah h;obtain⟨r,l,h⟩:=ah h;split at h
 .injection h with h
  injection h with m h
  injection h with g j
  subst g;subst j;exact⟨LN (rest:=q.2) k λo d=>by simpa using a.1 o d,LN (rest:=r.2) l λo d=>by simpa using a.2 o d⟩
 .cases h
def Rh (h:AJ vs fs bs=Zb):NR vs=Zb/\(∀b,b∈fs->alB b=Zb)/\∀b,b∈bs->alB b=Zb:=by
 unfold AJ at h;rw[bB,bB,cB,cB]at h;exact⟨h.1.1,λb a=>by simpa using h.1.2 b a,λb a=>by simpa using h.2 b a⟩
def SX {l:List Blk}(h:(ae l i).dim≠Y):ae l i∈l:=by
 have a:=mw h;rw[wR (aB a)];exact aD a
def OK {ctf:Ctx}{js:List Nat}{Sa Sb S1:ai}(Q:Rel c)(E:Le c ctf)(w:Rel ctf)(T:F2 (VRel ctf) vs as)(C:AJ vs fs bs=Zb)
  (F: ∀b,b∈fs->b.dim≠Y->b.frozen=Zb) (H: ∀b,b∈bs->b.dim≠Y->b.frozen=Zb) (h:dt Sa=dt c.S) (l:dt Sb=dt c.S) (A:wW js fs Sa=O S1) (B:wW js fs Sb=O S2) (q:js.Nodup) (U: ∀j,j∈js->j<dt c.S)
  (z:ctf.S=S1++bs) (V: ∀k,k<dt c.S->ctf.μ k=c.μ k)
  (r: ∀k,k<dt c.S->k∉js->(ae Sa k=ae Sb k/\((ae Sa k).dim≠Y->ae Sa k=ae c.S k))∨(ae Sb k=ae c.S k/\ae Sa k=(ae c.S k).freeze))
  (s: ∀k,k<dt c.S->k∉js->(ae Sa k).dim≠Y->∀b y,c.μ k=O b->c.Z.m b=O y->ctf.Z.m b=O y):
  Le c ⟨ctf.μ,S2++bs,ctf.Z,ctf.fb⟩/\Rel ⟨ctf.μ,S2++bs,ctf.Z,ctf.fb⟩/\F2 (VRel ⟨ctf.μ,S2++bs,ctf.Z,ctf.fb⟩) vs as:=by
 have⟨L,M,N⟩:=Rh C;have⟨W,I,X,p4⟩:=kf A;have⟨q1,J,q3,q4⟩:=kf B;refine thaw Q E w T L (by rw[z,cD,cD,I,J,h,l]) V λk=> ?_
 by_cases g:k<dt c.S
 .have t:ae (S2++bs) k=ae S2 k:=nD (by rw[J,l];exact g);have n:ae ctf.S k=ae S1 k:=by rw[z];exact nD (by rw[I,h];exact g)
  by_cases p:k∈js
  .obtain⟨i,D,e⟩:=List.mem_iff_getElem.1 p;have d:i<dt fs:=by rw[<-W];exact D
   have K:=p4 q i k _ (by rw[aB D,e]) (aB d) (by rw[h];exact g);have P:=q4 q i k _ (by rw[aB D,e]) (aB d) (by rw[l];exact g);refine .inl ⟨by rw[t,n,K,P],λa=> .inl ?_⟩;rw[n,K]at a⊢;exact⟨F _ (aD d) a,M _ (aD d)⟩
  .rw[t,n,q3 k p,X k p];rcases r k g p with⟨o,u⟩|⟨o,u⟩
   .exact .inl ⟨o.symm,λa=> .inr ⟨g,u a,s k g p a⟩⟩
   .exact .inr ⟨g,o,u,λa=>s k g p (by rw[u,fS];exact a)⟩
 .have o:k=dt c.S+(k-dt c.S):=by omega
  have t:ae (S2++bs) k=ae bs (k-dt c.S):=by
   rw[o,<-l,<-J,th]
   congr 1
   omega
  have n:ae ctf.S k=ae bs (k-dt c.S):=by
   rw[z,o,<-h,<-I,th]
   congr 1
   omega
  refine .inl ⟨by rw[t,n],λa=> .inl ?_⟩;rw[n]at a⊢;exact⟨H _ (SX a) a,N _ (SX a)⟩
def MB {vals:List VV}{F:DSt}{w:List Blk}(K:Rel c)(h0:c0=kZ c st w)(hE:Entered c c0 objs st w)(N:Le c0 c')(L:Rel c')
  (z:Ov st.m=Za) (D:Kj c.S (kg objs st.m)=Za) (s:(oX st.m).Nodup) (u: ∀(i:Nat) (o:OSk) (x:Src),objs[i]?=O o->o.ro=Za->st.m[i]?=O (O x)->x.k∈st.lent)
  (E:sk.noRo=Za) (hd:ny c'.S (dt objs) (uH objs 0) sk vals=O F) (he:mN (xn st.m (dt objs) (dt c.S)) sk F.ls=O (vs,fs,bs)) (hf:F2 (VRel c') vals as)
  (n:wW (kg objs st.m) fs (cond (AJ vs fs bs) (DE st.lent c.S) c.S)=O S2):
  ∃ct:Ctx,ct.Z=c'.Z/\ct.S=S2++bs/\Le c ct/\Rel ct/\F2 (VRel ct) vs as/\uO (kg objs st.m) c ct:=by
 have⟨q1,q2,q3,q4⟩:=kf n;have⟨Sf,g⟩:=Jf (S:=c.S) (S1:=DE st.lent c.S) q1;have⟨ct,T,H,e3,e4,U,V,W,X⟩:=XH K h0 hE N L z D s u E hd he hf g
 have t: ∀q:Ctx,q.Z=ct.Z->(∀k,(ae q.S k).dim=(ae ct.S k).dim)->uO (kg objs st.m) c q:=by
  intro q I h2 k p C l;have⟨_,J,Q,_⟩:=kf g;have hl:dt (DE st.lent c.S)=dt c.S:=(vD st.lent c.S).1;refine⟨?_,λb hm=> ?_⟩
  .rw[h2,H,nD (by rw[J,hl];exact p),Q k C,(vD st.lent c.S).dim];exact l
  .cases A:(ae c.S k).dim with
   |none=>exact(l A).elim
   |some d=>
    have⟨y,_,_,hy,_⟩:=K.block A hm;rw[hy,I];exact X k p C l b y hm hy
 cases r:AJ vs fs bs with
 |true=>
  rw[r,zC,g]at n;cases n;exact⟨ct,T,H,U,V,W,t ct rfl λ_=>rfl⟩
 |false=>
  rw[r,zD]at n;have⟨z1,z2⟩:=RG he E;have a:=vD st.lent c.S
  have⟨r1,r2,r3⟩:=OK K U V W r z1 z2 a.1 rfl g n (vJ s) (λj hj=>(mv D hj).1) H e4 (λk p C=>by
   rcases a.2 k with h|h
   .exact .inl ⟨h,λ_=>h⟩
   .exact .inr ⟨rfl,h⟩) (λk p C l=>X k p C (by rw[<-a.dim];exact l))
  refine⟨⟨ct.μ,S2++bs,ct.Z,ct.fb⟩,T,rfl,r1,r2,r3,t _ rfl λk=> ?_⟩;have⟨_,J,Q,p4⟩:=kf g;rw[H];show(ae (S2++bs) k).dim=(ae (Sf++bs) k).dim;by_cases p:k<dt c.S
  .rw[nD (S:=S2) (by rw[q2,r];exact p),nD (S:=Sf) (by rw[J,a.1];exact p)];by_cases P:k∈kg objs st.m
   .obtain⟨i,M,e⟩:=List.mem_iff_getElem.1 P;have B:i<dt fs:=by rw[<-q1];exact M
    have⟨_,_,_,t4⟩:=kf n
    rw[t4 (vJ s) i k _ (by rw[aB M,e]) (aB B) p,
     p4 (vJ s) i k _ (by rw[aB M,e]) (aB B) (by rw[a.1];exact p)]
   .obtain⟨_,_,t3,_⟩:=kf n;rw[t3 k P,Q k P,a.dim]
  .have I:k=dt c.S+(k-dt c.S):=by omega
   have g1:ae (S2++bs) k=ae bs (k-dt c.S):=by
    have⟨_,t2,_,_⟩:=kf n;rw[I,<-t2,th]
    congr 1
    omega
   have g2:ae (Sf++bs) k=ae bs (k-dt c.S):=by
    rw[I,<-a.1,<-J,th]
    congr 1
    omega
   rw[g1,g2]
def aw3 {vals:List VV}(C:Rel c)(r:Rel c')(L:Within c c1 fx mov)(s:Rel c1)(u:Le c1 c')
  (m:Kj c.S fx=Za) (n:sk.noRo=Za) (D:ny c'.S (dt c.S) fx sk vals=O st) (E:mN id sk st.ls=O (vs,fs,bs)) (J:F2 (VRel c') vals as) (b:wW fx fs (jT fx mov (AJ vs fs bs) 0 c.S)=O S2):
  ∃ct:Ctx,ct.Z=c'.Z/\ct.S=S2++bs/\Le c ct/\Rel ct/\F2 (VRel ct) vs as:=by
 have⟨P,q2,q3,q4⟩:=kf b;have⟨Sf,a⟩:=Jf (S:=c.S) (S1:=jT fx mov Za 0 c.S) P;have⟨ct,w,q,X,H,z,A,B,I⟩:=aE7 C r L s u m (VF n) D E J a;cases d:AJ vs fs bs with
 |true=>
  rw[d,a]at b;cases b;exact⟨ct,w,q,z,A,B⟩
 |false=>
  rw[d]at b;have⟨V,W⟩:=RG E n;have⟨p,_⟩:=qz D;have l:=qw p;rw[List.nodup_append]at l;have⟨_,F,N,_⟩:=kf a;rw[mG]at F
  have⟨Q,T,U⟩:=OK C z A B d V W mG mG a b l.1 (λj K=>(mv m K).1) q H (λk g o=>by
   rw[mF g,mF g,Nat.zero_add,jU o];cases ld k mov with
   |true=>
    refine .inl ⟨rfl,λh=> ?_⟩;cases M:(ae c.S k).frozen with
    |true=>rfl
    |false=>rw[M]at h;exact(h rfl).elim
   |false=>exact .inr ⟨rfl,rfl⟩) (λk g o t=>(I k g o (by rw[q,nD (by rw[F];exact g),N k o];exact t)).2)
  exact⟨⟨ct.μ,S2++bs,ct.Z,ct.fb⟩,w,rfl,Q,T,U⟩
end
section
open List renaming mem_cons_of_mem -> aB, mem_cons_self -> aD
open Nat renaming eq_of_beq_eq_true -> bB
def YT (l:List Alt)(s:vz l):Option (Σ a:Alt,a.Ty):=YS l s λa u=>O ⟨a,u⟩
def PG {β:Type}: ∀(l:List Alt) (s:vz l) (k:(a:Alt)->a.Ty->Option β),YS l s k=ek (YT l s) λp=>k p.1 p.2
 |[],_,_=>rfl
 |[a],t,k=>rfl
 |a::b::r, .inl t,k=>rfl
 |a::b::r, .inr s,k=>PG (b::r) s k
def FSum.spec (F:FSum):Ab.Px:=λd Z K=> ∃(c:Ctx) (vals:List VV) (st:DSt) (t:Ad F.ins.shs) (o:vz F.outs) (p:Σ a:Alt,a.Ty) (v:VV) (fs bs:List Blk) (S':ai),
 c.Z=Z/\Rel c/\F2 (VRel c) vals d/\ny c.S 0 [] F.ins vals=O st/\Q0 F.ins.shs st.ls=O t/\Ov st.m=Za/\Kj c.S (kg F.objs st.m)=Za/\F.run t=O o/\YT F.outs o=O p/\
 mN (xn st.m (dt F.objs) (dt c.S)) p.1.sk (KG p.1.sk.shs p.2)=O ([v],fs,bs)/\wW (kg F.objs st.m) fs (cond (AJ [v] fs bs) (DE st.lent c.S) c.S)=O S'/\
 ∀r Z',(∃b:Ctx,b.Z=Z'/\b.S=S'++bs/\Le c b/\Rel b/\VRel b v r/\uO (kg F.objs st.m) c b)->K r Z'
def FSum.mono (F:FSum):aE0 F.spec:=by
 rintro g Z K K' z ⟨c,vals,st,t,o,p,v,fs,bs,S',j,k,l,m,n,q,s,u,w,a,b,d⟩;exact⟨c,vals,st,t,o,p,v,fs,bs,S',j,k,l,m,n,q,s,u,w,a,b,λr Z' h=>z r Z' (d r Z' h)⟩
def Inl.spec (I:Inl):Ab.Px:=λa Z K=> ∃(β:Type) (y:β) (c:Ctx) (vals:List VV) (k:VV->ai->Option β),c.Z=Z/\Rel c/\F2 (VRel c) vals a/\I.run β vals c.S k=O y/\∀r Z',ji c (Iy (dt c.S)) k y r Z'->K r Z'
def Inl.mono (I:Inl):aE0 I.spec:=by
 rintro a Z K K' m ⟨β,y,c,vals,k,b,d,g,j,l⟩;exact⟨β,y,c,vals,k,b,d,g,j,λr Z' h=>m r Z' (l r Z' h)⟩
def fK (tab:Tab):Ab.iU:=λf a Z K=>(∃F,F∈tab.fs/\F.f=f/\F.spec a Z K)∨∃I,I∈tab.is/\I.f=f/\I.spec a Z K
def bw (tab:Tab):vd (fK tab):=by
 rintro f a Z K K' h (⟨F,b,d,g⟩|⟨F,b,d,g⟩)
 .exact .inl ⟨F,b,d,F.mono a Z K K' h g⟩
 .exact .inr ⟨F,b,d,F.mono a Z K K' h g⟩
def dh (P:Program)(F:FSum):Prop:=Yz P F.f F.spec
def La (P:Program)(I:Inl):Prop:=Yz P I.f I.spec
def fT (P:Program)(tab:List FSum):Prop:= ∀F,F∈tab->dh P F
def aa (P:Program)(a:List Inl):Prop:= ∀I,I∈a->La P I
def aa.nil (P:Program):aa P []:=λF h=>by cases h
def aa.cons {P:Program}{F:Inl}{tab:List Inl}(h:La P F)(a:aa P tab):aa P (F::tab):=λG hG=>by
 rcases List.mem_cons.1 hG with rfl|hG
 .exact h
 .exact a G hG
def fT.nil (P:Program):fT P []:=λF h=>by cases h
def fT.cons {P:Program}{F:FSum}{tab:List FSum}(h:dh P F)(a:fT P tab):fT P (F::tab):=λG hG=>by
 rcases List.mem_cons.1 hG with rfl|hG
 .exact h
 .exact a G hG
def Fh {P:Program}(h:fT P tab.fs)(m:aa P tab.is)(f:FuncId):Yz P f (fK tab f):=by
 rintro B μ Z w b a K (⟨F,d,g,j⟩|⟨F,d,g,j⟩) k l
 .subst g;exact h F d B μ Z w b a K j k l
 .subst g;exact m F d B μ Z w b a K j k l
def Rv {β:Type}{c:Ctx}{k:VV->ai->Option β}{y:β}{f:Nat}{args:List VV}{as:List Value}(z:Rel c)(A:F2 (VRel c) args as): ∀{tab:List FSum},LC tab f args c.S k=O y->(λf args Z K=> ∃F,F∈tab/\F.f=f/\F.spec args Z K:Ab.iU) f as c.Z (ji c (vB tab f args c.S) k y)
 |[],h=>by cases h
 |F::r,h=>by
  have next:LC r f args c.S k=O y->vB (F::r) f args c.S=vB r f args c.S->(λf args Z K=> ∃G,G∈F::r/\G.f=f/\G.spec args Z K:Ab.iU) f as c.Z (ji c (vB (F::r) f args c.S) k y):=by
   intro j q;have⟨G,u,s,w⟩:=Rv z A j;rw[q];exact⟨G,aB _ u,s,w⟩
  simp only[LC]at h;cases d:Nat.beq F.f f with
  |false=>
   rw[d,zD]at h;exact next h (by simp only[vB,d,zD])
  |true=>
   rw[d,zC]at h;cases g:ny (EW F.vals args c.S) 0 [] F.ins args with
   |none=>
    rw[g]at h;exact next h (by simp only[vB,d,zC,g])
   |some st=>
    rw[g]at h;simp only at h;cases n:Q0 F.ins.shs st.ls with
    |none=>
     rw[n]at h;exact next h (by simp only[vB,d,zC,g,n])
    |some t=>
     rw[n]at h;simp only at h;have⟨j,q⟩:=au h;rw[Bool.and_eq_true]at j;have b:vB (F::r) f args c.S=kg F.objs st.m:=by simp only[vB,d,zC,g,n]
     rw[b];unfold aE3 at q;have⟨o,u,s⟩:=ah q;rw[PG]at s;have⟨p,w,l⟩:=ah s;have a:=LZ F.vals args c.S;split at l
     .rename_i v fs bs M;split at l
      .rename_i S' L;refine⟨F,aD,bB d,⟨c.μ,EW F.vals args c.S,c.Z,c.fb⟩,args,st,t,o,p,v,fs,bs,S',rfl,a.rel z,VRel.frames a.le A,g,n,j.1,j.2,u,w,M,L, ?_⟩;rintro N Z' ⟨B,C,D,E,H,I,J⟩;exact⟨v,B,C,a.le.trans E,H,(a.calm _).trans J a.le,I,by rw[D];exact l⟩
      .cases l
     .cases l
def Rw {β:Type}{c:Ctx}{k:VV->ai->Option β}{y:β}{f:Nat}{args:List VV}{as:List Value}(b:Rel c)(d:F2 (VRel c) args as): ∀{g:List Inl},Vq g f args c.S k=O y->∃I,I∈g/\I.f=f/\I.spec as c.Z (ji c (Iy (dt c.S)) k y)
 |[],h=>by cases h
 |I::r,h=>by
  simp only[Vq]at h;cases a:Nat.beq I.f f with
  |false=>
   rw[a,zD]at h;have⟨J,j,l,m⟩:=Rw b d h;exact⟨J,aB _ j,l,m⟩
  |true=>
   rw[a,zC]at h;exact⟨I,aD,bB a,β,y,c,args,k,rfl,b,d,h,λr Z' h=>h⟩
def Rx {β:Type}{k:VV->ai->Option β}{y:β}{f:Nat}{args:List VV}(a:Rel c)(d:F2 (VRel c) args as)(h:Vr tab f args c.S k=O y):fK tab f as c.Z (ji c (PX tab f args c.S) k y):=by
 unfold Vr at h;unfold PX;cases b:av7 tab.is f with
 |false=>
  rw[b,zD]at h;rw[zD];exact .inl (Rv a d h)
 |true=>
  rw[b,zC]at h;rw[zC];exact .inr (Rw a d h)
def uF {β:Type}{k:VV->ai->Option β}{y:β}(d:Rel c)(g:az c e ea)(h:IL tab op e c.S k=O y):ci (fK tab) op ea c.Z (ji c (HF tab op e c.S) k y):=by
 cases op<;>simp only[IL]at h
 case move x=>exact ax2 d g h
 case pick t a b=>
  split at h
  .rename_i p A;exact az0 d g A h
  .cases h
 case alloc es z=>exact YR d h
 case box es x=>exact aL5 d g h
 case build z ps=>
  split at h
  .rename_i F w;exact Y9 d g w h
  .cases h
 case buildSlice es ln z ps=>
  split at h
  .rename_i F w;exact Nt d g w h
  .cases h
 case load x=>exact aw4 d g h
 case loadN n x=>exact af1 d g h
 case store n a x=>exact am0 d g (λq u=>LK _ u) h
 case nilCheck x=>exact Sd d g h
 case bin op x z=>exact aK9 d g h
 case eqv C neg x z=>
  split at h
  .rename_i p A;exact aM7 d g A h
  .cases h
 case eqCells neg ks x z=>
  split at h
  .rename_i a b j r;split at h
   .rename_i p A;exact TX d g j r A h
   .cases h
  .cases h
 case un op x=>exact aY6 d g h
 case conv C x=>
  split at h
  .rename_i n H;exact as6 d g H h
  .cases h
 case mkFunc f a b=>exact XL d g h
 case makeSlice es bytes z l m=>exact aw9 d g h
 case slice es x lo hi=>exact al6 d g h
 case sliceStr x lo hi=>exact S6 d g h
 case sliceArr es n x lo hi=>exact S5 d g h
 case off n x=>exact aP3 d g h
 case idx es x i=>exact aN6 d g h
 case idxA ln es x i=>exact aw1 d g h
 case fieldV o n agg x=>
  split at h
  .rename_i F w;exact Xm d g w h
  .cases h
 case indexV ln es agg x i=>
  split at h
  .rename_i F C i j r;exact XD d g j r h
  .cases h
 case indexS x i=>
  split at h
  .rename_i l C i j r;exact XC d g j r h
  .cases h
 case extract x i=>
  split at h
  .rename_i vs w;exact TZ d g w h
  .cases h
 case call f xs=>exact Rx d (Ky g xs) h
 case callv x xs=>
  have B:=cn g x;split at h
  .rename_i f a b K;rw[K]at B
   have: ∃D E,ea.ev x= .func (.func f) D E/\F2 (VRel c) a D.toList/\F2 (VRel c) b E.toList:=by
    generalize ea.ev x=M at B;cases B;exact⟨_,_,rfl,ZI,ZI⟩
   have⟨D,E,j,r,L⟩:=this;have:=Rx d ((r.append (Ky g xs)).append L) h;simp only[ci,j,HF,K];exact this
  .cases h
 case append es bytes s x=>exact TC d g (λq u=>LK _ u) h λh=>WY d g (λq u=>LK _ u) h
 case stuck=>cases h
 case capN x=>
  split at h
  .rename_i B;exact ar9 d g B h
  .cases h
 case newB=>exact ax3 d h
 case strOf x=>exact am1 d g h
 case appendZ es bytes z s x=>exact TD d g (λq u=>LK _ u) h
 case copy es s x=>exact as7 d g (λq u=>LK _ u) h
 case len x=>
  split at h
  .cases h
  .rename_i I;split at h
   .rename_i n H;exact aO3 d g I H h
   .cases h
 case most x z=>
  split at h
  .rename_i C a J b j r;exact ax1 d g j r h
  .cases h
 case least x z=>
  split at h
  .rename_i C a J b j r;exact ae2 d g j r h
  .cases h
end
section
open Bool renaming and_eq_true -> aD, or_eq_true -> cD, false_or -> cM, not_true -> cN
open List renaming mem_cons_of_mem -> bD, mem_cons_self -> cK, mem_cons -> cO, map_congr_left -> cS
open Nat renaming beq -> aB, eq_of_beq_eq_true -> bB, lt_of_lt_of_le -> cB, beq_refl -> cL, le_of_ble_eq_true -> cP, le_refl -> cQ, le_trans -> cR
def qm {β:Type}(c:Ctx)(k:co->ai->Option β)(y:β):cm->Hp->Prop:=λea Z'=> ∃a c',c'.Z=Z'/\Le c c'/\Rel c'/\az c' a ea/\k a c'.S=O y
def qm.of {β:Type}{k:co->ai->Option β}{y:β}(h:Le c c1){Z':Hp}(j:qm c1 k y ea Z'):qm c k y ea Z':=by
 have⟨a,c',b,d,g⟩:=j;exact⟨a,c',b,h.trans d,g⟩
def rT {β:Type}(c:Ctx)(k:AExit->co->ai->Option β)(y:β):AExit->cm->Hp->Prop:=λx=>qm c (k x) y
section
variable {β:Type} {tab:Tab} {y:β}
def LQ : ∀{ops:List AOper} {c:Ctx} {e:co} {ea:cm} {k:co->ai->Option β},Rel c->az c e ea->ES tab ops e c.S k=O y->Ab.zZ (fK tab) (qm c k y) ops ea c.Z
 |[],c,e,ea,k,s,n,h=>⟨e,c,rfl,Le.refl c,s,n,h⟩
 |o::r,c,e,ea,k,s,n,h=>by
  have b: ∀m,az c m ea->IL tab o.op m c.S (λv S'=>ES tab r (putO m o.dst v) S' k)=O y->ci (fK tab) o.op ea c.Z λv Z'=>Ab.zZ (fK tab) (qm c k y) r (ea.putO o.dst v) Z':=by
   intro m j g;refine lf (bw tab) (λv Z' I=> ?_) (uF s j g);have⟨J,c',D,C,E,_,F,H⟩:=I;subst D;exact Ab.Ds (bw tab) (λea' Z'' q=>q.of C) _ _ _ (LQ E ((j.frame C).putO F) H)
  have skip: ∀m,az c m ea->ES tab r (putO m o.dst (.tup [])) c.S k=O y->Ab.zZ (fK tab) (qm c k y) r (ea.putO o.dst undef) c.Z:=λm j g=>LQ s (j.putO (.tup .nil)) g
  simp only[ES]at h;simp only[Ab.zZ];split at h
  .rename_i z;have:wanted o ea=Za:=by simp only[wanted,z]
   rw[zE this];exact b e n h
  .rename_i t w z;split at h
   .rename_i p q;have l:=n t;rw[q]at l;have l:=l.bool_inv;have B:wanted o ea=(p==w):=by simp only[wanted,z,l]
    have a:az c (qU e t (.bool p)) ea:=by
     have:=n.put (d:=t) (VRel.bool (c:=c) p);intro i;have g:=this i;unfold cm.put at g;by_cases A:i=t
     .rw[zE A]at g;subst A;rw[l];exact g
     .rw[zF A]at g;exact g
    rw[B];cases p<;>cases w<;>simp only[zC,zD]at h
    .rw[zE V4];exact b _ a h
    .rw[zF V4];exact skip _ a h
    .rw[zF V4];exact skip _ a h
    .rw[zE V4];exact b _ a h
   .rename_i q;have l:=n t;rw[q]at l
    have B:wanted o ea=Zb:=by
     simp only[wanted,z];generalize ea t=u at l;cases l;rfl
    rw[B,zF V4];exact skip _ n h
   .cases h
def YL :Value->Option Nat
 | .pointer (O a)=>O a.block
 | .slice (O a) _ _=>O a.block
 |_=>Y
def D8 :AOp->Operand
 | .load x| .loadN _ x| .sliceArr _ _ x _ _| .slice _ x _ _=>x
 |_=> .global 0
def Md {Z':Hp}(w:op.isLoad=Za)(h:op.run ea Z=O (v,Z1))(d: ∀b,YL (ea.ev (D8 op))=O b->Z'.m b=Z.m b):op.run ea Z'=O (v,Z'):=by
 cases op<;>try(cases w;done)
 case load x=>
  simp only[AOp.run,D8]at h d⊢;split at h
  .rename_i b o p;rw[p]at d;rw[d b rfl];split at h
   .rename_i j t;cases g:j.cells[o]? with
    |none=>rw[g]at h;cases h
    |some u=>
     rw[g]at h;injection h with h
     injection h with k r
     subst k;rfl
   .cases h
  .cases h
 case loadN n x=>
  simp only[AOp.run,D8]at h d⊢;split at h
  .rename_i b o p;rw[p]at d;rw[d b rfl];split at h
   .rename_i j t;cases g:rf j o n with
    |none=>rw[g]at h;cases h
    |some u=>
     rw[g]at h;injection h with h
     injection h with k r
     subst k;rfl
   .cases h
  .cases h
 case slice es x lo hi=>
  cases lo with
  |none=>cases w
  |some l=>
   simp only[AOp.run,D8]at h d⊢;split at h
   .rename_i a A q p;rw[p]at d
    have z:Bt Z' es a (O l)=Bt Z es a (O l):=by
     cases a with
     |none=>rfl
     |some a=>simp only[Bt];rw[d a.block rfl]
    rw[z];cases g:(q==0||Bt Z es a (O l))with
    |false=>rw[g]at h;simp at h
    |true=>
     rw[g,zE rfl]at h;rw[zE rfl];split at h
     .split at h
      .injection h with h
       injection h with k r
       subst k;rfl
      .cases h
     .cases h
   .cases h
 case sliceArr es n x lo hi=>
  simp only[AOp.run,D8]at h d⊢;split at h
  .rename_i b o p;rw[p]at d;rw[d b rfl];split at h
   .rename_i j t;split at h
    .rename_i g;rw[zE g];split at h
     .split at h
      .split at h
       .rename_i s;injection h with h
        injection h with k r
        subst k;rw[zE s]
       .cases h
      .cases h
     .cases h
    .cases h
   .cases h
  .cases h
def af3 {q:Option Addr}(d:op.isLoad=Za)(a:ea.ev (D8 op)= .slice q 0 0)(h:op.run ea Z=O (v,Z1))(Z':Hp):op.run ea Z'=O (v,Z'):=by
 cases op<;>try(cases d;done)
 case load x=>
  simp only[D8]at a;simp only[AOp.run,a]at h;cases h
 case loadN n x=>
  simp only[D8]at a;simp only[AOp.run,a]at h;cases h
 case slice es x lo hi=>
  simp only[D8]at a;simp only[AOp.run,a,beq_self_eq_true,Bool.true_or,if_true]at h⊢;split at h
  .split at h
   .injection h with h
    injection h with b g
    subst b;rfl
   .cases h
  .cases h
 case sliceArr es n x lo hi=>
  simp only[D8]at a;simp only[AOp.run,a]at h;cases h
structure LeV (c c':Ctx):Prop where
 len:dt c.S<=dt c'.S
 al: ∀k d,k<dt c.S->(ae c'.S k).dim=O d->(ae c.S k).dim=O d/\c'.μ k=c.μ k
 ln: ∀k d b y,k<dt c.S->(ae c'.S k).dim=O d->c.μ k=O b->c.Z.m b=O y->∃y',c'.Z.m b=O y'/\(dt y'.cells)=dt y.cells
 rd: ∀b y,c.Z.m b=O y->¬c.mut b->c'.Z.m b=O y/\¬c'.mut b
def LeV.trans {a b:Ctx}(h:LeV a b)(k:LeV b c):LeV a c:=by
 refine⟨cR h.len k.len,λq d g m=> ?_,λq d x y g m r o=> ?_,λx y o z=> ?_⟩
 .obtain⟨j,l⟩:=k.al q d (cB g h.len) m;have⟨p,n⟩:=h.al q d g j;exact⟨p,l.trans n⟩
 .obtain⟨j,l⟩:=k.al q d (cB g h.len) m;have⟨p,n⟩:=h.al q d g j;have⟨A,s,t⟩:=h.ln q d x y g j r o;have⟨B,u,w⟩:=k.ln q d x A (cB g h.len) m (n.trans r) s;exact⟨B,u,w.trans t⟩
 .obtain⟨j,l⟩:=h.rd x y o z;exact k.rd x y j l
def Le.toV (h:Le c c'):LeV c c':=⟨h.len,h.al,h.ln,h.rd⟩
def LeV.refl (c:Ctx):LeV c c:=(Le.refl c).toV
def G9.frameV (h:LeV c c'){k p n:Nat}{d:Nat×Nat}{a:Value}(o:k<dt c.S)(m:(ae c'.S k).dim=O d)(w:G9 c k p n d a):G9 c' k p n d a:=by
 have⟨C,l⟩:=h.al k d o m;rcases w with⟨rfl,rfl,rfl,g,A⟩|⟨b,q,y,rfl,g,r,s,z,t⟩
 .exact .inl ⟨rfl,rfl,rfl,l.trans g,A⟩
 .obtain⟨B,j,u⟩:=h.ln k d b y o m g z;exact .inr ⟨b,q,B,rfl,l.trans g,r,s,j,by rw[u];exact t⟩
def VRel.frameV {c c':Ctx}(h:LeV c c'): ∀{v:VV} {a:Value},VRel c v a->VRel c' v a
 |_,_, .undef a=> .undef a
 |_,_, .bool b=> .bool b
 |_,_, .int k n=> .int k n
 |_,_, .str B=> .str B
 |_,_, .nilp=> .nilp
 |_,_, .nils=> .nils
 |_,_, .nilf=> .nilf
 |_,_, .ptr o g r=> .ptr (cB o h.len) g λd j=>by
  have⟨g,p⟩:=h.al _ d o j;have⟨b,q,s⟩:=r d g;exact⟨b,p.trans q,s⟩
 |_,_, .it o g B r=> .it (cB o h.len) g B λd j=>by
  have⟨g,p⟩:=h.al _ d o j;have⟨b,q,s⟩:=r d g;exact⟨b,p.trans q,s⟩
 |_,_, .bld o g r=> .bld (cB o h.len) g λd j=>by
  have⟨g,p⟩:=h.al _ d o j;have⟨b,q,s⟩:=r d g;exact⟨b,p.trans q,s⟩
 |_,_, .pix o g C r=> .pix (cB o h.len) g C λd j=>by
  have⟨g,p⟩:=h.al _ d o j;have⟨b,q,s⟩:=r d g;exact⟨b,p.trans q,s⟩
 |_,_, .pel o g r=> .pel (cB o h.len) g λd j=>by
  have⟨g,p⟩:=h.al _ d o j;have⟨b,q,s⟩:=r d g;exact⟨b,p.trans q,s⟩
 |_,_, .pin t u D w=> .pin (h.rd _ _ u t).2 (h.rd _ _ u t).1 D (go w)
 |_,_, .lstn A=> .lstn A
 |_,_, .tgtn A=> .tgtn A
 |_,_, .tgt t u z q w=> .tgt (h.rd _ _ u t).2 (h.rd _ _ u t).1 z q (go w)
 |_,_, .lst t u z g p q w=> .lst (h.rd _ _ u t).2 (h.rd _ _ u t).1 z g p q (go w)
 |_,_, .full o g r=> .full (cB o h.len) g λd j=>by
  have⟨g,p⟩:=h.al _ d o j;have⟨n,q,s⟩:=r d g;exact⟨n,q,s.frameV h o j⟩
 |_,_, .part o g r=> .part (cB o h.len) g λd j=>by
  have⟨g,p⟩:=h.al _ d o j;exact(r d g).frameV h o j
 |_,_, .fn g p=> .fn (go g) (go p)
 |_,_, .agg g=> .agg (go g)
 |_,_, .tup g=> .tup (go g)
where
 go: ∀{l:List VV} {m:List Value},F2 (VRel c) l m->F2 (VRel c') l m
  |_,_, .nil=> .nil
  |_,_, .cons g p=> .cons (VRel.frameV h g) (go p)
def VRel.framesV (h:LeV c c'){l:List VV}{m:List Value}(a:F2 (VRel c) l m):F2 (VRel c') l m:=a.imp λ_ _ b=>b.frameV h
def az.frameV (h:az c e ea)(a:LeV c c'):az c' e ea:=λt=>(h t).frameV a
def Q2 (c:Ctx)(p:Hp->Prop)(f:ai->Bool):Prop:= ∀c',LeV c c'->Rel c'->f c'.S=Za->p c'.Z
def Q2.next {p:Hp->Prop}{f:ai->Bool}(h:Q2 c p f)(d:LeV c c'):Q2 c' p f:=λa b=>h a (d.trans b)
def GA (c:Ctx)(p:Hp->Prop):Option (Option Nat)->Prop
 |none=>True
 |some Y=>p c.Z/\∀Z',(∀b y,c.Z.m b=O y->¬c.mut b->Z'.m b=O y)->p Z'
 |some (O q)=>(ae c.S q).dim≠Y/\p c.Z/\∀Z',(∀b,c.μ q=O b->Z'.m b=c.Z.m b)->p Z'
inductive ChkRel (c:Ctx):List (Nat×(Hp->Prop))->Gc->Prop where
 |nil:ChkRel c [] []
 |cons {i:Nat} {p:Hp->Prop} {s:Option (Option Nat)} {f:ai->Bool} {l:List (Nat×(Hp->Prop))} {m:Gc}:GA c p s->Q2 c p f->ChkRel c l m->ChkRel c ((i,p)::l) ((i,s,f)::m)
def GA.now {p:Hp->Prop}{s:Option Nat}(h:GA c p (O s)):p c.Z:=by
 cases s with
 |none=>exact h.1
 |some q=>exact h.2.1
def GA.next {p:Hp->Prop}{d:List Nat}(l:Le c c')(B:uO d c c'): ∀{s:Option (Option Nat)},GA c p s->GA c' p (match s with
  |some (O q)=>cond (ld q d) Y (O (O q))
  |s=>s)
 |none,_=>trivial
 |some Y,h=>by
  refine⟨h.2 _ λb y o n=>(l.rd b y o n).1,λZ' k=>h.2 Z' λb y o n=> ?_⟩;have⟨a,r⟩:=l.rd b y o n;exact k b y a r
 |some (O q),h=>by
  cases j:ld q d with
  |true=>
   show GA c' p (cond (ld q d) Y (O (O q)));rw[j];exact trivial
  |false=>
   show GA c' p (cond (ld q d) Y (O (O q)));rw[j];have⟨a,r,t⟩:=h;have C:q∉d:=λe=>by rw[ke.2 e]at j;cases j
   have⟨u,w⟩:=B q (mw a) C a
   have m:c'.μ q=c.μ q:=by
    cases g:(ae c'.S q).dim with
    |none=>exact(u g).elim
    |some A=>exact(l.al q A (mw a) g).2
   exact⟨u,t _ w,λZ' k=>t Z' λb z=>by rw[k b (by rw[m];exact z),w b z]⟩
def ChkRel.next {c c':Ctx}{d:List Nat}(h:Le c c')(j:uO d c c'): ∀{l:List (Nat×(Hp->Prop))} {m:Gc},ChkRel c l m->ChkRel c' l (Kp d m)
 |_,_, .nil=> .nil
 |_,_, .cons (s:=s) k a n=>by
  have b:=k.next h j
  have g:=ChkRel.next h j n
  have a:=a.next h.toV
  cases s with
  |none=>exact .cons b a g
  |some s=>
   cases s with
   |none=>exact .cons b a g
   |some q=>exact .cons b a g
def zY : ∀m:Gc,Kp [] m=m
 |[]=>rfl
 |(i,Y,_)::r=>by simp only[Kp,zY r]
 |(i,O Y,_)::r=>by simp only[Kp,zY r]
 |(i,O (O q),_)::r=>by simp only[Kp,zY r,ld,zD]
def De {c:Ctx}{a:List Nat}(d:Rel c): ∀{l:List (Nat×(Hp->Prop))} {m:Gc},ChkRel c l m->B9 c.S a m=Za->yp a c.Z l
 |_,_, .nil,_=>trivial
 |_,_, .cons (i:=i) (s:=s) (f:=f) k p g,h=>by
  simp only[B9]at h;simp only[yp]
  have n:a.contains i=ld i a:=by
   cases b:ld i a with
   |true=>simpa using ke.1 b
   |false=>
    cases o:a.contains i with
    |false=>rfl
    |true=>
     have:i∈a:=by simpa using o
     rw[ke.2 this]at b;cases b
  rw[n];cases b:ld i a with
  |false=>
   rw[b,zD]at h;rw[zF V4];exact De d g h
  |true=>
   rw[b,zC]at h;rw[zE rfl];cases s with
   |none=>
    simp only at h;cases j:f c.S with
    |false=>rw[j]at h;cases h
    |true=>
     rw[j,zC]at h;exact⟨p c (LeV.refl c) d j,De d g h⟩
   |some s=>exact⟨k.now,De d g h⟩
def nB {T:Ab.iU}{e:cm}(a:op.still=Za){k:Value->Hp->Prop}:(match op.run e Z with
  |some (v,Z')=>k v Z'
  |none=>False)=ci T op e Z k:=by
 cases op<;>first|(cases a;done)|rfl
def TK {s t:ByteArray}(h:eg s=eg t):s=t:=by
 unfold eg at h;have d:=List.map_inj_right (λa b (h:((a.toNat:Nat):Int)=(b.toNat:Int))=>UInt8.toNat_inj.1 (Int.ofNat.inj h))|>.1 h
 obtain⟨⟨s⟩⟩:=s;obtain⟨⟨t⟩⟩:=t;simp only at d;rw[d]
def au2 {x y:VV}{a b:Value}(d:VRel c x a)(g:VRel c' y b)(h:aM5 x y=Za):a=b:=by
 cases d<;>cases g<;>simp only[aM5,aD,decide_eq_true_eq,Bool.false_eq_true]at h
 case bool.bool=>rw[h]
 case int.int=>rw[h.1,h.2]
 case str.str h1 _ _ h2=>rw[TK (h1.trans (h.trans h2.symm))]
 all_goals rfl
def X1 {tab:Tab}{k:VV}(o:az c e ea)(j:op.still=Za)(r:VRel c0 k v):Q2 c (λZ'=>op.run ea Z'=O (v,Z')) (Qq tab op e k):=by
 intro c' p m h;unfold Qq at h;split at h
 .rename_i b n;subst h;have a:=uF m (o.frameV p) n;rw[<-nB j]at a;show op.run ea c'.Z=O (v,c'.Z);cases g:op.run ea c'.Z with
  |none=>rw[g]at a;exact a.elim
  |some q=>
   have⟨B,Z1⟩:=q;rw[g]at a;have⟨s,t,u,w,z,A,l,d⟩:=a;injection d with d
   rw[vI j g,au2 r l d]
 .cases h
def Ix (X:Rel c)(T:az c e ea)(C:op.isLoad=Za)(h:op.run ea c.Z=O (v,Z1)):GA c (λZ'=>op.run ea Z'=O (v,Z')) (W1 c.S op e):=by
 have z:=cn T (D8 op);have t:op.run ea c.Z=O (v,c.Z):=Md C h λ_ _=>rfl
 have M:GA c (λZ'=>op.run ea Z'=O (v,Z')) (YV c.S (ev e (D8 op))):=by
  generalize ev e (D8 op)=P at*
  have g: ∀q,zt P=O q->(∀b,YL (ea.ev (D8 op))=O b->(ae c.S q).dim≠Y->c.μ q=O b)->GA c (λZ'=>op.run ea Z'=O (v,Z')) (cond (ae c.S q).live (O (O q)) Y):=by
   intro q U a;cases I:(ae c.S q).live with
   |false=>trivial
   |true=>
    have⟨W,k⟩:=uJ I;exact⟨by rw[k];simp,t,λZ' D=>Md C h λb A=>D b (a b A (by rw[k];simp))⟩
  have p:(∀b,YL (ea.ev (D8 op))=O b->∃y,c.Z.m b=O y/\¬c.mut b)->GA c (λZ'=>op.run ea Z'=O (v,Z')) (O Y):=by
   intro a;refine⟨t,λZ' D=>Md C h λb A=> ?_⟩;have⟨y,w,r⟩:=a b A;rw[D b y w r,w]
  cases P<;>simp only[YV,zt]<;>try exact trivial
  case ptr q o=>
   refine g q rfl λb a k=> ?_
   cases z with
   |ptr E F u=>
    cases j:(ae c.S q).dim with
    |none=>exact(k j).elim
    |some d=>
     have⟨B,w,r⟩:=u d j;rw[r]at a;cases a;exact w
  case it q l=>
   refine g q rfl λb a k=> ?_
   have⟨s,_,u⟩:=z.it_inv;cases j:(ae c.S q).dim with
   |none=>exact(k j).elim
   |some d=>
    have⟨B,w,r⟩:=u d j;rw[r]at a;cases a
  case bld q=>
   refine g q rfl λb a k=> ?_
   cases z with
   |bld _ _ u=>
   cases j:(ae c.S q).dim with
   |none=>exact(k j).elim
   |some d=>
    have⟨B,w,r⟩:=u d j;rw[r]at a;cases a
  case pix q o n i=>
   refine g q rfl λb a k=> ?_
   cases z with
   |pix E F hi u=>
    cases j:(ae c.S q).dim with
    |none=>exact(k j).elim
    |some d=>
     have⟨B,w,r⟩:=u d j;rw[r]at a;cases a;exact w
  case pel q i o=>
   refine g q rfl λb a k=> ?_
   cases z with
   |pel E F u=>
    cases j:(ae c.S q).dim with
    |none=>exact(k j).elim
    |some d=>
     have⟨B,w,r⟩:=u d j;rw[r]at a;cases a;exact w
  case full q=>
   refine g q rfl λb a k=> ?_
   cases z with
   |full E F u=>
    cases j:(ae c.S q).dim with
    |none=>exact(k j).elim
    |some d=>
     have⟨n,_,r⟩:=u d j;rcases r with⟨r,_⟩|⟨B,Q,V,r,H,_⟩
     .rw[r]at a;cases a
     .rw[r]at a;cases a;exact H
  case part q lo n=>
   refine g q rfl λb a k=> ?_
   cases z with
   |part E F u=>
    cases j:(ae c.S q).dim with
    |none=>exact(k j).elim
    |some d=>
     rcases u d j with⟨r,_⟩|⟨B,Q,V,r,H,_⟩
     .rw[r]at a;cases a
     .rw[r]at a;cases a;exact H
  case pin s x o=>
   refine p λb a=> ?_
   generalize ea.ev (D8 op)=N at*;cases z with
   |pin J L C hf=>
    cases a;exact⟨_,L,J⟩
  case lst s l=>
   generalize K:ea.ev (D8 op)=N at*;cases z with
   |lstn U=>
    refine⟨t,λZ' D=> ?_⟩;have:=af3 C K h;exact this Z'
   |lst J L _ _ _ _ _=>
    refine p λb a=> ?_
    cases a;exact⟨_,L,J⟩
  case nils=>
   refine p λb a=> ?_
   generalize ea.ev (D8 op)=N at*;cases z;cases a
 cases op<;>first|(cases C;done)|exact M
def Xl {it:SItem}{ach:List (Nat×(Hp->Prop))}{k:Gc->co->ai->Option β}(A:Rel c)(m:az c e ea)(C:ChkRel c ach chk)(h:IK tab it chk e c.S k=O y){Q:List (Nat×(Hp->Prop))->cm->Hp->Prop}
  (z: ∀c' b d e' ea',Le c c'->Rel c'->ChkRel c' b d->az c' e' ea'->k d e' c'.S=O y->Q b ea' c'.Z):
  if it.mover then ci (fK tab) it.o.op ea c.Z (λv Z'=>yp it.chks Z' ach/\Q ach (ea.putO it.o.dst v) Z')
  else match it.o.op.run ea c.Z with
   |some (v,_)=>Q (if it.keep then(it.idx,λZ'=>it.o.op.run ea Z'=O (v,Z'))::ach else ach) (ea.putO it.o.dst v) c.Z
   |none=>False:=by
 unfold IK at h;cases J:it.mover with
 |true=>
  rw[J,zC]at h;rw[zE rfl];refine lf (bw tab) (λv Z' M=> ?_) (uF A m h);have⟨K,c',j,n,a,s,t,l⟩:=M;subst j;obtain⟨g,l⟩:=au l;have q:=C.next n s
  exact⟨De a q g,z c' ach _ _ _ n a q ((m.frame n).putO t) l⟩
 |false=>
  rw[J,zD]at h;rw[zF V4];have⟨g,L⟩:=au h;rw[aD]at g;have j:=uF A m L;rw[<-nB g.1]at j;cases w:it.o.op.run ea c.Z with
  |none=>rw[w]at j;exact j
  |some p=>
   have⟨v,Z1⟩:=p;rw[w]at j;have⟨K,c',n,a,s,t,l,u⟩:=j;simp only
   have I:HF tab it.o.op e c.S=[]:=by
    have:=g.1;cases H:it.o.op<;>rw[H]at this<;>first|(cases this;done)|rfl
   have q:=C.next a t
   rw[I,zY]at q;have B:Z1=c.Z:=vI g.1 w;rw[<-B,<-n];cases D:it.keep with
   |false=>
    simp only[D,zD]at u;rw[zF V4];exact z c' ach chk _ _ a s q ((m.frame a).putO l) u
   |true=>
    simp only[D,zC]at u;rw[zE rfl];have F:it.o.op.isLoad=Za:=by have:=g.2;rw[D]at this;simpa using this
    have E:=Ix A m F w;have r:=(ChkRel.cons (i:=it.idx) (f:=Qq tab it.o.op e K) E (X1 m g.1 l) C).next a t
    rw[I,zY]at r;exact z c' _ _ _ _ a s r ((m.frame a).putO l) u
end
def pQ (op:AOp)(ea:cm)(x:Ab.Blk)(a:Nat->Value):Prop:= ∀Z:Hp,op.run ea Z=O (a Z.n,Z.add x)
def pQ.unique {k:Ab.Blk}{j a:Nat->Value}(h:pQ op ea x j)(l:pQ op ea k a):x=k/\j=a:=by
 have d: ∀n,j n=a n/\x=k:=by
  intro n;have b:=h ⟨λ_=>Y,n⟩;rw[l ⟨λ_=>Y,n⟩]at b;injection b with b
  injection b with b o
  refine⟨b.symm, ?_⟩;have g:=congrArg (λs:Hp=>s.m n) o;simp only[Hp.add,if_true]at g;injection g with g
  exact g.symm
 exact⟨(d 0).2,funext λn=>(d n).1⟩
def PZ {x:Operand}(h: ∀t∈Sr x,ea' t=ea t):ea'.ev x=ea.ev x:=by
 cases x with
 |tmp t=>exact h t (by simp[Sr])
 |_=>rfl
def pQ.same {j:Nat->Value}(h:pQ op ea x j)(n:qA op=Za)(g: ∀t∈uL op,ea' t=ea t):pQ op ea' x j:=by
 intro Z;have a:=h Z;cases op<;>first|(cases n;done)|skip
 case alloc es z=>exact a
 case makeSlice es bytes z l m=>
  have d:ea'.ev l=ea.ev l:=PZ λt b=>g t (by simp[uL,b])
  have k:ea'.ev m=ea.ev m:=PZ λt b=>g t (by simp[uL,b])
  simp only[AOp.run]at a⊢;rw[d,k];exact a
 case buildSlice es ln z ps=>
  have d:(ps.map λ(o,s,x)=>(o,s,ea'.ev x))=ps.map λ(o,s,x)=>(o,s,ea.ev x):=by
   apply cS;rintro⟨o,s,x⟩ p;simp only;rw[PZ λt b=>g t (List.mem_flatMap.2 ⟨_,p,b⟩)]
  simp only[AOp.run]at a⊢;rw[d];exact a
def MM {c c':Ctx}: ∀{l:List VV} {m:List Value},l.all Wn=Za->F2 (VRel c) l m->F2 (VRel c') l m
 |_,_,_, .nil=> .nil
 |v::l,_,h, .cons a b=>by
  rw[List.all_cons,aD]at h;refine .cons ?_ (MM h.2 b);cases a<;>first|(cases h.1;done)|skip
  .exact .bool _
  .exact .int _ _
  .exact .str ZI
structure FreshFact (op:AOp)(ea:cm)(blk:Blk)(w:Bool)(x:Ab.Blk)(vf:Nat->Value):Prop where
 run:pQ op ea x vf
 fz:blk.frozen=Zb
 dm: ∃dm cs rest,blk.dim=O dm/\1<=dm.1/\x.es=dm.1/\x.own=Za/\x.cells=cs++rest/\∀c':Ctx,F2 (VRel c') blk.vals cs
 vv: ∀(c':Ctx) (k b:Nat),k<dt c'.S->ae c'.S k=blk->c'.μ k=O b->c'.Z.m b=O x->VRel c' (vvF w k) (vf b)
def C3 {β:Type}{k:Blk->Bool->Option β}{y:β}(I:az c e ea)(h:zN op e k=O y):qA op=Za/\∃blk w x V,k blk w=O y/\FreshFact op ea blk w x V:=by
 cases op<;>simp only[zN]at h<;>first|(cases h;done)|skip
 case alloc es z=>
  obtain⟨o,B⟩:=au h;have o:=cP o;refine⟨rfl,_,_,⟨z,Za,es⟩,λn=> .pointer (O ⟨n,0,Y⟩),B,⟨λZ=>rfl,(yk es z).2.1,⟨(es,z.length),z,[],(yk es z).1,o,rfl,rfl,V2,λc'=>(yk es z).2.2 c'⟩,λc' k b r N E F=> ?_⟩⟩;refine .ptr r rfl λd g=>⟨b,E,rfl⟩
 case makeSlice es bytes z l m=>
  have M:=cn I l;have E:=cn I m;split at h
  .rename_i X a k2 b s o B N;rw[o]at M;rw[B]at E;obtain⟨L,r⟩:=au h;simp only[aD]at L;obtain⟨⟨⟨⟨A,j⟩,p⟩,C⟩,D⟩:=L;have A:=bB A;have j:=of_decide_eq_true j;have p:=of_decide_eq_true p;have C:=of_decide_eq_true C;have D:=cP D;have P: ∀c':Ctx,F2 (VRel c') (dy s (uM s)) z:=λc'=>Cf (c:=c') N
   have J:z.length=s.w:=by rw[<-(P c).length,ej]
   have W:b<=bytes*b:=by
    have:(1:Int)*b<=bytes*b:=Int.mul_le_mul_of_nonneg_right V1 V1;omega
   refine⟨rfl,_,_,⟨ei z b.toNat,Za,es⟩,λn=> .slice (O ⟨n,0,Y⟩) a.toNat b.toNat,r,⟨λZ=> ?_,rfl,⟨(s.w,(List.replicate a.toNat (uM s)).length*s.w),ei z a.toNat,ei z (b.toNat-a.toNat),rfl,nG s,A,rfl, ?_,λc'=> ?_⟩,λc' k q r u t F=> ?_⟩⟩
   .simp only[AOp.run,M.int_inv,E.int_inv];rw[zE ⟨j,p,V1,V1⟩]
   .show ei z b.toNat=_;rw[<-OL]
    congr 1
    omega
   .show F2 (VRel c') (fO s (List.replicate a.toNat (uM s))) (ei z a.toNat);rw[sF];generalize a.toNat=n;induction n with
    |zero=>exact .nil
    |succ n Q=>
     simp only[ei,List.replicate_succ,List.flatten_cons]at Q⊢;exact(P c').append Q
   .refine .full r rfl λd g=> ?_
    rw[u]at g;injection g with g
    subst g;refine⟨a.toNat,V2, .inr ⟨q,b.toNat,_,V2,t,V2,V1,F, ?_⟩⟩;rw[Nat.zero_add];show b.toNat*s.w<=(ei z b.toNat).length;rw[OM,J];exact cQ _
  .cases h
 case buildSlice es ln z ps=>
  split at h
  .rename_i S U;obtain⟨o,B⟩:=au h;simp only[aD]at o;obtain⟨⟨⟨⟨A,j⟩,p⟩,C⟩,D⟩:=o;have j:=bB j;have p:=cP p;obtain⟨K,T,H⟩:=yn I ps U (Jh ln z);refine⟨D,_,_,⟨K,Za,es⟩,λn=> .slice (O ⟨n,0,Y⟩) ln ln,B,⟨λZ=> ?_,rfl,⟨(es,S.length),K,[],rfl,p,rfl,rfl,V2,λc'=>MM C H⟩,λc' k q r u t F=> ?_⟩⟩
   .simp only[AOp.run,T];rw[zE (kX H A)]
   .refine .full r rfl λd g=> ?_
    rw[u]at g;injection g with g
    subst g;refine⟨ln,j, .inr ⟨q,ln,_,V2,t,by simp[j],cQ _,F, ?_⟩⟩;rw[Nat.zero_add];show ln*es<=K.length;rw[<-H.length];exact Nat.le_of_eq j
  .cases h
def qR {i q:Nat}: ∀{l:List Nat},l.Nodup->(q∈BW i l↔q∈l/\q≠i)
 |[],_=>by simp[BW]
 |a::r,h=>by
  have⟨j,k⟩:=List.nodup_cons.1 h;simp only[BW];cases d:aB a i with
  |true=>
   have:=bB d;subst this;rw[zC];constructor
   .intro hq;exact⟨bD _ hq,λe=>j (e▸hq)⟩
   .rintro⟨hq,m⟩;rcases List.mem_cons.1 hq with rfl|hq
    .exact(m rfl).elim
    .exact hq
  |false=>
   have g:a≠i:=λe=>by subst e;rw[cL]at d;cases d
   rw[zD,cO,cO,qR k];constructor
   .rintro(rfl|⟨h3,b⟩)
    .exact⟨.inl rfl,g⟩
    .exact⟨.inr h3,b⟩
   .rintro⟨rfl|h3,b⟩
    .exact .inl rfl
    .exact .inr ⟨h3,b⟩
def JB {i:Nat}: ∀{l:List Nat},l.Nodup->(BW i l).Nodup
 |[],h=>h
 |a::r,h=>by
  have⟨d,b⟩:=List.nodup_cons.1 h;simp only[BW];cases j:aB a i with
  |true=>exact b
  |false=>
   rw[zD,List.nodup_cons];exact⟨λg=>d ((qR b).1 g).1,JB b⟩
def yx : ∀{ts:List Nat} {e:co} {t:Nat},lQ (rA e ts) t= .undef∨(t∉ts/\lQ (rA e ts) t=lQ e t)
 |[],e,t=> .inr ⟨V2,rfl⟩
 |a::ts,e,t=>by
  simp only[rA,wO];by_cases h:t=a
  .rw[zE h];exact .inl rfl
  .rw[zF h];rcases yx (ts:=ts) (e:=e) (t:=t)with b|⟨b,d⟩
   .exact .inl b
   .exact .inr ⟨by simp[h,b],d⟩
section
variable {tab:Tab} {ops:List (AOper×List Nat)}
structure InvL (ops:List (AOper×List Nat))(c0 c:Ctx)(e:co)(ea:cm)(ach:List (Nat×(Hp->Prop)))(chk:Gc)(P ls nd:List Nat)(r:List LItem)(pd:Nat->Nat):Prop where
 le:Le c0 ⟨c.μ,c.S,c.Z,c0.fb⟩
 R:Rel c
 E:az c e ea
 K:ChkRel c ach chk
 ks:ach.map (·.1)=ls
 nd:qF nd chk=Za
 fb: ∀b,c.fb b↔(c0.fb b∨∃q∈P,pd q=b)
 nod:P.Nodup
 inj: ∀q q',q∈P->q'∈P->pd q=pd q'->q=q'
 new: ∀q∈P,c0.Z.n<=pd q
 pend: ∀q∈P,qA (be ops q).op=Za/\∃x vf,pQ (be ops q).op ea x vf/\c.Z.m (pd q)=O x/\∀t,(be ops q).dst=O t->ea t=vf (pd q)
 und: ∀it∈r,aB it.kind 2=Za->∀t,(be ops it.i).dst=O t->lQ e t= .undef
 ds:Gu ops r=Za
def GA.frameV {p:Hp->Prop}(C:Rel c)(E:LeV c c')(D: ∀q,q<dt c.S->ae c'.S q=ae c.S q)(n: ∀q,q<dt c.S->c'.μ q=c.μ q)(w: ∀b y,c.Z.m b=O y->c'.Z.m b=O y): ∀{s:Option (Option Nat)},GA c p s->GA c' p s
 |none,_=>trivial
 |some Y,h=>by
  refine⟨h.2 _ λb y o _=>w b y o,λZ' l=>h.2 Z' λb y o F=> ?_⟩;have⟨g,r⟩:=E.rd b y o F;exact l b y g r
 |some (O q),h=>by
  have⟨g,r,t⟩:=h;have A:=mw g
  have j: ∀b,c.μ q=O b->c'.Z.m b=c.Z.m b:=by
   intro b j;cases z:(ae c.S q).dim with
   |none=>exact(g z).elim
   |some d=>
    have⟨_,a⟩:=C.blk q d z;rcases a with⟨_,a⟩|⟨I,y,J,B,a,u,_⟩
    .rw[j]at a;cases a
    .rw[j]at a;cases a;rw[u];exact w _ _ u
  exact⟨by rw[D q A];exact g,t _ j,λZ' H=>t Z' λb k=>(H b (by rw[n q A];exact k)).trans (j b k)⟩
def ChkRel.frameV (g:Rel c)(d:LeV c c')(h: ∀q,q<dt c.S->ae c'.S q=ae c.S q)(a: ∀q,q<dt c.S->c'.μ q=c.μ q)(j: ∀b y,c.Z.m b=O y->c'.Z.m b=O y): ∀{l:List (Nat×(Hp->Prop))} {m:Gc},ChkRel c l m->ChkRel c' l m
 |_,_, .nil=> .nil
 |_,_, .cons k o n=> .cons (k.frameV g d h a j) (o.next d) (n.frameV g d h a j)
def qB {c:Ctx}{m:Nat}{b:List Nat}: ∀{l:List (Nat×(Hp->Prop))} {chk:Gc},ChkRel c l chk->qF b chk=Za->(∀i∈l.map (·.1),uA ops i m=Za∨ld i b=Za)->B5 ops m c.Z l
 |_,_, .nil,_,_=>trivial
 |_,_, .cons (i:=i) (s:=s) n _ o,h,g=>by
  simp only[qF]at h;simp only[B5];have a:qF b _=Za->B5 ops m c.Z _:=λh3=>qB o h3 λj p=>g j (by simp only[List.map_cons];exact bD _ p)
  cases d:uA ops i m with
  |true=>
   rw[zE rfl];cases k:ld i b with
   |false=>rw[k,zD]at h;exact a h
   |true=>
    rw[k,zC]at h;cases s with
    |none=>cases h
    |some s=>exact a h
  |false=>
   rw[zF V4];rcases g i V2 with h3|h3
   .rw[d]at h3;cases h3
   .rw[h3,zC]at h;cases s with
    |none=>cases h
    |some s=>exact⟨n.now,a h⟩
def L9 {β:Type}{ach:List (Nat×(Hp->Prop))}{P ls nd:List Nat}{r:List LItem}{pd:Nat->Nat}{K:co->ai->Option β}{y:β}(h0:Rel c0)
  (k:InvL ops c0 c e ea ach chk P ls nd (it::r) pd) (hk:aB it.kind 2=Za) (hP:it.i∈P) (h:zN (be ops it.i).op e (λblk w=>K (putO e (be ops it.i).dst (vvF w (dt c.S))) (c.S++[blk]))=O y):
  ∃c' e',c'.Z=c.Z/\InvL ops c0 c' e' ea ach chk (BW it.i P) ls nd r pd/\K e' c'.S=O y/\c'.μ (dt c.S)=O (pd it.i)/\(dt c.S)<dt c'.S/\∃vv,e'=putO e (be ops it.i).dst vv:=by
 have⟨hfb,blk,w,x',vf',h1,h2⟩:=C3 k.E h;have⟨_,x,vf,h3,h4,h5⟩:=k.pend _ hP;have⟨ex,ef⟩:=h2.run.unique h3;subst ex;subst ef;obtain⟨dm,cs,rest,d1,d2,d3,d4,d5,d6⟩:=h2.dm;have o:dt (c.S++[blk])=dt c.S+1:=by simp
 have V:=k.ds;simp only[Gu,aD]at V
 let b:=pd it.i
 let c':Ctx:=⟨λq=>if q=dt c.S then O b else c.μ q,c.S++[blk],c.Z,λq=>c0.fb q∨∃j∈BW it.i P,pd j=q⟩
 have I:c.fb b:=(k.fb b).2 (.inr ⟨it.i,hP,rfl⟩);have D: ∀q,q<dt c.S->ae c'.S q=ae c.S q:=λq g=>nD g
 have p: ∀q,q<dt c.S->c'.μ q=c.μ q:=λq g=>zF (Nat.ne_of_lt g)
 have J:ae c'.S (dt c.S)=blk:=SY;have a:c'.μ (dt c.S)=O b:=zE rfl
 have H: ∀q,c'.fb q->c.fb q:=by
  rintro q (g|⟨j,Q,rfl⟩)
  .exact(k.fb q).2 (.inl g)
  .exact(k.fb _).2 (.inr ⟨j,((qR k.nod).1 Q).1,rfl⟩)
 have U: ¬c'.fb b:=by
  rintro(g|⟨j,Q,hjb⟩)
  .have:=h0.fbl _ g;have:=k.new _ hP;omega
  .obtain⟨C,A⟩:=(qR k.nod).1 Q;exact A (k.inj _ _ C hP hjb)
 have T: ∀q,c'.own q->c.own q∨q=b:=by
  rintro q ⟨j,C,A⟩;by_cases Q:j<dt c.S
  .rw[D j Q]at C;rw[p j Q]at A;exact .inl ⟨j,C,A⟩
  .by_cases hj3:j=dt c.S
   .subst hj3;rw[a]at A;injection A with A
    exact .inr A.symm
   .rw[wS (by show dt c'.S<=j;rw[o];omega)]at C;cases C
 have hV:LeV c c':=by
  refine⟨by rw[o];omega,λq d g m=> ?_,λq d z M g m hm F=>⟨M,F,rfl⟩,λz M F W=>⟨F,λhm=> ?_⟩⟩
  .rw[D q g]at m;exact⟨m,p q g⟩
  .rcases hm with hm|hm
   .rcases T z hm with hm|hm
    .exact W (.inl hm)
    .subst hm;exact W (.inr I)
   .exact W (.inr (H _ hm))
 have hR':Rel c':=by
  refine⟨k.R.ok,λq L z g l hm B=> ?_,λq d m=> ?_,λq z m hm=> ?_,λz hb'=>k.R.fbl _ (H _ hb')⟩
  .have u: ∀j,(ae c'.S j).dim≠Y->j<(dt c.S)∨j=dt c.S:=by
    intro j Q;have:=mw Q;rw[o]at this;omega
   rcases u q (mH g)with h6|h6
   .rcases u L l with h7|h7
    .rw[D q h6]at g;rw[D L h7]at l;rw[p q h6]at hm;rw[p L h7]at B;exact k.R.inj q L z g l hm B
    .subst h7;rw[a]at B;cases B;rw[p q h6]at hm;rw[D q h6]at g;exact(k.R.fbk q _ (mH g) hm I).elim
   .rcases u L l with h7|h7
    .subst h6;rw[a]at hm;cases hm;rw[p L h7]at B;rw[D L h7]at l;exact(k.R.fbk L _ l B I).elim
    .rw[h6,h7]
  .by_cases g:q<dt c.S
   .rw[D q g]at m⊢;have⟨h6,h7⟩:=k.R.blk q d m;refine⟨h6, ?_⟩;rcases h7 with⟨h7,h8⟩|⟨z,M,cs',rest',h7,h8,h9,h10,h11,h12⟩
    .exact .inl ⟨h7,by rw[p q g];exact h8⟩
    .exact .inr ⟨z,M,cs',rest',by rw[p q g];exact h7,h8,h9,h10,h11,VRel.framesV hV h12⟩
   .by_cases X:q=dt c.S
    .subst X;rw[J]at m⊢;rw[d1]at m;cases m;exact⟨d2, .inr ⟨b,x',cs,rest,a,h4,d3,λ_=>d4,d5,d6 c'⟩⟩
    .rw[wS (by show dt c'.S<=q;rw[o];omega)]at m;cases m
  .by_cases g:q<dt c.S
   .rw[D q g]at m;rw[p q g]at hm;exact λhf=>k.R.fbk q z m hm (H _ hf)
   .have:=mw m;rw[o]at this;have X:q=dt c.S:=by omega
    subst X;rw[a]at hm;cases hm;exact U
 have hvv:VRel c' (vvF w (dt c.S)) (vf' b):=h2.vv c' (dt c.S) b (by rw[o];omega) J a h4
 have hE':az c' (putO e (be ops it.i).dst (vvF w (dt c.S))) ea:=by
  have hE:=k.E.frameV hV;cases m:(be ops it.i).dst with
  |none=>exact hE
  |some t=>
   intro t';show VRel c' (lQ (qU e t _) t') (ea t');rw[wO];by_cases ht:t'=t
   .subst ht;rw[zE rfl,h5 _ m];exact hvv
   .rw[zF ht];exact hE t'
 refine⟨c',_,rfl,⟨?_,hR',hE',k.K.frameV k.R hV D p (λ_ _ F=>F),k.ks,k.nd,λq=>Iff.rfl,JB k.nod,λq L g l=>k.inj q L ((qR k.nod).1 g).1 ((qR k.nod).1 l).1,λq g=>k.new q ((qR k.nod).1 g).1,λq g=>k.pend q ((qR k.nod).1 g).1, ?_,V.2⟩,h1,a,by rw[o];omega,_,rfl⟩
 .have s:=k.le;refine⟨cR s.len (by show dt c.S<=dt c'.S;rw[o];omega),λq d g m=> ?_,λq hf m=> ?_,λq d z M g m hm F=> ?_,λz M F W=>s.un z M F W,λz M F W ho=> ?_,s.n,rfl⟩
  .have l:q<dt c.S:=cB g s.len;have:=D q l;rw[show(⟨c'.μ,c'.S,c'.Z,c0.fb⟩:Ctx).S=c'.S from rfl,this]at m;have⟨h6,h7⟩:=s.al q d g m;exact⟨h6,(p q l).trans h7⟩
  .have l:q<dt c.S:=cB (mw m) s.len;exact(D q l).trans (s.fz q hf m)
  .have l:q<dt c.S:=cB g s.len;have:=D q l;rw[show(⟨c'.μ,c'.S,c'.Z,c0.fb⟩:Ctx).S=c'.S from rfl,this]at m;exact s.ln q d z M g m hm F
  .have ho':c'.own z:=ho;rcases T z ho' with ho2|ho2
   .exact s.ow z M F W ho2
   .subst ho2;have:=h0.ok _ _ F;have:=k.new _ hP;omega
 .intro it' N hk' t ht;have hu:=k.und it' (bD _ N) hk' t ht;cases m:(be ops it.i).dst with
  |none=>exact hu
  |some t'=>
   show lQ (qU e t' _) t=_;rw[wO];by_cases htt:t=t'
   .subst htt;have:=List.all_eq_true.1 V.1 it' N;rw[hk,hk']at this;simp only[cN,cM,VY,m,ht,cL]at this;cases this
   .rw[zF htt];exact hu
def VM {β:Type}{ach:List (Nat×(Hp->Prop))}{P ls d:List Nat}{r:List LItem}{pd:Nat->Nat}{k:co->ai->Option β}{y:β}(g:Rel c0)
  (n:InvL ops c0 c e ea ach chk P ls d (it::r) pd) (a:aB it.kind 2=Za) (o:it.i∈P) (h:DC tab ops (it::r) chk e c.S k=O y):
  ∃c' e',c'.Z=c.Z/\InvL ops c0 c' e' ea ach chk (BW it.i P) ls d r pd/\DC tab ops r chk e' c'.S k=O y:=by
 have b:aB it.kind 3=Zb:=by rw[bB a];rfl
 simp only[DC,a,b,zC,zD]at h;obtain⟨c',e',j,l,m,_⟩:=L9 (K:=λe' S'=>DC tab ops r chk e' S' k) g n a o h;exact⟨c',e',j,l,m⟩
def Sy {β:Type}{ach:List (Nat×(Hp->Prop))}{P ls nd:List Nat}{r:List LItem}{pd:Nat->Nat}{k:co->ai->Option β}{y:β}
  (a:InvL ops c0 c e ea ach chk P ls nd (it::r) pd) (d:aB it.kind 3=Za) (h:DC tab ops (it::r) chk e c.S k=O y):
  InvL ops c0 c e ea ach chk P ls nd r pd/\DC tab ops r chk e c.S k=O y:=by
 simp only[DC,d,zC]at h;have⟨_,_,_,_,_,g,_⟩:=C3 a.E h;have b:=a.ds;simp only[Gu,aD]at b;exact⟨⟨a.le,a.R,a.E,a.K,a.ks,a.nd,a.fb,a.nod,a.inj,a.new,a.pend,λj l d t m=>a.und j (bD _ l) d t m,b.2⟩,g⟩
def Ib {β:Type}{c0:Ctx}{ea:cm}{ach:List (Nat×(Hp->Prop))}{chk:Gc}{ls w:List Nat}{pd:Nat->Nat}{k:co->ai->Option β}{y:β}{i:Nat}(n:Rel c0): ∀(r:List LItem) {P P':List Nat} {it:LItem} {j:List LItem} {c:Ctx} {e:co},Dl r P i=O (P',it,j)->
  InvL ops c0 c e ea ach chk P ls w r pd->DC tab ops r chk e c.S k=O y->
  ∃c' e',c'.Z=c.Z/\InvL ops c0 c' e' ea ach chk P' ls w (it::j) pd/\DC tab ops (it::j) chk e' c'.S k=O y/\aB it.kind 2=Zb/\it.i=i/\∀q∈P',q∈P
 |[],P,P',it,j,c,e,h,_,_=>by cases h
 |a::r,P,P',it,j,c,e,h,l,u=>by
  simp only[Dl]at h;cases b:aB a.kind 3 with
  |true=>
   rw[b,zC]at h;have⟨d,g⟩:=Sy l b u;exact Ib n r h d g
  |false=>
  rw[b,zD]at h;cases m:aB a.kind 2 with
  |false=>
   rw[m,zD]at h;cases p:aB a.i i with
   |false=>rw[p]at h;cases h
   |true=>
    rw[p,zC]at h;injection h with h
    injection h with d h
    injection h with g o
    subst d;subst g;subst o;exact⟨c,e,rfl,l,u,m,bB p,λq t=>t⟩
  |true=>
   rw[m,zC]at h;cases s:ld a.i P with
   |false=>rw[s]at h;cases h
   |true=>
    rw[s,zC]at h;have⟨c1,I,d,g,o⟩:=VM n l m (ke.1 s) u;have⟨z,A,B,C,D,E,F,H⟩:=Ib n r h g o;exact⟨z,A,B.trans d,C,D,E,F,λq t=>((qR l.nod).1 (H q t)).1⟩
def P0 {β:Type}{c0:Ctx}{ea:cm}{ach:List (Nat×(Hp->Prop))}{chk:Gc}{ls u:List Nat}{pd:Nat->Nat}{k:co->ai->Option β}{y:β}(l:Rel c0): ∀(r:List LItem) {P:List Nat} {c:Ctx} {e:co},Ua r P=Za->
  InvL ops c0 c e ea ach chk P ls u r pd->DC tab ops r chk e c.S k=O y->qm c0 k y ea c.Z
 |[],P,c,e,h,d,j=>by
  have s:P=[]:=by
   cases P with
   |nil=>rfl
   |cons a r=>simp[Ua]at h
  subst s
  have o:c.fb=c0.fb:=by
   funext b
   refine propext ((d.fb b).trans ⟨λh=> ?_, .inl⟩);rcases h with h|⟨q,t,_⟩
   .exact h
   .cases t
  refine⟨e,c,rfl, ?_,d.R,d.E,j⟩;have:=d.le;rw[<-o]at this;exact this
 |a::r,P,c,e,h,d,j=>by
  simp only[Ua]at h;cases g:aB a.kind 3 with
  |true=>
   rw[g,zC]at h;have⟨m,n⟩:=Sy d g j;exact P0 l r h m n
  |false=>
  rw[g,zD]at h;simp only[aD]at h;have⟨c1,w,m,n,p⟩:=VM l d h.1.1 (ke.1 h.1.2) j;rw[<-m];exact P0 l r h.2 n p
def Kz {β:Type}{c:Ctx}{ea:cm}{chk:Gc}{k:co->ai->Option β}{y:β}{m:Nat}: ∀(r:List LItem) {e e':co} {S:ai},L0 ops r m=Za->az c e ea->(∀t∈uL (be ops m).op,lQ e' t=lQ e t)->DC tab ops r chk e' S k=O y->∃x H,qA (be ops m).op=Za/\pQ (be ops m).op ea x H
 |[],e,e',S,h,_,_,_=>by cases h
 |a::r,e,e',S,h,I,B,b=>by
  have u: ∀(W:VV),te (be ops a.i).dst (uL (be ops m).op)=Za->∀t∈uL (be ops m).op,lQ (putO e' (be ops a.i).dst W) t=lQ e t:=by
   intro W p t U;rw[<-B t U];cases hd:(be ops a.i).dst with
   |none=>rfl
   |some V=>
    show lQ (qU e' V _) t=_;rw[wO];by_cases F:t=V
    .subst F;rw[hd]at p;simp only[te]at p;rw[ke.2 U]at p;cases p
    .rw[zF F]
  have d: ∀{γ:Type} {Q:Blk->Bool->Option γ} {z:γ},zN (be ops m).op e' Q=O z->∃x H,qA (be ops m).op=Za/\pQ (be ops m).op ea x H:=by
   intro γ Q z b
   have N:zN (be ops m).op e Q=O z:=by
    cases g:(be ops m).op<;>rw[g]at b B<;>simp only[zN]at b<;>first|(cases b;done)|skip
    case alloc es z=>exact b
    case makeSlice es bytes z l q=>
     have J:ev e' l=ev e l:=by
      cases l with
      |tmp t=>exact B t (by simp[uL,Sr])
      |_=>rfl
     have X:ev e' q=ev e q:=by
      cases q with
      |tmp t=>exact B t (by simp[uL,Sr])
      |_=>rfl
     rw[J,X]at b;exact b
    case buildSlice es ln z ps=>
     have J:Bv e' ps=Bv e ps:=by
      unfold Bv;apply cS;rintro⟨o,s,x⟩ hx;simp only
      have:ev e' x=ev e x:=by
       cases x with
       |tmp t=>exact B t (List.mem_flatMap.2 ⟨_,hx,by simp[Sr]⟩)
       |_=>rfl
      rw[this]
     rw[J]at b;exact b
   have⟨hf,A,w,x,H,_,C⟩:=C3 I N;exact⟨x,H,hf,C.run⟩
  simp only[L0]at h;cases n:aB a.kind 3 with
  |true=>
   rw[n,zC,cD]at h;simp only[DC,n,zC]at b;rcases h with h|h
   .rw[bB h]at b;exact d b
   .have j:DC tab ops r chk e' S k=O y:=by
     cases g:(be ops a.i).op<;>rw[g]at b<;>simp only[zN]at b<;>first|(cases b;done)|skip
     case alloc es z=>exact(au b).2
     case makeSlice es bytes z l q=>
      split at b
      .exact(au b).2
      .cases b
     case buildSlice es ln z ps=>
      split at b
      .exact(au b).2
      .cases b
    exact Kz r h I B j
  |false=>
  rw[n,zD]at h;simp only[cD,aD]at h;rcases h with⟨D,h⟩|⟨⟨⟨D,E⟩,p⟩,C⟩
  .simp only[DC,D,n,zC,zD]at b;by_cases T:a.i=m
   .rw[T]at b;exact d b
   .rcases h with h|⟨p,C⟩
    .exact(T (bB h)).elim
    .have j: ∃A w,DC tab ops r chk (putO e' (be ops a.i).dst (vvF w (dt S))) (S++[A]) k=O y:=by
      cases g:(be ops a.i).op<;>rw[g]at b<;>simp only[zN]at b<;>first|(cases b;done)|skip
      case alloc es z=>exact⟨_,_,(au b).2⟩
      case makeSlice es bytes z l q=>
       split at b
       .exact⟨_,_,(au b).2⟩
       .cases b
      case buildSlice es ln z ps=>
       split at b
       .exact⟨_,_,(au b).2⟩
       .cases b
     have⟨A,w,P⟩:=j;exact Kz r C I (u _ p) P
  .have L:aB a.kind 2=Zb:=by rw[bB D];rfl
   have K:aB a.kind 1=Zb:=by rw[bB D];rfl
   have M:aB a.kind 5=Zb:=by rw[bB D];rfl
   simp only[DC,L,K,n,M,zD]at b;obtain⟨_,b⟩:=au b;cases g:(be ops a.i).op<;>rw[g]at E<;>first|(cases E;done)|skip
   case move x=>
    rw[g]at b;simp only[IL,AOp.isLoad,zD]at b;obtain⟨_,b⟩:=au b;exact Kz r C I (u _ p) b
def PF {F:Nat->Prop}: ∀{l:List Nat},(∀m∈l,F m)->Lf F l
 |[],_=>trivial
 |[m],h=>h m V2
 |m::b::r,h=>⟨h m V2,PF λq a=>h q (bD _ a)⟩
def Qj {D:List Nat}{i:Nat}(h:eb ops D=O i): ∃p,ops[i]?=O (be ops i,p)/\(be ops i).op.still=Za:=by
 unfold eb at h;have b:=List.find?_some h;simp only[aD]at b;have a:=b.2;unfold Dk at a;unfold be;split at a
 .rename_i o p d;rw[d];exact⟨p,rfl,a⟩
 .cases a
def Mi {D:List Nat}{m:Nat}(h:m∈bv ops D): ∃p,ops[m]?=O (be ops m,p)/\(be ops m).op.still=Zb:=by
 unfold bv at h;have⟨a,d⟩:=List.mem_filter.1 h;have a:=List.mem_range.1 a;simp only[aD]at d;have b:=d.2;unfold Dk at b;unfold be;rw[List.getElem?_eq_getElem a]at b⊢;exact⟨_,rfl,by simpa using b⟩
def Wb {a:Nat}{g:Bool}{P:List Nat}{r:List LItem}(h:uK ops a g P r=Za){q:Nat}(j:q∈P):(∀t,(be ops a).dst=O t->(be ops q).dst≠O t)/\∀t,(be ops a).dst=O t->t∉uL (be ops q).op:=by
 simp only[uK,aD]at h;have b:=List.all_eq_true.1 h.1 q j;rw[aD]at b;refine⟨λt d e=> ?_,λt d k=> ?_⟩
 .have:=b.1;rw[d,e]at this;simp only[VY,cL]at this;cases this
 .have:=b.2;rw[d]at this;simp only[te]at this;rw[ke.2 k]at this;cases this
def ax9 {a:Nat}{b:Bool}{P:List Nat}{r:List LItem}(h:uK ops a b P r=Za)(g:it∈r)(l:aB it.kind 2=Za)(j:b=Za->it.i≠a){t:Nat}(m:(be ops a).dst=O t):(be ops it.i).dst≠O t:=by
 simp only[uK,aD]at h;have d:=List.all_eq_true.1 h.2 it g
 have k:(b&&aB it.i a)=Zb:=by
  cases b with
  |false=>rfl
  |true=>exact Bool.eq_false_iff.2 λe=>j rfl (bB e)
 rw[l,k]at d;intro e;rw[m,e]at d;simp only[cN,cM,VY,cL]at d;cases d
def AP {d:Option Nat}{t:Nat}(h: ∀a,d=O a->t≠a):(ea.putO d v) t=ea t:=by
 cases d with
 |none=>rfl
 |some a=>exact zF (h a rfl)
def ai8 {d:Option Nat}{v:VV}{t:Nat}(h: ∀a,d=O a->t≠a):lQ (putO e d v) t=lQ e t:=by
 cases d with
 |none=>rfl
 |some a=>
  show lQ (qU e a v) t=_;rw[wO,zF (h a rfl)]
def InvL.on {ach a:List (Nat×(Hp->Prop))}{d:Gc}{P ls p X s:List Nat}{r:List LItem}{pd:Nat->Nat}{i:Nat}{L:VV}
  (g:InvL ops c0 c e ea ach chk P ls X (it::r) pd) (H:uK ops i Zb P r=Za) (l:Le c c') (Q:Rel c') (U:VRel c' L v) (N:ChkRel c' a d) (C:a.map (·.1)=p) (D:qF s d=Za):
  InvL ops c0 c' (putO e (be ops i).dst L) (ea.putO (be ops i).dst v) a d P p s r pd:=by
 have o:=g.ds;simp only[Gu,aD]at o;refine⟨?_,Q,(g.E.frame l).putO U,N,C,D,λb=>by rw[l.fb];exact g.fb b,g.nod,g.inj,g.new,λq F=> ?_,λj J K t m=> ?_,o.2⟩
 .have w:=g.le;have z:Le ⟨c.μ,c.S,c.Z,c0.fb⟩ ⟨c'.μ,c'.S,c'.Z,c0.fb⟩:=⟨l.len,l.al,l.fz,l.ln,l.un,l.ow,l.n,rfl⟩;exact w.trans z
 .obtain⟨I,x,vf,w,z,M⟩:=g.pend q F;have⟨V,W⟩:=Wb H F;refine⟨I,x,vf,w.same I λt m=>AP λu k e=>W u k (e▸m),l.un _ _ z λT=> ?_,λt m=> ?_⟩
  .obtain⟨j,A,B⟩:=T;exact g.R.fbk j _ (mH A) B ((g.fb _).2 (.inr ⟨q,F,rfl⟩))
  .rw[AP λu k e=>V u k (e▸m)];exact M t m
 .rw[ai8 λu k e=>ax9 H J K (λh=>by cases h) k (e▸m)];exact g.und j (bD _ J) K t m
def IS {ach:List (Nat×(Hp->Prop))}{P ls nd:List Nat}{r:List LItem}{pd:Nat->Nat}{m:Nat}{W:Nat->Value}
  (a:InvL ops c0 c e ea ach chk P ls nd r pd) (k:m∉P) (L:qA (be ops m).op=Za) (hF:pQ (be ops m).op ea x W) (hd:uK ops m Za P r=Za) (j:te (be ops m).dst (uL (be ops m).op)=Za)
  (D:r.any (λit=>aB it.kind 2&&aB it.i m)=Za):
  InvL ops c0 ⟨c.μ,c.S,c.Z.add x,λb=>c.fb b∨b=c.Z.n⟩ e (ea.putO (be ops m).dst (W c.Z.n)) ach chk (m::P) ls nd r (λq=>if q=m then c.Z.n else pd q):=by
 let c':Ctx:=⟨c.μ,c.S,c.Z.add x,λb=>c.fb b∨b=c.Z.n⟩
 have g: ∀b y,c.Z.m b=O y->(c.Z.add x).m b=O y:=by
  intro b y p;have:=a.R.ok b y p;simp only[Hp.add];rw[Zh];exact p
 have hV:LeV c c':=by
  refine⟨cQ _,λq d hq h=>⟨h,rfl⟩,λq d b y hq h hm p=>⟨y,g b y p,rfl⟩,λb y p hn=>⟨g b y p,λhm=> ?_⟩⟩;rcases hm with hm|hm|hm
  .exact hn (.inl hm)
  .exact hn (.inr hm)
  .have:=a.R.ok b y p;omega
 have hR':Rel c':=by
  refine⟨λb y p=> ?_,a.R.inj,λq d h=> ?_,λq b h hm hf=> ?_,λb hb=> ?_⟩
  .simp only[c',Hp.add]at p⊢;split at p
   .omega
   .have:=a.R.ok b y p;omega
  .obtain⟨h6,l⟩:=a.R.blk q d h;refine⟨h6, ?_⟩;rcases l with l|⟨b',y',C,w,l,h8,h9,h10,h11,h12⟩
   .exact .inl l
   .exact .inr ⟨b',y',C,w,l,g _ _ h8,h9,h10,h11,VRel.framesV hV h12⟩
  .rcases hf with hf|hf
   .exact a.R.fbk q b h hm hf
   .subst hf;have H:(ae c.S q).dim≠Y:=h;cases F:(ae c.S q).dim with
    |none=>exact H F
    |some d=>
     have⟨_,l⟩:=a.R.blk q d F;have Q:c.μ q=O c.Z.n:=hm;rcases l with⟨_,l⟩|⟨b',y',C,w,l,h8,_⟩
     .rw[Q]at l;cases l
     .rw[Q]at l;cases l;have:=a.R.ok _ _ h8;omega
  .show b<c.Z.n+1;rcases hb with hb|hb
   .have:=a.R.fbl b hb;omega
   .omega
 have hK':=a.K.frameV a.R hV (λ_ _=>rfl) (λ_ _=>rfl) g;refine⟨?_,hR', ?_,hK',a.ks,a.nd,λb=> ?_,List.nodup_cons.2 ⟨k,a.nod⟩,λq V hq T A=> ?_,λq hq=> ?_,λq hq=> ?_,a.und,a.ds⟩
 .have o:=a.le;refine⟨o.len,o.al,o.fz,λq d b y hq h hm p=> ?_,λb y p hn=>g _ _ (o.un b y p hn),o.ow,cR o.n (Nat.le_succ _),rfl⟩;have⟨y',q1,q2⟩:=o.ln q d b y hq h hm p;exact⟨y',g _ _ q1,q2⟩
 .have hE:=a.E.frameV hV;intro t;cases I:(be ops m).dst with
  |none=>exact hE t
  |some B=>
   show VRel c' (lQ e t) (if t=B then _ else ea t);by_cases U:t=B
   .subst U;rw[zE rfl];have⟨it,hit,s⟩:=List.any_eq_true.1 D;rw[aD]at s;have M:=bB s.2;subst M;rw[a.und it hit s.1 _ I];exact .undef _
   .rw[zF U];exact hE t
 .constructor
  .rintro(hb|hb)
   .rcases(a.fb b).1 hb with hb|⟨q,hq,hb⟩
    .exact .inl hb
    .refine .inr ⟨q,bD _ hq, ?_⟩;show(if q=m then c.Z.n else pd q)=b;rw[zF (λe:q=m=>k (e▸hq))];exact hb
   .exact .inr ⟨m,cK,by simp[hb]⟩
  .rintro(hb|⟨q,hq,hb⟩)
   .exact .inl ((a.fb b).2 (.inl hb))
   .rcases List.mem_cons.1 hq with rfl|hq
    .simp only[if_true]at hb;exact .inr hb.symm
    .have hb:(if q=m then c.Z.n else pd q)=b:=hb;rw[zF (λe:q=m=>k (e▸hq))]at hb;exact .inl ((a.fb b).2 (.inr ⟨q,hq,hb⟩))
 .have N: ∀q∈P,pd q<c.Z.n:=λq hq=>a.R.fbl _ ((a.fb _).2 (.inr ⟨q,hq,rfl⟩))
  have A:(if q=m then c.Z.n else pd q)=if V=m then c.Z.n else pd V:=A
  rcases List.mem_cons.1 hq with rfl|hq1
  .rcases List.mem_cons.1 T with rfl|hq2
   .rfl
   .rw[zE rfl,zF (λe:V=q=>k (e▸hq2))]at A;have:=N _ hq2;omega
  .rw[zF (λe:q=m=>k (e▸hq1))]at A;rcases List.mem_cons.1 T with rfl|hq2
   .rw[zE rfl]at A;have:=N _ hq1;omega
   .rw[zF (λe:V=m=>k (e▸hq2))]at A;exact a.inj q V hq1 hq2 A
 .show c0.Z.n<=(if q=m then c.Z.n else pd q);rcases List.mem_cons.1 hq with rfl|hq
  .rw[zE rfl];exact a.le.n
  .rw[zF (λe:q=m=>k (e▸hq))];exact a.new q hq
 .show qA (be ops q).op=Za/\∃x1 X,pQ (be ops q).op (ea.putO (be ops m).dst (W c.Z.n)) x1 X/\c'.Z.m (if q=m then c.Z.n else pd q)=O x1/\∀t,(be ops q).dst=O t->ea.putO (be ops m).dst (W c.Z.n) t=X (if q=m then c.Z.n else pd q)
  rcases List.mem_cons.1 hq with rfl|hq
  .rw[zE rfl];refine⟨L,x,W,hF.same L λt z=>AP λB u e=> ?_,zE rfl,λt z=> ?_⟩
   .subst e;rw[u]at j;simp only[te]at j;rw[ke.2 z]at j;cases j
   .rw[z];exact zE rfl
  .rw[zF (λe:q=m=>k (e▸hq))];have⟨J,x',vf',q1,q2,q3⟩:=a.pend q hq;have⟨k1,k2⟩:=Wb hd hq;refine⟨J,x',vf',q1.same J λt z=>AP λB u e=>k2 B u (e▸z),g _ _ q2,λt z=> ?_⟩;rw[AP λB u e=>k1 B u (e▸z)];exact q3 t z
def vO (ops:List (AOper×List Nat))(j:Nat)(ea:cm):Value:=match(be ops j).dst with
 |some t=>ea t
 |none=>undef
def Gz (ops:List (AOper×List Nat))(b:Nat)(x:Ab.Blk)(l:List Nat)(ea:cm):Prop:= ∀j∈l,∀Z':Hp,Z'.m b=O x->(be ops j).op.run ea Z'=O (vO ops j ea,Z')
def Vc (ops:List (AOper×List Nat))(b:Nat)(x:Ab.Blk):List Nat->cm->Prop
 |[],_=>True
 |i::g,ea=> ∃v,(∀Z':Hp,Z'.m b=O x->(be ops i).op.run ea Z'=O (v,Z'))/\Vc ops b x g (ea.putO (be ops i).dst v)
def N7 {o:Option Nat}{i:Nat}(h:au1 o i=Za):o=O i:=by
 cases o with
 |none=>cases h
 |some a=>rw[bB (h:aB a i=Za)]
def w6 {o:AOper}(h:o.guard.isNone=Za):wanted o ea=Za:=by
 unfold wanted;cases a:o.guard with
 |none=>rfl
 |some q=>rw[a]at h;cases h
def I3 {d:Option Nat}{l:List Nat}(h:te d l=Za): ∀t,d=O t->t∉l:=by
 intro t b a;rw[b]at h;simp only[te]at h;rw[ke.2 a]at h;cases h
def VZ {d a:Option Nat}(h:VY d a=Za): ∀t,d=O t->a≠O t:=by
 intro t b e;rw[b,e]at h;simp only[VY,cL]at h;cases h
def N9 {b:Nat}{l:List Nat}{d:Option Nat}(h:Gz ops b x l ea)(o: ∀j∈l,te d (be ops j).op.reads=Za)(p: ∀j∈l,VY d (be ops j).dst=Za):Gz ops b x l (ea.putO d v):=by
 intro j g Z' q;have m:(be ops j).op.run (ea.putO d v) Z'=(be ops j).op.run ea Z':=Cd λt s=>AP λk a e=>I3 (o j g) k a (e▸s)
 have n:vO ops j (ea.putO d v)=vO ops j ea:=by
  unfold vO;cases r:(be ops j).dst with
  |none=>rfl
  |some t=>exact AP λk a e=>VZ (p j g) k a (e▸r)
 rw[m,n];exact h j g Z' q
def ac0 {β:Type}{n b:Nat}{x:Ab.Blk}{y:β}{z:Option β}{c1:Ctx}(K:c1.μ n=O b)(I:n<dt c1.S)(J:c1.Z.m b=O x): ∀(g:List Nat) {c:Ctx} {e:co} {ea:cm},Le c1 c->c.Z=c1.Z->Rel c->az c e ea->evG tab ops n g e c.S z=O y->Vc ops b x g ea/\z=O y
 |[],_,_,_,_,_,_,_,h=>⟨trivial,h⟩
 |i::g,c,e,ea,H,E,D,t,h=>by
  simp only[evG]at h;have⟨C,P⟩:=au h;rw[aD]at C;have⟨l,a⟩:=C;have p:=uF D t P;rw[<-nB l]at p;cases o:(be ops i).op.run ea c.Z with
  |none=>rw[o]at p;exact p.elim
  |some q=>
   have⟨v,Z1⟩:=q;rw[o]at p;have⟨vv,c2,A,B,L,g4,M,N⟩:=p;have u:Z1=c.Z:=vI l o;rw[u]at A o;have⟨W,X⟩:=ac0 K I J g (H.trans B) (A.trans E) L ((t.frame B).putO M) N;refine⟨⟨v,λZ' V=> ?_,W⟩,X⟩;cases k:(be ops i).op.isLoad with
   |false=>exact OG l k o Z'
   |true=>
    rw[k]at a;have F:=Ix D t k o;cases w:W1 c.S (be ops i).op e with
    |none=>rw[w]at a;cases a
    |some s=>
     cases s with
     |none=>rw[w]at a;cases a
     |some q=>
      rw[w]at a F
      have U:q=n:=by
       simp only[cN,cM,aE2]at a;exact bB a
      subst U;have⟨Q,_,T⟩:=F;refine T Z' λb' j=> ?_
      cases r:(ae c.S q).dim with
      |none=>exact(Q r).elim
      |some d=>
       have⟨_,q2⟩:=H.al q d I r;rw[q2,K]at j;cases j;rw[V,E,J]
def Rz {T:Ab.iU}{Q:cm->Hp->Prop}{ach:List (Nat×(Hp->Prop))}{b m K:Nat}{x:Ab.Blk}{Z:Hp}(J:Z.m b=O x): ∀(g pre:List Nat) {f o:Nat} {D D2:List Nat} {ea:cm} {gl:List (Nat×(Hp->Prop))},Xd ops g f D=O (o,D2)->Vc ops b x g ea->okG ops m K pre g=Za->Gz ops b x pre ea->(∀p∈gl,∀Z':Hp,Z'.m b=O x->p.2 Z')->
  (∀ea' h,Gz ops b x (g.reverse++pre) ea'->(∀p∈h,∀Z':Hp,Z'.m b=O x->p.2 Z')->(∀t,t∉uI ops g->ea' t=ea t)->Dr T Q ops o D2 (h++ach) ea' Z)->Dr T Q ops f D (gl++ach) ea Z
 |[],pre,f,o,D,D2,ea,gl,a,E,B,z,d,A=>by
  simp only[Xd]at a;injection a with a
  injection a with N P
  subst N;subst P;exact A ea gl z d λt _=>rfl
 |i::g,pre,0,o,D,D2,ea,gl,a,E,B,z,d,A=>by cases a
 |i::g,pre,f+1,o,D,D2,ea,gl,a,E,B,z,d,A=>by
  simp only[Xd]at a;cases q:au1 (eb ops D) i&&(be ops i).guard.isNone with
  |false=>rw[q]at a;cases a
  |true=>
   rw[q,zC]at a;rw[aD]at q;have s:=N7 q.1;have⟨p,hp,V⟩:=Qj s;have⟨v,I,F⟩:=E;simp only[okG,aD]at B;have⟨⟨⟨⟨⟨⟨⟨o1,o2⟩,o3⟩,o4⟩,o5⟩,o6⟩,o7⟩,o8⟩:=B;simp only[Dr];rw[s];simp only[hp,w6 q.2,if_true,I Z J];have⟨t0,n⟩:=Option.isSome_iff_exists.1 o1;have w:=List.all_eq_true.1 o6
   have C:Gz ops b x (i::pre) (ea.putO (be ops i).dst v):=by
    intro j hj;rcases List.mem_cons.1 hj with rfl|hj
    .intro Z' S;have L:(be ops j).op.run (ea.putO (be ops j).dst v) Z'=(be ops j).op.run ea Z':=Cd λt u=>AP λt' H e=>I3 (w j cK) t' H (e▸u)
     have M:vO ops j (ea.putO (be ops j).dst v)=v:=by
      unfold vO;rw[n];exact zE rfl
     rw[L,M];exact I Z' S
    .exact N9 z (λj hj=>w j (bD _ hj)) (List.all_eq_true.1 o7) j hj
   have k: ∀l:List (Nat×(Hp->Prop)),(∀p∈l,∀Z':Hp,Z'.m b=O x->p.2 Z')->Dr T Q ops f (i::D) (l++ach) (ea.putO (be ops i).dst v) Z:=by
    intro l r;refine Rz J g (i::pre) a F o8 C r λea' h W X k3=>A ea' h (by rw[List.reverse_cons,List.append_assoc];exact W) X λt u=> ?_
    simp only[uI,n,List.mem_append,List.mem_singleton,not_or]at u;rw[k3 t u.2,n];exact zF u.1
   cases U:(be ops i).op.isLoad with
   |false=>
    rw[zF V4];exact k gl d
   |true=>
    rw[zE rfl];refine k ((i,_)::gl) λp hp=> ?_
    rcases List.mem_cons.1 hp with rfl|hp
    .exact I
    .exact d p hp
def RX {β:Type}{b:Nat}{x:Ab.Blk}{k:co->ai->Option β}{y:β}{ea:cm}: ∀(g:List Nat) {r p:List LItem} {c:Ctx} {e:co} {chk:Gc},RW g r=O p->Gz ops b x g ea->c.Z.m b=O x->(∀j∈g,(be ops j).dst.isSome=Za)->Rel c->az c e ea->DC tab ops r chk e c.S k=O y->
  ∃c' e' l,c'.Z=c.Z/\Le c c'/\Rel c'/\az c' e' ea/\DC tab ops p l e' c'.S k=O y
 |[],r,p,c,e,chk,h,_,_,_,w,q,a=>by
  cases h;exact⟨c,e,chk,rfl,Le.refl c,w,q,a⟩
 |i::g,[],p,c,e,chk,h,_,_,_,_,_,_=>by cases h
 |i::g,it::r,p,c,e,chk,h,F,I,H,w,q,a=>by
  simp only[RW]at h;cases o:aB it.kind 0&&aB it.i i with
  |false=>rw[o]at h;cases h
  |true=>
   rw[o,zC]at h;rw[aD]at o;have T:=bB o.2;subst T;have U:=bB o.1;simp only[DC,U,show aB 0 3=Zb from rfl,show aB 0 2=Zb from rfl,show aB 0 1=Zb from rfl,show aB 0 5=Zb from rfl,zD]at a;obtain⟨A,a⟩:=au a;have D:=uF w q a;rw[<-nB A,F it.i cK c.Z I]at D;have⟨vv,J,B,C,M,g4,N,P⟩:=D;have⟨_,Q⟩:=au P
   have u:az J (putO e (be ops it.i).dst vv) ea:=by
    have E:=(q.frame C).putO (d:=(be ops it.i).dst) N;have⟨t,V⟩:=Option.isSome_iff_exists.1 (H it.i cK)
    have:ea.putO (be ops it.i).dst (vO ops it.i ea)=ea:=by
     funext s
     unfold vO;rw[V];show(if s=t then ea t else ea s)=ea s;by_cases h:s=t
     .subst h;rw[zE rfl]
     .rw[zF h]
    rw[this]at E;exact E
   have⟨K,L,n,W,X,k3,k4,k5⟩:=RX g h (λj z=>F j (bD _ z)) (by rw[B];exact I) (λj z=>H j (bD _ z)) M u Q;exact⟨K,L,n,W.trans B,C.trans X,k3,k4,k5⟩
def SK {β:Type}{k:co->ai->Option β}{y:β}{c0:Ctx}: ∀(r:List LItem) {f:Nat} {D:List Nat} {c:Ctx} {e:co} {ea:cm} {chk:Gc} {ach:List (Nat×(Hp->Prop))},Xe ops r f D=Za->Le c0 c->Rel c->az c e ea->DC tab ops r chk e c.S k=O y->Dr (fK tab) (qm c0 k y) ops f D ach ea c.Z
 |[],0,D,c,e,ea,chk,ach,h,m,j,g,d=>⟨e,c,rfl,m,j,g,d⟩
 |[],f+1,D,c,e,ea,chk,ach,h,m,j,g,d=>by
  simp only[Xe,aD]at h;simp only[Dr];cases b:eb ops D with
  |some i=>rw[b]at h;cases h.1
  |none=>
   cases u:bv ops D with
   |cons a l=>rw[u]at h;cases h.2
   |nil=>exact⟨e,c,rfl,m,j,g,d⟩
 |it::r,0,D,c,e,ea,chk,ach,h,m,j,g,d=>by cases h
 |it::r,f+1,D,c,e,ea,chk,ach,h,m,j,g,d=>by
  simp only[Xe,aD]at h;have⟨⟨⟨F,H⟩,I⟩,J⟩:=h;have b:=N7 H;have⟨p,L,o⟩:=Qj b;have K:=bB F;simp only[DC,K,show aB 0 3=Zb from rfl,show aB 0 2=Zb from rfl,show aB 0 1=Zb from rfl,show aB 0 5=Zb from rfl,zD]at d;obtain⟨_,d⟩:=au d;have n:=uF j g d;rw[<-nB o]at n;simp only[Dr];rw[b];simp only[L,w6 I,if_true];cases t:(be ops it.i).op.run ea c.Z with
  |none=>rw[t]at n;exact n.elim
  |some q=>
   have⟨v,Z1⟩:=q;rw[t]at n;have⟨P,M,z,w,A,N,B,C⟩:=n;have⟨_,E⟩:=au C;have s:Z1=c.Z:=vI o t;have:=SK r (ach:=if(be ops it.i).op.isLoad=Za then(it.i,λZ'=>(be ops it.i).op.run ea Z'=O (v,Z'))::ach else ach) J (m.trans w) A ((g.frame w).putO B) E;rw[z,s]at this;exact this
def FP {m c:Nat}: ∀{g pre:List Nat},okG ops m c pre g=Za->∀i∈g,(be ops i).dst.isSome=Za/\te (be ops i).dst (uL (be ops m).op)=Za/\VY (be ops i).dst (be ops m).dst=Za/\te (be ops c).dst (be ops i).op.reads=Za/\VY (be ops c).dst (be ops i).dst=Za
 |[],_,_,_,h=>by cases h
 |j::g,pre,a,i,h=>by
  simp only[okG,aD]at a;have⟨⟨⟨⟨⟨⟨⟨b,d⟩,k⟩,l⟩,n⟩,_⟩,_⟩,o⟩:=a;rcases List.mem_cons.1 h with rfl|h
  .exact⟨b,d,k,l,n⟩
  .exact FP o i h
def IT {t:Nat}: ∀{g:List Nat},t∈uI ops g->∃i∈g,(be ops i).dst=O t
 |[],h=>by cases h
 |i::g,h=>by
  simp only[uI]at h;rcases List.mem_append.1 h with h|h
  .cases a:(be ops i).dst with
   |none=>rw[a]at h;cases h
   |some k=>
    rw[a]at h;rw[List.mem_singleton.1 h];exact⟨i,cK,a⟩
  .obtain⟨j,b,d⟩:=IT h;exact⟨j,bD _ b,d⟩
def XB {β:Type}{k:co->ai->Option β}{y:β}{ach:List (Nat×(Hp->Prop))}{ls nd D D1 g:List Nat}{a o:LItem}{r2 r3:List LItem}{pd:Nat->Nat}{f f1 m:Nat}{vf:Nat->Value}(h0:Rel c0)
  (C:a.kind=1) (w:o.kind=2) (u:o.i=m) (hfr:qA (be ops m).op=Za) (hF:pQ (be ops m).op ea x vf) (F:te (be ops m).dst (uL (be ops m).op)=Za) (hgc:(be ops a.i).guard.isNone=Za)
  (L:ls.all (λi=>uA ops i m||ld i nd)=Za) (M:ls.all (λi=>uA ops i a.i||ld i a.chks)=Za) (J:uK ops a.i Zb [m] [o]=Za) (H:okG ops m a.i [] g=Za) (hS:Xd ops g f (m::D)=O (f1+1,D1)) (hns:eb ops D1=Y) (P:bv ops D1=[a.i]) (hL:RW g r2=O r3) (hZ:Xe ops r3 f1 (a.i::D1)=Za)
  (hI:InvL ops c0 c e ea ach chk [] ls nd [a,o] pd) (hcl: ∀t∈uI ops g,lQ e t= .undef) (I:Vc ops c.Z.n x g (ea.putO (be ops m).dst (vf c.Z.n))) (hz:DC tab ops (a::o::r2) chk e c.S k=O y):
  B5 ops m (c.Z.add x) ach/\Dr (fK tab) (qm c0 k y) ops f (m::D) ach (ea.putO (be ops m).dst (vf c.Z.n)) (c.Z.add x):=by
 have r:=IS hI V2 hfr hF (by simp[uK,C,w,u,show aB 1 2=Zb from rfl,show aB 2 2=Za from rfl]) F (by simp[C,w,u,show aB 1 2=Zb from rfl,show aB 2 2=Za from rfl]);have hx:(c.Z.add x).m c.Z.n=O x:=zE rfl;refine⟨qB r.K hI.nd λi s=> ?_,Rz (ach:=ach) (gl:=[]) hx g [] hS I H (λ_ h=>by cases h) (λ_ h=>by cases h) λA gl hf2 hgl l=> ?_⟩
 .rw[hI.ks]at s;have:=List.all_eq_true.1 L i s;rw[cD]at this;exact this
 .obtain⟨p,hp,hst⟩:=Mi (show a.i∈bv ops D1 by rw[P];simp);simp only[Dr];rw[hns];simp only[P,Lf,hp,w6 hgc,if_true]
  have X:az ⟨c.μ,c.S,c.Z.add x,λb=>c.fb b∨b=c.Z.n⟩ e A:=by
   intro t;by_cases z:t∈uI ops g
   .rw[hcl t z];exact .undef _
   .rw[l t z];exact r.E t
  have d:InvL ops c0 ⟨c.μ,c.S,c.Z.add x,λb=>c.fb b∨b=c.Z.n⟩ e A ach chk [m] ls nd [a,o] (λq=>if q=m then c.Z.n else pd q):=by
   refine⟨r.le,r.R,X,r.K,r.ks,r.nd,r.fb,r.nod,r.inj,r.new,λq U=> ?_,r.und,r.ds⟩;have⟨q1,x',vf',q2,q3,q4⟩:=r.pend q U;have N:=List.mem_singleton.1 U;refine⟨q1,x',vf',q2.same q1 λt z=>l t λhm=> ?_,q3,λt z=>(l t λhm=> ?_).trans (q4 t z)⟩
   .obtain⟨i,s,hd⟩:=IT hm;rw[N]at z;exact I3 (FP H i s).2.1 t hd z
   .obtain⟨i,s,hd⟩:=IT hm;rw[N]at z;exact VZ (FP H i s).2.2.1 t hd z
  simp only[DC,C,show aB 1 3=Zb from rfl,show aB 1 2=Zb from rfl,show aB 1 1=Za from rfl,zD,zC]at hz;refine lf (bw tab) (λv Z' hx'=> ?_) (uF d.R d.E hz);have⟨vv,c4,g1,V,g3,g4,g5,g6⟩:=hx';have⟨W,g8⟩:=au g6;rw[aD]at W;have hn:=d.K.next V g4
  subst g1;have hI4:=d.on J V g3 g5 hn d.ks W.2
  have Q:c4.Z.m c.Z.n=O x:=by
   refine V.un _ _ hx λho=> ?_
   have⟨j,hj1,hj2⟩:=ho;exact d.R.fbk j _ (mH hj1) hj2 (.inr rfl)
  refine⟨Ab.qB λi p hip hbf=> ?_, ?_⟩
  .rcases List.mem_append.1 hip with h|h
   .exact hgl _ h _ Q
   .refine Ab.FL (qB hn W.1 λi s=> ?_) i p h hbf;rw[d.ks]at s;have:=List.all_eq_true.1 M i s;rw[cD]at this;exact this
  .simp only[DC,w,show aB 2 3=Zb from rfl,show aB 2 2=Za from rfl,zD,zC]at g8;have⟨c5,e5,l1,T,l3,_⟩:=L9 (K:=λe' S'=>DC tab ops r2 _ e' S' k) h0 hI4 (by rw[w];rfl) (by rw[u];simp) g8;have hP:BW o.i [m]=[]:=by rw[u];simp[BW]
   rw[hP]at T
   have hfb:c5.fb=c0.fb:=by
    funext b
    refine propext ((T.fb b).trans ⟨λh=> ?_, .inl⟩);rcases h with h|⟨q,U,_⟩
    .exact h
    .cases U
   have hle:Le c0 c5:=by
    have:=T.le;rw[<-hfb]at this;exact this
   have hf4:Gz ops c.Z.n x g (A.putO (be ops a.i).dst v):=by
    refine N9 (λj B=>hf2 j (by simp[B])) (λj B=>(FP H j B).2.2.2.1) λj B=>(FP H j B).2.2.2.2
   have⟨c6,e6,chk6,k1,k2,k3,k4,k5⟩:=RX g hL hf4 (by rw[l1];exact Q) (λj B=>(FP H j B).1) T.R T.E l3;have:=SK r3 (ach:=gl++ach) hZ (hle.trans k2) k3 k4 k5;rw[k1,l1]at this;exact this
def LP {β:Type}{c0:Ctx}{k:co->ai->Option β}{y:β}(U:Rel c0): ∀(f:Nat) {D P ls nd:List Nat} {r:List LItem} {c:Ctx} {e:co} {ea:cm} {ach:List (Nat×(Hp->Prop))} {chk:Gc} {pd:Nat->Nat},Nx ops f D P ls nd r=Za->InvL ops c0 c e ea ach chk P ls nd r pd->DC tab ops r chk e c.S k=O y->
  Dr (fK tab) (qm c0 k y) ops f D ach ea c.Z
 |0,D,P,ls,nd,r,c,e,ea,ach,chk,pd,h,s,T=>P0 U r h s T
 |f+1,D,P,ls,nd,r,c,e,ea,ach,chk,pd,h,s,T=>by
  simp only[Nx]at h;simp only[Dr];cases hns:eb ops D with
  |some i=>
   rw[hns]at h;simp only[aD]at h⊢;obtain⟨hg,h⟩:=h;have⟨p,ho,J⟩:=Qj hns;rw[ho]
   have hw:wanted (be ops i) ea=Za:=by
    unfold wanted;cases hgg:(be ops i).guard with
    |none=>rfl
    |some q=>rw[hgg]at hg;cases hg
   simp only[hw,if_true];cases hs:Dl r P i with
   |none=>rw[hs]at h;cases h
   |some q=>
    have⟨P',it,r'⟩:=q;rw[hs]at h;simp only[aD]at h;have⟨⟨hk0,hd⟩,hc⟩:=h;have⟨c1,e1,A,B,h3,h4,h5,h6⟩:=Ib U r hs s T;subst h5;have u:aB it.kind 1=Zb:=by rw[bB hk0];rfl
    have hk3:aB it.kind 3=Zb:=by rw[bB hk0];rfl
    have hk5:aB it.kind 5=Zb:=by rw[bB hk0];rfl
    simp only[DC,h4,u,hk3,hk5,zD]at h3;obtain⟨_,h3⟩:=au h3;have h7:=uF B.R B.E h3;rw[<-nB J,A]at h7;cases hr:(be ops it.i).op.run ea c.Z with
    |none=>rw[hr]at h7;exact h7.elim
    |some q=>
     have⟨v,Z1⟩:=q;rw[hr]at h7;have⟨vv,c2,g1,W,g3,g4,g5,g6⟩:=h7;simp only
     have hdd:HF tab (be ops it.i).op e1 c1.S=[]:=by
      cases hop:(be ops it.i).op<;>rw[hop]at J<;>first|(cases J;done)|rfl
     have hZ1:Z1=c.Z:=vI J hr;have⟨L,g8⟩:=au g6;have hn:=B.K.next W g4
     rw[hdd,zY]at hn
     have Q: ∀{C:List (Nat×(Hp->Prop))} {F:Gc} {ls':List Nat},ChkRel c2 C F->C.map (·.1)=ls'->qF it.need F=Za->DC tab ops r' F (putO e1 (be ops it.i).dst vv) c2.S k=O y->Nx ops f (it.i::D) P' ls' it.need r'=Za->
       Dr (fK tab) (qm c0 k y) ops f (it.i::D) C (ea.putO (be ops it.i).dst v) c.Z:=by
      intro C F ls' q1 q2 q3 q4 q5;have:=LP U f q5 (B.on hd W g3 g5 q1 q2 q3) q4;rw[g1,hZ1]at this;exact this
     cases hld:(be ops it.i).op.isLoad with
     |false=>
      rw[hld]at L g8 hc;rw[zF V4];exact Q hn B.ks L g8 hc
     |true=>
      rw[hld]at L g8 hc;rw[zE rfl];have hkp:=Ix B.R B.E hld (by rw[A];exact hr);have hn2:=(ChkRel.cons (i:=it.i) (f:=λ_=>Zb) hkp (λ_ _ _ h=>by cases h) B.K).next W g4
      rw[hdd,zY]at hn2;exact Q hn2 (by rw[List.map_cons,B.ks];rfl) L g8 hc
  |none=>
   rw[hns]at h;simp only at h⊢;cases hgp:aE6 r with
   |true=>
    rw[hgp,zC,aD]at h;have⟨X,hB⟩:=h
    obtain⟨it,w,g,r2,rfl⟩: ∃it w g r2,r=it::w::g::r2:=by
     match r,X with
     |it::w::g::r2,_=>exact⟨it,w,g,r2,rfl⟩
     |[],X=>cases X
     |[_],X=>cases X
     |[_,_],X=>cases X
    simp only[aa2,aD]at X;have⟨⟨⟨⟨⟨⟨⟨⟨⟨⟨⟨⟨⟨⟨⟨a1,a2⟩,a3⟩,a4⟩,a5⟩,a6⟩,a7⟩,a8⟩,a9⟩,a10⟩,a11⟩,a12⟩,a13⟩,M⟩,a15⟩,V⟩:=X
    have hP:P=[]:=by
     cases P with
     |nil=>rfl
     |cons a l=>cases a1
    subst hP;have hk5:it.kind=5:=bB hgp;have u:=bB a2;have hkm:=bB a3;have N:=bB a4;simp only[DC,hk5,show aB 5 3=Zb from rfl,show aB 5 2=Zb from rfl,show aB 5 1=Zb from rfl,show aB 5 5=Za from rfl,zD,zC]at T;have hds:=s.ds;simp only[Gu,aD]at hds
    have d:InvL ops c0 c (rA e (uI ops it.chks)) ea ach chk [] ls nd (w::g::r2) pd:=by
     refine⟨s.le,s.R,λt=> ?_,s.K,s.ks,s.nd,s.fb,s.nod,s.inj,s.new,s.pend,λj hj hk t ht=> ?_,by simp only[Gu,aD];exact hds.2⟩
     .rcases @yx (uI ops it.chks) e t with A|⟨_,A⟩
      .rw[A];exact .undef _
      .rw[A];exact s.E t
     .rcases @yx (uI ops it.chks) e t with A|⟨_,A⟩
      .exact A
      .rw[A];exact s.und j (bD _ hj) hk t ht
    have hI2:InvL ops c0 c (rA e (uI ops it.chks)) ea ach chk [] ls nd [w,g] pd:=by
     refine⟨d.le,d.R,d.E,d.K,d.ks,d.nd,d.fb,d.nod,d.inj,d.new,d.pend,λj hj hk t ht=>d.und j (by simp only[cO,List.not_mem_nil,or_false]at hj⊢;rcases hj with h|h<;>simp[h]) hk t ht,by simp[Gu,u,show aB 1 2=Zb from rfl]⟩
    have hcl: ∀t∈uI ops it.chks,lQ (rA e (uI ops it.chks)) t= .undef:=by
     intro t ht;rcases @yx (uI ops it.chks) e t with A|⟨A,_⟩
     .exact A
     .exact(A ht).elim
    have⟨_,_,_,x,vf,_,hFF⟩:=C3 d.E T;have hF:=hFF.run;have H:=IS hI2 V2 a5 hF (by simp[uK,u,hkm,N,show aB 1 2=Zb from rfl,show aB 2 2=Za from rfl]) a9 (by simp[u,hkm,N,show aB 1 2=Zb from rfl,show aB 2 2=Za from rfl]);rw[<-N]at T H
    have hN3:InvL ops c0 ⟨c.μ,c.S,c.Z.add x,λb=>c.fb b∨b=c.Z.n⟩ (rA e (uI ops it.chks)) (ea.putO (be ops g.i).dst (vf c.Z.n)) ach chk [g.i] ls nd [g] (λq=>if q=g.i then c.Z.n else pd q):=
     ⟨H.le,H.R,H.E,H.K,H.ks,H.nd,H.fb,H.nod,H.inj,H.new,H.pend,λj hj hk t ht=>H.und j (bD _ hj) hk t ht,by simp[Gu]⟩
    have⟨c3,e3,l1,l2,l3,l4,l5,_⟩:=L9 (K:=λe2 S2=>evG tab ops (dt c.S) it.chks e2 S2 (DC tab ops (w::g::r2) chk (rA e (uI ops it.chks)) c.S k)) U hN3 (by rw[hkm];rfl) V2 T;have⟨hGrp,hz⟩:=ac0 (b:=c.Z.n) (x:=x) (by rw[l4];simp) l5 (by rw[l1];exact zE rfl) it.chks (Le.refl c3) rfl l2.R l2.E l3;rw[N]at hGrp
    have hdst:uK ops w.i Zb [it.i] [g]=Za:=by
     simp only[uK,aD,List.all_cons]at M⊢;exact⟨M.1,M.2.1,rfl⟩
    cases I:bv ops D with
    |nil=>rw[I]at a10;cases a10
    |cons a l=>
     refine PF λm hm=> ?_
     have hmem:m∈bv ops D:=by rw[I];exact hm
     have⟨p,ho,J⟩:=Mi hmem;have hor:=List.all_eq_true.1 a11 m hmem;rw[cD]at hor;rw[ho];rcases hor with hor|hor
     .have:=bB hor;subst this;simp only[w6 a7,if_true];split at V
      .rename_i f1 D1 r3 hS hL;simp only[aD]at V;have⟨⟨b1,b2⟩,b3⟩:=V
       have hns1:eb ops D1=Y:=by
        cases h:eb ops D1 with
        |none=>rfl
        |some i=>rw[h]at b1;cases b1
       have hrm1:bv ops D1=[w.i]:=by
        split at b2
        .rename_i x hx;rw[hx,bB b2]
        .cases b2
       exact cu (hF c.Z) (XB U u hkm N a5 hF a9 a8 a12 a13 hdst a15 hS hns1 hrm1 hL b3 hI2 hcl hGrp hz)
      .cases V
     .have:=bB hor;subst this;simp only[w6 a8,if_true];simp only[DC,u,show aB 1 3=Zb from rfl,show aB 1 2=Zb from rfl,show aB 1 1=Za from rfl,zD,zC]at hz;refine lf (bw tab) (λv Z' hx'=> ?_) (uF d.R d.E hz);have⟨vv,c2,g1,W,g3,g4,g5,g6⟩:=hx';have⟨L,g8⟩:=au g6;rw[aD]at L;have hn:=d.K.next W g4
      subst g1
      have hd0:uK ops w.i Zb [] (g::r2)=Za:=by
       simp only[uK,aD]at M⊢;exact⟨rfl,M.2⟩
      refine⟨qB hn L.1 λi hi=> ?_,LP U f hB (d.on hd0 W g3 g5 hn d.ks L.2) g8⟩;rw[d.ks]at hi;have:=List.all_eq_true.1 a13 i hi;rw[cD]at this;exact this
   |false=>
   rw[hgp,zD]at h
   have each: ∀{ms:List Nat},(∀m∈ms,m∈bv ops D)->(ms.all λm=>(be ops m).guard.isNone&&cond (qA (be ops m).op)
    (!ld m P&&r.any (λit=>aB it.kind 2&&aB it.i m)&&(L4 (be ops m).op||L0 ops r m)&&uK ops m Za P r&&te (be ops m).dst (uL (be ops m).op)&&ls.all (λi=>uA ops i m||ld i nd)&&Nx ops f (m::D) (m::P) ls nd r)
    (match Dl r P m with
    |some (P',it,r')=>aB it.kind 1&&uK ops m Zb P' r'&&ls.all (λi=>uA ops i m||ld i it.chks)&&Nx ops f (m::D) P' ls it.need r'
    |none=>Zb))=Za->Lf (λm=>match ops[m]? with
     |some (o,_)=>if wanted o ea then ci (fK tab) o.op ea c.Z λv Z'=>B5 ops m Z' ach/\Dr (fK tab) (qm c0 k y) ops f (m::D) ach (ea.putO o.dst v) Z'
      else Dr (fK tab) (qm c0 k y) ops f (m::D) ach (ea.putO o.dst undef) c.Z
     |none=>False) ms:=by
    intro ms hms hall;refine PF λm hm=> ?_
    have h:=List.all_eq_true.1 hall m hm;simp only[aD]at h;obtain⟨hg,h⟩:=h;have⟨p,ho,J⟩:=Mi (hms m hm);rw[ho]
    have hw:wanted (be ops m) ea=Za:=by
     unfold wanted;cases hgg:(be ops m).guard with
     |none=>rfl
     |some q=>rw[hgg]at hg;cases hg
    simp only[hw,if_true];cases hfr:qA (be ops m).op with
    |false=>
     rw[hfr,zD]at h;cases hs:Dl r P m with
     |none=>rw[hs]at h;cases h
     |some q=>
      have⟨P',it,r'⟩:=q;rw[hs]at h;simp only[aD]at h;have⟨⟨⟨u,hd⟩,hls⟩,hc⟩:=h;have⟨c1,e1,A,B,h3,h4,h5,h6⟩:=Ib U r hs s T;subst h5;have hk3:aB it.kind 3=Zb:=by rw[bB u];rfl
      simp only[DC,h4,u,hk3,zD,zC]at h3;have h7:=uF B.R B.E h3;rw[A]at h7;refine lf (bw tab) (λv Z' hx=> ?_) h7;have⟨vv,c2,g1,W,g3,g4,g5,g6⟩:=hx;have⟨L,g8⟩:=au g6;rw[aD]at L;have hn:=B.K.next W g4
      subst g1;refine⟨qB hn L.1 λi hi=> ?_,LP U f hc (B.on hd W g3 g5 hn B.ks L.2) g8⟩;rw[B.ks]at hi;have:=List.all_eq_true.1 hls i hi;rw[cD]at this;exact this
    |true=>
     rw[hfr,zC]at h;simp only[aD]at h;have⟨⟨⟨⟨⟨⟨hnm,hany⟩,hor⟩,hd⟩,hself⟩,hls⟩,hc⟩:=h;have hmP:m∉P:=λe=>by rw[ke.2 e]at hnm;cases hnm
     obtain⟨x,vf,hF⟩: ∃x vf,pQ (be ops m).op ea x vf:=by
      rw[cD]at hor;rcases hor with hor|hor
      .cases hop:(be ops m).op<;>rw[hop]at hor<;>first|(cases hor;done)|skip
       case alloc es z=>exact⟨⟨z,Za,es⟩,λn=> .pointer (O ⟨n,0,Y⟩),λZ=>rfl⟩
      .obtain⟨x,vf,_,A⟩:=Kz r hor s.E (λt _=>rfl) T;exact⟨x,vf,A⟩
     have d:=IS s hmP hfr hF hd hself hany;refine cu (hF c.Z) ⟨qB d.K s.nd λi hi=> ?_, ?_⟩
     .rw[s.ks]at hi;have:=List.all_eq_true.1 hls i hi;rw[cD]at this;exact this
     .exact LP U f hc d T
   cases I:bv ops D with
   |nil=>rw[I]at h;exact P0 U r h s T
   |cons a l=>
    rw[I]at h;exact each (λm hm=>by rw[I];exact hm) h
end
end
section
open Bool renaming and_eq_true -> aB
open List renaming mem_cons_self -> aD, mem_cons_of_mem -> cB, mem_of_getElem? -> cD
open Nat renaming beq -> bB, zero_add -> bD, eq_of_beq_eq_true -> cK
section
variable {tab:Tab}
def Sz {t:Nat}{p:Bool}(b:az c e ea)(g:lQ e t= .bool p):az c (qU e t (.bool p)) ea:=by
 have a:=b t;rw[g]at a;have a:=a.bool_inv;intro i;rw[wO];by_cases d:i=t
 .subst d;rw[zE rfl,a];exact .bool _
 .rw[zF d];exact b i
def GR {β:Type}{y:β}: ∀{s:List SItem} {c:Ctx} {e:co} {ea:cm} {chk:Gc} {ach:List (Nat×(Hp->Prop))} {k:co->ai->Option β},Rel c->az c e ea->ChkRel c ach chk->uE tab s chk e c.S k=O y->QU (fK tab) (qm c k y) s ach ea c.Z
 |[],c,e,ea,chk,ach,k,z,m,C,h=>⟨e,c,rfl,Le.refl c,z,m,h⟩
 |it::r,c,e,ea,chk,ach,k,z,m,C,h=>by
  have b: ∀l,az c l ea->IK tab it chk l c.S (λg E S'=>uE tab r g E S' k)=O y->
    (if it.mover then ci (fK tab) it.o.op ea c.Z (λv Z'=>yp it.chks Z' ach/\QU (fK tab) (qm c k y) r ach (ea.putO it.o.dst v) Z')
    else match it.o.op.run ea c.Z with
     |some (v,_)=>QU (fK tab) (qm c k y) r (if it.keep then(it.idx,λZ'=>it.o.op.run ea Z'=O (v,Z'))::ach else ach) (ea.putO it.o.dst v) c.Z
     |none=>False):=by
   intro l n B;refine Xl (Q:=λd ea' Z'=>QU (fK tab) (qm c k y) r d ea' Z') z n C B λc' d g E ea' H I J K L=> ?_
   exact Ft (bw tab) (λF Z'' q=>q.of H) _ _ _ _ (GR I K J L)
  have skip: ∀l,az c l ea->uE tab r chk (putO l it.o.dst (.tup [])) c.S k=O y->QU (fK tab) (qm c k y) r ach (ea.putO it.o.dst undef) c.Z:=λl n B=>GR z (n.putO (.tup .nil)) C B
  simp only[uE]at h;simp only[QU];split at h
  .rename_i A;have:wanted it.o ea=Za:=by simp only[wanted,A]
   rw[zE this];exact b e m h
  .rename_i t w A;split at h
   .rename_i p q;have j:=m t;rw[q]at j;have j:=j.bool_inv;have D:wanted it.o ea=(p==w):=by simp only[wanted,A,j]
    have a:=Sz m q;rw[D];cases p<;>cases w<;>simp only[zC,zD]at h
    .rw[zE V4];exact b _ a h
    .rw[zF V4];exact skip _ a h
    .rw[zF V4];exact skip _ a h
    .rw[zE V4];exact b _ a h
   .rename_i q;have j:=m t;rw[q]at j
    have D:wanted it.o ea=Zb:=by
     simp only[wanted,A];generalize ea t=u at j;cases j;rfl
    rw[D,zF V4];exact skip _ m h
   .cases h
def sV (as:List Nat)(e e':cm):Prop:= ∀t,t∉as->e' t=e t
def sV.refl (as:List Nat)(e:cm):sV as e e:=λ_ _=>rfl
def sV.put {as:List Nat}{e e':cm}{d:Option Nat}(h:sV as e e')(b: ∀t,t∈PY d->t∈as):sV as e (e'.putO d v):=by
 intro t a;cases d with
 |none=>exact h t a
 |some d=>
  have:t≠d:=by rintro rfl;exact a (b t (List.mem_singleton.2 rfl))
  simp only[cm.putO,cm.put,zF this];exact h t a
def G8 {T:Ab.iU}(b:vd T){Q:cm->Hp->Prop}{as:List Nat}{e0:cm}: ∀{ops:List AOper} {e:cm} {Z:Hp},(∀o,o∈ops->∀t,t∈PY o.dst->t∈as)->sV as e0 e->Ab.zZ T Q ops e Z->Ab.zZ T (λe' Z'=>sV as e0 e'/\Q e' Z') ops e Z
 |[],e,Z,_,a,h=>⟨a,h⟩
 |o::r,e,Z,d,a,h=>by
  simp only[Ab.zZ]at h⊢;have j: ∀o,o∈r->∀t,t∈PY o.dst->t∈as:=λo k=>d o (cB _ k)
  split at h
  .rename_i g;rw[zE g];exact lf b (λv Z' l=>G8 b j (a.put (d o aD)) l) h
  .rename_i g;rw[zF g];exact G8 b j (a.put (d o aD)) h
def Im {T:Ab.iU}(d:vd T){Q:cm->Hp->Prop}{as:List Nat}{e0:cm}: ∀{a:List SItem} {chk:List (Nat×(Hp->Prop))} {e:cm} {Z:Hp},(∀o,o∈a->∀t,t∈PY o.o.dst->t∈as)->sV as e0 e->QU T Q a chk e Z->QU T (λe' Z'=>sV as e0 e'/\Q e' Z') a chk e Z
 |[],chk,e,Z,_,b,h=>⟨b,h⟩
 |it::r,chk,e,Z,g,b,h=>by
  simp only[QU]at h⊢;have k: ∀o,o∈r->∀t,t∈PY o.o.dst->t∈as:=λo n=>g o (cB _ n)
  split at h
  .rename_i l;rw[zE l];split at h
   .rename_i j;rw[zE j];exact lf d (λv Z' m=>⟨m.1,Im d k (b.put (g it aD)) m.2⟩) h
   .rename_i j;rw[zF j];split at h
    .exact Im d k (b.put (g it aD)) h
    .exact h.elim
  .rename_i l;rw[zF l];exact Im d k (b.put (g it aD)) h
def Ri {F G:Nat->Prop}(h: ∀m,F m->G m): ∀{l:List Nat},Lf F l->Lf G l
 |[],_=>trivial
 |[m],q=>h m q
 |m::a::r,q=>⟨h m q.1,Ri h q.2⟩
def Fr {T:Ab.iU}(q:vd T){Q:cm->Hp->Prop}{as:List Nat}{e0:cm}{ops:List (AOper×List Nat)}(d: ∀o,o∈ops->∀t,t∈PY o.1.dst->t∈as): ∀(f:Nat) {D:List Nat} {chk:List (Nat×(Hp->Prop))} {e:cm} {Z:Hp},sV as e0 e->Dr T Q ops f D chk e Z->Dr T (λe' Z'=>sV as e0 e'/\Q e' Z') ops f D chk e Z
 |0,D,chk,e,Z,j,h=>⟨j,h⟩
 |f+1,D,chk,e,Z,j,h=>by
  simp only[Dr]at h⊢;cases u:eb ops D with
  |some i=>
   rw[u]at h;simp only at h⊢;cases k:ops[i]? with
   |none=>rw[k]at h;exact h
   |some p=>
    have⟨o,s⟩:=p;rw[k]at h;have b:(o,s)∈ops:=cD k;simp only at h⊢;split at h
    .rename_i n;rw[zE n];split at h
     .rename_i v Z' r;exact Fr q d f (j.put (d _ b)) h
     .exact h.elim
    .rename_i n;rw[zF n];exact Fr q d f (j.put (d _ b)) h
  |none=>
   rw[u]at h;simp only at h⊢;cases r:bv ops D with
   |nil=>rw[r]at h;exact⟨j,h⟩
   |cons a l=>
    rw[r]at h;simp only at h⊢;refine Ri (λm b=> ?_) h;cases k:ops[m]? with
    |none=>rw[k]at b;exact b
    |some p=>
     have⟨o,s⟩:=p;rw[k]at b;have g:(o,s)∈ops:=cD k;simp only at b⊢;split at b
     .rename_i n;rw[zE n];exact lf q (λv Z' w=>⟨w.1,Fr q d f (j.put (d _ g)) w.2⟩) b
     .rename_i n;rw[zF n];exact Fr q d f (j.put (d _ g)) b
def w7 {T:Ab.iU}(m:vd T){as:List Nat}{e0:cm}: ∀(c:AC) {Q:AExit->cm->Hp->Prop} {e:cm} {Z:Hp},E1 c=Za->(∀t,t∈kY c->t∈as)->sV as e0 e->w8 T c Q e Z->w8 T c (λx e' Z'=>sV as e0 e'/\Q x e' Z') e Z
 | .skip,_,_,_,_,_,j,h=>⟨j,h⟩
 | .exit _,_,_,_,_,_,j,h=>⟨j,h⟩
 | .ret,_,_,_,_,_,j,h=>⟨j,h⟩
 | .region ops,Q,e,Z,_,k,j,h=>G8 m (λo r t l=>k t (List.mem_flatMap.2 ⟨o,r,l⟩)) j h
 | .sched A,Q,e,Z,_,k,j,h=>Im m (λo r t l=>k t (List.mem_flatMap.2 ⟨o,r,l⟩)) j h
 | .draw ops,Q,e,Z,_,k,j,h=>Fr m (λo r t l=>k t (List.mem_flatMap.2 ⟨o,r,l⟩)) _ j h
 | .seq a b,Q,e,Z,p,k,j,h=>by
  simp only[E1,aB]at p;have q:=w7 m a p.1 (λt l=>k t (List.mem_append.2 (.inl l))) j h;refine fZ m a _ _ (λx e' Z' s=> ?_) e Z q;obtain⟨g,d⟩:=s;cases x with
  |normal=>exact w7 m b p.2 (λt l=>k t (List.mem_append.2 (.inr l))) g d
  |exit i=>exact⟨g,d⟩
  |ret=>exact⟨g,d⟩
 | .cond c a b,Q,e,Z,p,k,j,h=>by
  simp only[E1,aB]at p;simp only[w8]at h⊢;split at h
  .exact w7 m a p.1 (λt l=>k t (List.mem_append.2 (.inl l))) j h
  .exact w7 m b p.2 (λt l=>k t (List.mem_append.2 (.inr l))) j h
  .exact h.elim
 | .block id b,Q,e,Z,p,k,j,h=>by
  have q:=w7 m b p k j h;refine fZ m b _ _ (λx e' Z' s=> ?_) e Z q;obtain⟨g,d⟩:=s;cases x with
  |normal=>exact⟨g,d⟩
  |exit i=>
   simp only at d⊢;split at d
   .rename_i u;rw[zE u];exact⟨g,d⟩
   .rename_i u;rw[zF u];exact⟨g,d⟩
  |ret=>exact⟨g,d⟩
 | .loop b,Q,e,Z,p,k,j,h=>by
  obtain⟨n,w⟩:=h;refine⟨n, ?_⟩;induction n generalizing e Z with
  |zero=>exact w.elim
  |succ n z=>
   simp only[ju]at w⊢;have q:=w7 m b p k j w;refine fZ m b _ _ (λx e' Z' s=> ?_) e Z q;obtain⟨g,d⟩:=s;cases x with
   |normal=>exact z _ _ g d
   |exit i=>exact⟨g,d⟩
   |ret=>exact⟨g,d⟩
def II {S:ai}{N:Nat}{vals:List VV}{t:Ad sk.shs}(h:LI S N fx sk vals=O t):sk.noRo=Za/\∃st,ny S N fx sk vals=O st/\KG sk.shs t=st.ls:=by
 unfold LI at h;have⟨a,b⟩:=au h;have⟨st,d,g⟩:=ah b;exact⟨a,st,d,AO g⟩
def ab1 {S:ai}{N:Nat}{vals:List VV}{t:Ad sk.shs}(h:Vx S N fx sk vals=O t):sk.fxRo=Za/\∃st,ny S N fx sk vals=O st/\KG sk.shs t=st.ls:=by
 unfold Vx at h;have⟨a,b⟩:=au h;have⟨st,d,g⟩:=ah b;exact⟨a,st,d,AO g⟩
def FB {S:ai}{N:Nat}{fx:List Nat}{vals:List Nat->List VV}{d:XK->Bool}: ∀{l:List Alt} {s:vz l},xp S N fx vals d l=O s->∃p,YT l s=O p/\d p.1.x=Za/\LI S N fx p.1.sk (vals p.1.ts)=O p.2
 |[],s,h=>by cases h
 |[a],s,h=>by
  simp only[xp]at h;cases g:d a.x with
  |false=>rw[g]at h;cases h
  |true=>rw[g]at h;exact⟨⟨a,s⟩,rfl,g,h⟩
 |a::b::r,s,h=>by
  simp only[xp]at h;split at h
  .rename_i t j;cases h;cases g:d a.x with
   |false=>rw[g]at j;cases j
   |true=>rw[g]at j;exact⟨⟨a,t⟩,rfl,g,j⟩
  .obtain⟨u,m,k⟩:=ah h;cases k;have⟨p,n,o,q⟩:=FB m;exact⟨p,n,o,q⟩
def XK.is_out {x:XK}{y:AExit}(h:x.is y=Za):x.out=y:=by
 cases x<;>cases y<;>simp only[XK.is]at h<;>first|rfl|(cases h;done)|skip
 rename_i i j;rw[show(XK.exit i).out=AExit.exit i from rfl,cK h]
def H2 {c:Ctx}: ∀{ts:List Nat} {e:co} {ea:cm} {vs:List VV},az c e ea->F2 (VRel c) vs (ts.map ea)->az c (SA e ts vs) ea
 |[],e,ea,vs,a,b=>by
  cases b;exact a
 |t::ts,e,ea,vs,a,b=>by
  cases b with
  |cons g h=>
   have:=H2 a h;intro i;simp only[SA,wO];by_cases d:i=t
   .subst d;rw[zE rfl];exact g
   .rw[zF d];exact this i
def Fz {as:List Nat}(d:az c e ea)(g:sV as ea ea'):az c (rA e as) ea':=by
 intro t;rcases yx (ts:=as) (e:=e) (t:=t)with h|⟨a,b⟩
 .rw[h];exact .undef _
 .rw[b,g t a];exact d t
def KC {c:Ctx}{e:co}{ea:cm}(a:az c e ea): ∀ts:List Nat,F2 (VRel c) (ts.map (lQ e)) (ts.map ea)
 |[]=> .nil
 |t::ts=> .cons (a t) (KC a ts)
def P7 {β:Type}{e0:co}{d:cm}{b:List Nat}{a:List Alt}{s:vz a}{k:AExit->co->ai->Option β}{y:β}{e':co}{x:AExit}(L:Rel c)(o:az c e0 d)(g:Rel c')(N:Within c c1 fx mov)(j:Rel c1)(t:Le c1 c')(u:Kj c.S fx=Za)
  (r:sV b d ea') (n:az c' e' ea') (M:xp c'.S (dt c.S) fx (λts=>ts.map (lQ e')) (λy=>y.is x) a=O s) (h:av4 e0 c.S fx mov b a s k=O y):rT c k y x ea' c'.Z:=by
 have⟨p,F,H,I⟩:=FB M;have⟨w,st,J,K⟩:=II I;unfold av4 at h;rw[PG,F]at h;simp only[zG]at h;rw[XK.is_out H]at h;unfold E8 at h;rw[K]at h;cases m:mN id p.1.sk st.ls with
 |none=>rw[m]at h;cases h
 |some q=>
  have⟨vs,fs,bs⟩:=q;rw[m]at h;simp only[Bool.false_or]at h;cases l:wW fx fs (jT fx mov (AJ vs fs bs) 0 c.S)with
  |none=>rw[l]at h;cases h
  |some S2=>
   rw[l]at h;have⟨A,B,C,z,D,E⟩:=aw3 L g N j t u w J m (KC n _) l;refine⟨_,A,B,z,D,H2 (Fz (o.frame z) r) E, ?_⟩;rw[C];exact h
def TF {S:ai}:wy S (jT fx [] Za 0 S):=by
 refine⟨mG,λk=> ?_⟩;by_cases a:k<dt S
 .rw[mF a];simp only[ld,zD,bD];cases ld k fx with
  |true=>exact .inl rfl
  |false=>exact .inr rfl
 .rw[wS (by rw[mG];omega),wS V1];exact .inl rfl
def bg3 (c:Ctx)(e0:co)(b:cm)(fx mov a:List Nat)(ts:List Nat)(sk:rc)(t:Ad sk.shs)(ea:cm)(Z:Hp):Prop:=
 ∃c1 d,c1.Z=Z/\E8 e0 c.S fx mov a Za ts sk t=O (d,c1.S)/\Rel c1/\az c1 d ea/\Within c c1 fx mov/\sV a b ea
def MR {e0 e1:co}{S S1:ai}{a ts:List Nat}{t:Ad sk.shs}(h:E8 e0 S fx mov a Za ts sk t=O (e1,S1)): ∃vs fs bs S',mN id sk (KG sk.shs t)=O (vs,fs,bs)/\wW fx fs (jT fx mov Za 0 S)=O S'/\e1=SA (rA e0 a) ts vs/\S1=S'++bs:=by
 unfold E8 at h;split at h
 .rename_i vs fs bs j;simp only[Bool.true_or]at h;split at h
  .rename_i S' g;injection h with h
   injection h with b d
   exact⟨vs,fs,bs,S',j,g,b.symm,d.symm⟩
  .cases h
 .cases h
def JH {ops:List (AOper×List Nat)}: ∀{r:List LItem} {it:LItem} {t:Nat},it∈r->bB it.kind 2=Za->(be ops it.i).dst=O t->t∈FH ops r
 |a::r,it,t,h,b,d=>by
  simp only[FH];rcases List.mem_cons.1 h with rfl|h
  .rw[b,zC,d];exact aD
  .have:=JH h b d;cases bB a.kind 2 with
   |false=>exact this
   |true=>exact List.mem_append.2 (.inr this)
def bm {α γ:Type}(f:α->Option (α⊕γ))(n:Nat)(a:α):am f (n+1) a=ek (f a) λs=>bg s (am f n) O:=rfl
def Jn {f:(AExit->cm->Hp->Prop)->cm->Hp->Prop}(d: ∀(Q Q':AExit->cm->Hp->Prop),(∀x e Z,Q x e Z->Q' x e Z)->∀e Z,f Q e Z->f Q' e Z){Q:AExit->cm->Hp->Prop}:
  ∀(n m:Nat) (e:cm) (Z:Hp),n<=m->ju f Q n e Z->ju f Q m e Z
 |0,_,_,_,_,h=>h.elim
 |n+1,0,_,_,a,_=>absurd a (Nat.not_succ_le_zero _)
 |n+1,m+1,e,Z,a,h=>by
  simp only[ju]at h⊢;refine d _ _ (λx g Z' b=> ?_) e Z h;cases x with
  |normal=>exact Jn d n m g Z' (Nat.le_of_succ_le_succ a) b
  |exit id=>exact b
  |ret=>exact b
def HR {b:AC}(g: ∀(at':AT) {β:Type} {y:β} {c:Ctx} {e:co} {ea:cm} {k:AExit->co->ai->Option β},Rel c->az c e ea->eval tab b at' β e c.S k=O y->w8 (fK tab) b (rT c k y) ea c.Z):
  ∀(at':AT) {β:Type} {y:β} {c:Ctx} {e:co} {ea:cm} {k:AExit->co->ai->Option β},Rel c->az c e ea->Me (eval tab b) at' β e c.S k=O y->ju (w8 (fK tab) b) (rT c k y) at'.rounds ea c.Z
 | .n l r,β,y,c,e,ea,k,a,d,h=>by
  simp only[Me]at h;have w:=g l a d h;simp only[AT.rounds,ju];refine fZ (bw tab) b _ _ (λx ea' Z' B=> ?_) ea c.Z w;have⟨s,c',z,j,o,p,q⟩:=B;subst z;cases x with
  |normal=>exact AV (fZ (bw tab) b) (λx t Z'' A=>qm.of j A) _ _ _ (HR g r o p q)
  |exit i=>exact⟨s,c',rfl,j,o,p,q⟩
  |ret=>exact⟨s,c',rfl,j,o,p,q⟩
 | .sz m l r,β,y,c,e,ea,k,a,d,h=>by
  simp only[Me]at h;simp only[AT.rounds];cases u:bB m (dt c.S) with
  |true=>
   rw[u]at h;exact Jn (fZ (bw tab) b) _ _ _ _ (Nat.le_add_right _ _) (HR g l a d h)
  |false=>
   rw[u]at h;exact Jn (fZ (bw tab) b) _ _ _ _ (Nat.le_add_left _ _) (HR g r a d h)
 | .no,_,_,_,_,_,_,_,_,h=>by cases h
 | .lp _ _ _ _,_,_,_,_,_,_,_,_,h=>by cases h
 | .jn _ _ _ _ _,_,_,_,_,_,_,_,_,h=>by cases h
 | .dr _,_,_,_,_,_,_,_,_,h=>by cases h
 | .all,_,_,_,_,_,_,_,_,h=>by cases h
def R0 {b:AC}(o: ∀{β:Type} {y:β} {c:Ctx} {e:co} {ea:cm} {k:AExit->co->ai->Option β},Rel c->az c e ea->eval tab b .all β e c.S k=O y->w8 (fK tab) b (rT c k y) ea c.Z):
  ∀(n:Nat) {β:Type} {y:β} {c:Ctx} {e:co} {ea:cm} {k:AExit->co->ai->Option β},Rel c->az c e ea->af2 (eval tab b .all) n β e c.S k=O y->ju (w8 (fK tab) b) (rT c k y) n ea c.Z
 |0,_,_,_,_,_,_,_,_,h=>by cases h
 |n+1,β,y,c,e,ea,k,r,s,h=>by
  have p:=o r s (show eval tab b .all β e c.S (λx a S'=>match x with
   | .normal=>af2 (eval tab b .all) n β a S' k
   |x=>k x a S')=O y from h)
  simp only[ju];refine fZ (bw tab) b _ _ (λx ea' Z' u=> ?_) ea c.Z p;have⟨a,c',q,d,g,j,l⟩:=u;subst q;cases x with
  |normal=>exact AV (fZ (bw tab) b) (λx m Z'' t=>qm.of d t) _ _ _ (R0 o n g j l)
  |exit i=>exact⟨a,c',rfl,d,g,j,l⟩
  |ret=>exact⟨a,c',rfl,d,g,j,l⟩
def qS : ∀(ac:AC) (at':AT) {β:Type} {y:β} {c:Ctx} {e:co} {ea:cm} {k:AExit->co->ai->Option β},Rel c->az c e ea->eval tab ac at' β e c.S k=O y->w8 (fK tab) ac (rT c k y) ea c.Z
 | .skip,_,_,_,c,e,ea,k,g,d,h=>⟨e,c,rfl,Le.refl c,g,d,h⟩
 | .exit i,_,_,_,c,e,ea,k,g,d,h=>⟨e,c,rfl,Le.refl c,g,d,h⟩
 | .ret,_,_,_,c,e,ea,k,g,d,h=>⟨e,c,rfl,Le.refl c,g,d,h⟩
 | .region ops,_,_,_,c,e,ea,k,g,d,h=>LQ g d h
 | .sched its,_,_,_,c,e,ea,k,g,d,h=>GR g d .nil h
 | .draw ops,at',_,y,c,e,ea,k,g,d,h=>by
  simp only[eval]at h;split at h
  .rename_i L _;obtain⟨N,h⟩:=au h;rw[aB]at N;refine LP g (dt ops) (pd:=λ_=>0) N.1 ⟨Le.refl c,g,Fz d (sV.refl _ ea), .nil,rfl,rfl,λb=>⟨.inl,λh=> ?_⟩,List.nodup_nil,(λ_ _ h=>by cases h),(λ_ h=>by cases h),(λ_ h=>by cases h),λit hit U t P=> ?_,N.2⟩ h
   .rcases h with h|⟨_,h,_⟩
    .exact h
    .cases h
   .rcases @yx (FH ops (AL ops L L [])) e t with h1|⟨h1,_⟩
    .exact h1
    .exact(h1 (JH hit U P)).elim
  .cases h
 | .seq a b,at',β,y,c,e,ea,k,g,d,h=>by
  have K: ∀l r,(eval tab a l β e c.S λx B S'=>match x with
    | .normal=>eval tab b r β B S' k
    |x=>k x B S')=O y->w8 (fK tab) (.seq a b) (rT c k y) ea c.Z:=by
   intro l r h1;refine fZ (bw tab) a _ _ (λx ea' Z' hx=> ?_) ea c.Z (qS a l g d h1);have⟨B,c',h2,A,E,F,w⟩:=hx;subst h2;cases x with
   |normal=>exact fZ (bw tab) b _ _ (λx ea'' Z'' hp=>qm.of A hp) _ _ (qS b r E F w)
   |exit i=>exact⟨B,c',rfl,A,E,F,w⟩
   |ret=>exact⟨B,c',rfl,A,E,F,w⟩
  simp only[eval]at h;split at h
  .rename_i fx mov C l r _;obtain⟨N,h⟩:=au h;rw[aB]at N;have⟨s,h1,h2⟩:=ah h;have W:wy c.S (jT (fx++mov) [] Za 0 c.S):=TF;have hR1:Rel ⟨c.μ,jT (fx++mov) [] Za 0 c.S,c.Z,c.fb⟩:=W.rel g
   have hw:Within c ⟨c.μ,jT (fx++mov) [] Za 0 c.S,c.Z,c.fb⟩ fx mov:=by
    refine⟨W.le,λq hq hn V=> ?_,λ_ _ _ _ _ _ _ _ hy=>hy⟩;show ae (jT (fx++mov) [] Za 0 c.S) q=_;rw[mF hq];simp only[ld,zD,bD];rcases V with V|hz
    .rw[jU (by simp[hn,V])];rfl
    .cases ld q (fx++mov)with
     |true=>exact(B1 hz).symm
     |false=>rfl
   have A:=w7 (bw tab) (as:=kY a) (e0:=ea) a N.2 (λt P=>P) (sV.refl _ ea) (qS a l (c:=⟨c.μ,jT (fx++mov) [] Za 0 c.S,c.Z,c.fb⟩) hR1 (d.frame W.le) h1);refine fZ (bw tab) a _ _ (λx ea' Z' hx=> ?_) ea c.Z A;have⟨U,B,c',E,F,w,h7,h8⟩:=hx;subst E;have M:=P7 g d w hw hR1 F N.1 U h7 h8 h2;cases x with
   |normal=>
    have⟨D,c2,g1,g2,g3,g4,g5⟩:=M;rw[<-g1];exact fZ (bw tab) b _ _ (λx ea'' Z'' hp=>qm.of g2 hp) _ _ (qS b r g3 g4 g5)
   |exit i=>exact M
   |ret=>exact M
  .exact K _ _ h
  .exact K _ _ h
 | .cond t a b,at',β,y,c,e,ea,k,g,d,h=>by
  simp only[eval]at h;split at h
  .rename_i p hp;have P:=cn d t;rw[hp]at P;have P:=P.bool_inv
   have T: ∀(e1 D:co) (l r:AT),az c e1 ea∨p=Zb->az c D ea∨p=Za->cond p (eval tab a l β e1 c.S k) (eval tab b r β D c.S k)=O y->w8 (fK tab) (.cond t a b) (rT c k y) ea c.Z:=by
    intro e1 D l r h1 h2 A;simp only[w8,P];cases p with
    |true=>
     rcases h1 with h1|h1
     .exact qS a l g h1 A
     .cases h1
    |false=>
     rcases h2 with h2|h2
     .exact qS b r g h2 A
     .cases h2
   have pb: ∀(i:Nat),t= .tmp i->(az c (qU e i (.bool Za)) ea∨p=Zb)/\(az c (qU e i (.bool Zb)) ea∨p=Za):=by
    intro i X;subst X;have:=Sz d hp;cases p with
    |true=>exact⟨.inl this, .inr rfl⟩
    |false=>exact⟨.inr rfl, .inl this⟩
   split at h
   .exact T _ _ _ _ (pb _ rfl).1 (pb _ rfl).2 h
   .exact T _ _ _ _ (pb _ rfl).1 (pb _ rfl).2 h
   .exact T _ _ _ _ (.inl d) (.inl d) h
   .exact T _ _ _ _ (.inl d) (.inl d) h
  .cases h
 | .block id b,at',β,y,c,e,ea,k,g,d,h=>by
  simp only[eval]at h;refine fZ (bw tab) b _ _ (λx ea' Z' hx=> ?_) ea c.Z (qS b _ g d h);have⟨B,c',h2,A,E,F,w⟩:=hx;cases x with
  |normal=>exact⟨B,c',h2,A,E,F,w⟩
  |ret=>exact⟨B,c',h2,A,E,F,w⟩
  |exit i=>
   simp only at w⊢;cases X:bB i id with
   |true=>
    rw[X]at w;rw[zE (cK X)];exact⟨B,c',h2,A,E,F,w⟩
   |false=>
    rw[X]at w;rw[zF (λe=>by rw[e,Nat.beq_refl]at X;cases X)];exact⟨B,c',h2,A,E,F,w⟩
 | .loop b,at',β,y,c,e,ea,k,g,d,h=>by
  simp only[eval]at h;split at h
  .rename_i fx head C l _;obtain⟨N,h⟩:=au h;rw[aB,aB]at N;have⟨⟨g1,g2⟩,g3⟩:=N;split at h
   .rename_i st hd;obtain⟨t0,h1,h⟩:=ah h;have⟨s,h2,A⟩:=ah h
    have round: ∀(n:Nat) (t:Ad head.sk.shs) (H:cm) (Z1:Hp),bg3 c e ea fx (oX st.m) (kY b) head.ts head.sk t H Z1->am (λt=>match E8 e c.S fx (oX st.m) (kY b) Za head.ts head.sk t with
      |some (e1,S1)=>eval tab b l (Ad head.sk.shs⊕vz C) e1 S1 λx B S'=>(match x with
       | .normal=>ek (Vx S' (dt c.S) fx head.sk (head.ts.map (lQ B))) λt=>O (.inl t)
       |x=>ek (xp S' (dt c.S) fx (λts=>ts.map (lQ B)) (λy=>y.is x) C) λs=>O (.inr s))
      |none=>Y) n t=O s->ju (w8 (fK tab) b) (rT c k y) n H Z1:=by
     intro n;induction n with
     |zero=>intro t H Z1 _ hl;cases hl
     |succ n ih=>
      intro t H Z1 hH hl;rw[bm]at hl;have⟨z,hl1,o⟩:=ah hl;have⟨c1,e1,q1,q2,q3,q4,q5,q6⟩:=hH;subst q1;rw[q2]at hl1;simp only at hl1;have E:=w7 (bw tab) (as:=kY b) (e0:=ea) b g3 (λt P=>P) q6 (qS b l q3 q4 hl1);simp only[ju];refine fZ (bw tab) b _ _ (λx ea' Z' hx=> ?_) H c1.Z E;have⟨U,B,c',F,w,h7,h8,M⟩:=hx;subst F;cases x with
      |normal=>
       simp only at M⊢;have⟨t',I,u⟩:=ah M;cases u;simp only[bg]at o;refine ih t' ea' c'.Z ?_ o;have⟨hro,st',h12,h13⟩:=ab1 I
       have j: ∃D S2,E8 e c.S fx (oX st.m) (kY b) Za head.ts head.sk t'=O (D,S2):=by
        cases n with
        |zero=>cases o
        |succ n=>
         rw[bm]at o;have⟨z',J,_⟩:=ah o;cases hz:E8 e c.S fx (oX st.m) (kY b) Za head.ts head.sk t' with
         |none=>rw[hz]at J;cases J
         |some q=>exact⟨q.1,q.2,rfl⟩
       obtain⟨D,S2,j⟩:=j;have⟨vs,fs,bs,S3,r1,r2,r3,r4⟩:=MR j;rw[h13]at r1;have⟨ct,u1,u2,u3,u4,u5,u6,u7,u8⟩:=aE7 g h7 q5 q3 w g2 hro h12 r1 (KC h8 _) r2;refine⟨ct,D,u1,by rw[j,r4,u2],u6, ?_,OR u5 r2 u2 λq hq hn V Q b' y' hb hy=> ?_,U⟩
       .rw[r3];exact H2 (Fz (d.frame u5) U) u7
       .refine(u8 q hq hn ?_).2 b' y' hb hy;have⟨v1,v2,v3,_⟩:=kf r2;rw[mG]at v2;rw[u2,nD (by rw[v2];exact hq),v3 q hn,mF hq,bD,jU hn];rcases V with V|hz
        .rw[jU V,zD,zD,zC,fS];exact Q
        .rw[hz];cases ld q (oX st.m)with
         |true=>exact Q
         |false=>rw[zD,zD,zC,fS];exact Q
      |exit i=>
       simp only at M⊢;have⟨s',I,u⟩:=ah M;cases u;simp only[bg]at o;cases o;exact P7 g d h7 q5 q3 w g2 U h8 I A
      |ret=>
       simp only at M⊢;have⟨s',I,u⟩:=ah M;cases u;simp only[bg]at o;cases o;exact P7 g d h7 q5 q3 w g2 U h8 I A
    refine⟨cv,round cv t0 ea c.Z ?_ h2⟩
    have j: ∃D S2,E8 e c.S fx (oX st.m) (kY b) Za head.ts head.sk t0=O (D,S2):=by
     have hb:cv=(cv-1)+1:=rfl;rw[hb,bm]at h2;have⟨z',J,_⟩:=ah h2;cases hz:E8 e c.S fx (oX st.m) (kY b) Za head.ts head.sk t0 with
     |none=>rw[hz]at J;cases J
     |some q=>exact⟨q.1,q.2,rfl⟩
    obtain⟨D,S2,j⟩:=j;have⟨vs,fs,bs,S3,r1,r2,r3,r4⟩:=MR j;rw[AO h1]at r1;have⟨ct,u1,u2,u3,u4,u5,u6,u7⟩:=Xj g g2 g1 hd r1 (KC d _) r2;refine⟨ct,D,u1,by rw[j,r4,u2],u6, ?_,OR u5 r2 u2 λq hq hn V Q b' y' hb hy=>by rw[u1];exact hy,sV.refl _ _⟩;rw[r3];exact H2 (Fz (d.frame u5) (sV.refl _ _)) u7
   .cases h
  .exact⟨_,R0 (λg d h=>qS b .all g d h) _ g d h⟩
  .exact⟨_,HR (λat'' {β y c e ea k} g d h=>qS b at'' g d h) at' g d h⟩
end
end
section
open Nat renaming le_of_ble_eq_true -> aB, zero_add -> aD
def KD {c:Ctx}{e:co}{ea:cm}(C:Rel c)(w:az c e ea): ∀{K:List ARes} {vs:List VV},H7 e c.S K=O vs->∃A,I9 ea c.Z K=O A/\F2 (VRel c) vs A
 |[],vs,h=>by cases h;exact⟨[],rfl, .nil⟩
 |r::K,vs,h=>by
  simp only[H7]at h;obtain⟨v,d,h⟩:=ah h;obtain⟨T,M,h⟩:=ah h;cases h;have⟨A,N,P⟩:=KD C w M
  have J: ∃u,MA ea c.Z r=O u/\VRel c v u:=by
   cases r with
   |tmp t=>
    simp only[az6]at d;cases d;exact⟨_,rfl,w t⟩
   |cell t=>
    simp only[az6]at d;split at d
    .rename_i b o I;split at d
     .rename_i B z l m;have q:=w t;rw[I]at q;cases q with
      |ptr Q _ F=>
       have g:(ae c.S b).dim=O (B,dt l):=by rw[m];rfl
       have⟨L,H,D⟩:=F _ g;have p:=C.stands g H;rw[m]at p;have⟨y,a,k,j,s⟩:=p.get d;refine⟨a, ?_,s⟩;rw[aD]at j;simp only[MA,D,k,zG,j]
     .cases d
    .cases d
   |cellN t n=>
    simp only[az6]at d;split at d
    .rename_i b o I;split at d
     .rename_i B z l m;cases E:Nat.ble (o+n) (dt l) with
      |false=>rw[E]at d;cases d
      |true=>
       rw[E]at d;cases d;have q:=w t;rw[I]at q;cases q with
       |ptr Q _ F=>
        have g:(ae c.S b).dim=O (B,dt l):=by rw[m];rfl
        have⟨L,H,D⟩:=F _ g;have p:=C.stands g H;rw[m]at p;have⟨y,as,k,j,s⟩:=p.read (aB E);rw[aD]at j;refine⟨.agg as.toArray, ?_, .agg (by simp only[Blk.vals]at s;simpa using s)⟩;simp only[MA,D,k,zG,j,Option.map_some]
     .cases d
    .cases d
  have⟨u,k,j⟩:=J;exact⟨u::A,by simp only[I9,k,N], .cons j P⟩
def QR {d:List Value}(h:F2 (VRel c) vs d):VRel c (Td vs) (AU d):=by
 cases h with
 |nil=>exact .tup .nil
 |cons b a=>
  cases a with
  |nil=>exact b
  |cons a g=>exact .tup (by simpa using F2.cons b (F2.cons a g))
def Ll (h:F2 (VRel c) vs as):az c vs (cm.of as):=by
 intro t
 have g: ∀(l:List VV) (i:Nat),lQ l i=(l[i]?).getD .undef:=by
  intro l;induction l with
  |nil=>intro i;simp[lQ]
  |cons a l k=>intro i;cases i with
   |zero=>simp[lQ]
   |succ i=>simp[lQ,k]
 rw[g];unfold cm.of;cases j:vs[t]? with
 |none=>exact .undef _
 |some v=>
  have⟨a,b,d⟩:=h.get t v j;rw[b];exact d
def CV : ∀{n q:Nat},q<n->q∈Iy n
 |n+1,q,h=>by
  by_cases e:q=n
  .subst e;exact List.mem_cons_self
  .exact List.mem_cons_of_mem _ (CV V1)
def aj5 {P:Program}{r:Ad (rc.shs ⟨vals,[],objs⟩)->Option (vz outs)}(ht:fT P tab.fs)(hi:aa P tab.is)
  (he: ∀t o,r t=O o->IM P f tab vals objs outs at' t=O o):dh P ⟨f,vals,objs,outs,r⟩:=by
 intro B μ Z w h l K hs N ha;obtain⟨c,X,st,t,o,p,v,fs,bs,S',h1,hR,hf,a,hl,j,E,F,hp,d,hS,hK⟩:=hs;subst h1;have b:=he t o F;unfold IM at b;split at b
 .rename_i s vs fs0 S0 V z;obtain⟨hg,b⟩:=au b;refine ac2 V (bw tab) (Fh ht hi) B μ c.Z w h l K ?_ N ha;have U:KG (rc.shs ⟨vals,[],objs⟩) t=st.ls:=AO hl;rw[U]at z;obtain⟨M,A⟩:=enter hR rfl a z hf;have C:h.length<=s.ntmps:=by rw[<-A.length];exact aB hg
  refine⟨C, ?_⟩;obtain⟨l1,l2⟩:=M.len;have n:=qS s.body at' (c:=kZ c st S0) M.rel (Ll A) b;refine fZ (bw tab) s.body _ _ (λx ea Z' hx=> ?_) _ _ n;obtain⟨e',c',h2,h3,h4,h5,J⟩:=hx;subst h2
  have u:(match H7 e' c'.S s.results with
    |some rs=>xp c'.S S0.length (uH objs 0) (λ_=>[Td rs]) (λ_=>Za) outs
    |none=>Y)=O o->(match I9 ea c'.Z s.results with
    |some vs=>K (AU vs) c'.Z
    |none=>False):=by
   intro L;split at L
   .rename_i rs T;obtain⟨us,h8,h9⟩:=KD h4 h5 T;rw[h8];simp only;obtain⟨p',H,_,q3⟩:=FB L;simp only at hp;rw[hp]at H;injection H with H
    subst H;obtain⟨Q,st',q4,q5⟩:=II q3;obtain⟨I,_⟩:=qz a;have D:=qw I;rw[List.nil_append]at D;simp only at d hS j E;rw[q5]at d
    have q: ∀(i:Nat) (o:OSk) (x:Src),objs[i]?=O o->o.ro=Za->st.m[i]?=O (O x)->x.k∈st.lent:=by
     intro i o x g1 g2 g3;unfold ny at a;obtain⟨st1,d1,a⟩:=ah a;obtain⟨st2,d2,a⟩:=ah a;obtain⟨g,d3,a⟩:=ah a
     have:g=st:=by
      cases hb:(Gt ([]++oX g.m)&&C1 ([]++kg (FSum.ins ⟨f,vals,objs,outs,r⟩).free g.m) g.lent)with
      |false=>rw[hb]at a;cases a
      |true=>rw[hb]at a;injection a
     subst this;exact Qz d3 i o x g1 g2 (by rw[aD];exact g3)
    obtain⟨ct,r1,r2,r3,r4,W,r6⟩:=MB hR rfl M h3 h4 j E D q Q (by rw[<-l1];exact q4) d (.cons (QR h9) .nil) hS;cases W with
    |cons W _=>exact hK _ _ ⟨ct,r1,r2,r3,r4,W,r6⟩
   .cases L
  cases x with
  |exit i=>cases J
  |normal=>exact u J
  |ret=>exact u J
 .cases b
def OD {P:Program}{tab:List FSum}{a:List Inl}{b:Ad (rc.shs ⟨vals,[],objs⟩)->Option (vz outs)}(j:fT P tab)(g:aa P a)
  (d: ∀t,IM P f ⟨tab,a⟩ vals objs outs at' t=b t):dh P ⟨f,vals,objs,outs,b⟩:=aj5 (tab:=⟨tab,a⟩) j g λt o h=>(d t).trans h
def aj4 {P:Program}{tab:List FSum}{a:Ad (rc.shs ⟨vals,[],objs⟩)->Option (vz outs)}(d:fT P tab)
  (b: ∀t,IM P f ⟨tab,[]⟩ vals objs outs at' t=a t):dh P ⟨f,vals,objs,outs,a⟩:=OD d (aa.nil P) b
def aq {P:Program}{tab:List FSum}{b:List Inl}(W:fT P tab)(Q:aa P b):La P ⟨f,bj P f ⟨tab,b⟩ at'⟩:=by
 intro B μ Z w d g K V p M;obtain⟨β,y,c,vals,k,C,L,z,a,J⟩:=V;subst C;simp only[bj]at a;split at a
 .rename_i j s;obtain⟨N,a⟩:=au a;refine ac2 s (bw ⟨tab,b⟩) (Fh (tab:=⟨tab,b⟩) W Q) B μ c.Z w d g K ?_ p M;have m:d.length<=j.ntmps:=by rw[<-z.length];exact aB N
  refine⟨m, ?_⟩;have h:=qS j.body at' (c:=c) L (Ll z) a;refine fZ (bw ⟨tab,b⟩) j.body _ _ (λx ea Z' X=> ?_) _ _ h;obtain⟨A,c',D,E,u,F,n⟩:=X;subst D
  have l:(match H7 A c'.S j.results with
    |some t=>k (Td t) c'.S
    |none=>Y)=O y->(match I9 ea c'.Z j.results with
    |some vs=>K (AU vs) c'.Z
    |none=>False):=by
   intro o;split at o
   .rename_i t r;obtain⟨us,H,I⟩:=KD u F r;rw[H];exact J _ _ ⟨Td t,c',rfl,E,u,λq U T=>(T (CV U)).elim,QR I,o⟩
   .cases o
  cases x with
  |exit i=>cases n
  |normal=>exact l n
  |ret=>exact l n
 .cases a
def GU :List Alt:=[⟨.ret,[],⟨[.leaf .bool],[],[]⟩⟩]
def xr (Z:Hp):Ctx:=⟨λ_=>Y,[],Z,λ_=>False⟩
def Uk (h:Z.Ok):Rel (xr Z):=
 ⟨h,λk l b j _ _ _=>(by cases j),λk d a=>(by cases a),λk b a=>(a rfl).elim,λb g=>g.elim⟩
def Ma (b:Nat): ¬(xr Z).mut b:=by
 rintro(⟨k,h,_⟩|h)
 .cases h
 .exact h
def ae1 {P:Program}{k:Ad (rc.shs ⟨vals,[],[]⟩)->Option (vz GU)}(h:dh P ⟨f,vals,[],GU,k⟩){w:World}(s:Re P w){rows:List Row}{args:List Value}{cargs:Array Value}{t:Ad (rc.shs ⟨vals,[],[]⟩)}
  (j: ∀r∈rows,∀(i:Nat) (v:Value),r.cells[i]?=O v->∃v',w.cell? ⟨r.c,r.o+i,Y⟩=O v'/\VR (oO rows) v v') (g:F2 (VR (oO rows)) args cargs.toList)
  (A:F2 (VRel (xr (rC w.heap.size rows))) vs args) (a:ny [] 0 [] ⟨vals,[],[]⟩ vs=O st) (u:Q0 _ st.ls=O t) (z:k t=O Za):
  Calls P f cargs w λe w'=>e= .returned (.bool Za)/\Go.RowKit.Below w.heap.size w w':=by
 have p:st.m=[]:=by
  unfold ny at a;obtain⟨B,D,a⟩:=ah a;obtain⟨q,E,a⟩:=ah a;obtain⟨b,d,a⟩:=ah a
  have:b=st:=by
   cases l:(Gt ([]++oX b.m)&&C1 ([]++kg ([]:List OSk) b.m) b.lent)with
   |false=>rw[l]at a;cases a
   |true=>rw[l]at a;injection a
  subst this;simp only[uC]at d;cases l:Nat.beq 0 (dt q.m) with
  |false=>rw[l]at d;cases d
  |true=>
   rw[l]at d;cases d;exact List.length_eq_zero_iff.1 (Nat.eq_of_beq_eq_true l).symm
 refine aO2 (S:=(FSum.mk f vals [] GU k).spec) h s j g ?_;refine⟨xr (rC w.heap.size rows),vs,st,t,Za,⟨⟨.ret,[],⟨[.leaf .bool],[],[]⟩⟩,Za⟩, .bool Za,[],[],cond (AJ [.bool Za] [] []) (DE st.lent []) [],rfl,Uk az9,A,a,u,by rw[p];rfl,by rw[p];rfl,z,rfl,rfl,by rw[p];rfl, ?_⟩;rintro r Z' ⟨C,_,_,_,_,n,_⟩;exact n.bool_inv
end
section
def XJ {α γ:Type}{f:α->Option (α⊕γ)}(I:α->Prop)(m:α->Nat)(Q:γ->Prop)(h: ∀a,I a->(∃b,f a=O (.inl b)/\I b/\m b<m a)∨∃c,f a=O (.inr c)/\Q c): ∀(n:Nat) (a:α),I a->m a<n->∃c,am f n a=O c/\Q c:=by
 intro n;induction n with
 |zero=>intro a _ d;omega
 |succ n o=>
  intro a l q;rcases h a l with⟨b,d,g,p⟩|⟨c,d,g⟩
  .obtain⟨c,j,k⟩:=o b g V1;exact⟨c,by rw[bm,d];exact j,k⟩
  .exact⟨c,by rw[bm,d];rfl,g⟩
def qC {α γ:Type}{f:α->Option (α⊕γ)}{a:α}(I:α->Prop)(m:α->Nat)(Q:γ->Prop)(d:I a)(g:m a<18446744073709551616)(h: ∀a,I a->(∃b,f a=O (.inl b)/\I b/\m b<m a)∨∃c,f a=O (.inr c)/\Q c): ∃c,am f cv a=O c/\Q c:=
 XJ I m Q h cv a d g
def Qf {α γ:Type}{f:α->Option (α⊕γ)}{a:α}{c:γ}(I:α->Prop)(m:α->Nat)(d:I a)(l:m a<18446744073709551616)(h: ∀a,I a->(∃b,f a=O (.inl b)/\I b/\m b<m a)∨f a=O (.inr c)):am f cv a=O c:=by
 obtain⟨c',g,j⟩:=qC I m (· =c) d l λa k=>by
  rcases h a k with h|h
  .exact .inl h
  .exact .inr ⟨c,h,rfl⟩
 rw[g,j]
def ag {α:Type}{p:Prop}[Decidable p]{x y:α}:cond (decide p) x y=if p then x else y:=by by_cases h:p<;>simp[h]
def cf {β:Type}{x:Option β}:gd Za x=x:=rfl
def aN2 {β:Type}{p:Prop}[Decidable p]{x:Option β}(h:p):gd (decide p) x=x:=by rw[zB h];rfl
def bn {β:Type}{n b:Nat}{x:Option β}(h:n*b<=140737488355328)(a:1<=b):gd (fd n b) x=x:=by
 have:fd n b=Za:=by
  unfold fd;rw[zB h,Bool.true_and];exact Nat.ble_eq_true_of_le a
 rw[this];rfl
def cg {α:Type}{l:List α}(h:i<dt l):rd l (i:Int)=O l[i]:=by
 unfold rd;rw[Zf,zC,Int.toNat_natCast,List.getElem?_eq_getElem h]
def ad {n:Int}(h: -9223372036854775808<=n/\n<=9223372036854775807):IntKind.i64.wrap n=n:=IntWalk.i64_in _ h
def Zi {n:Int}(h: -9223372036854775808<=n/\n<=9223372036854775807:=by omega):IntKind.i64.wrap n=n:=ad h
def gi {α γ β:Type}{a:α}{f:α->Option β}{g:γ->Option β}:bg (.inl a) f g=f a:=rfl
def cb {α γ β:Type}{a:γ}{f:α->Option β}{g:γ->Option β}:bg (.inr a) f g=g a:=rfl
end
section
def ET (a:AFn)(tab:Tab)(vals:List Sk)(objs:List OSk)(outs:List Alt)(at':AT)(t:Ad (rc.shs ⟨vals,[],objs⟩)):Option (vz outs):=
 match mN id ⟨vals,[],objs⟩ (KG _ t)with
 |some (vs,_,S)=>gd (Nat.ble (dt vs) a.ntmps) (eval tab a.body at' (vz outs) vs S λx e S'=>match x with
  | .exit _=>Y
  |_=>(match H7 e S' a.results with
   |some b=>xp S' (dt S) (uH objs 0) (λ_=>[Td b]) (λ_=>Za) outs
   |none=>Y))
 |_=>Y
def NI {P:Program}{s:AFn}{D:Ad (rc.shs ⟨vals,[],objs⟩)->Option (vz outs)}(ht:fT P tab.fs)(hi:aa P tab.is)(htr:Yr P f=O s)(F: ∀t:Ad (rc.shs ⟨vals,[],objs⟩),∃r,mN id ⟨vals,[],objs⟩ (KG _ t)=O r)
  (he: ∀t o vs fs S,D t=O o->mN id ⟨vals,[],objs⟩ (KG _ t)=O (vs,fs,S)->∀(c:Ctx) args,F2 (VRel c) vs args->
   ∃b,ET ⟨s.ntmps,s.results,b⟩ tab vals objs outs at' t=O o/\∀T (_:vd T) Q Z,w8 T b Q (cm.of args) Z->w8 T s.body Q (cm.of args) Z):dh P ⟨f,vals,objs,outs,D⟩:=by
 intro B μ Z w args u K hs hR0 ha;obtain⟨c,vals',st,t,o,p,v,fs,bs,S',h1,hR,hf,a,hl,l,L,M,hp,d,hS,hK⟩:=hs;subst h1;have htl:KG (rc.shs ⟨vals,[],objs⟩) t=st.ls:=AO hl;cases h:mN id ⟨vals,[],objs⟩ (KG (rc.shs ⟨vals,[],objs⟩) t)with
 |none=>
  obtain⟨r,q⟩:=F t;rw[h]at q;cases q
 |some tr=>
 obtain⟨vs,V,S0⟩:=tr;refine ac2 htr (bw tab) (Fh ht hi) B μ c.Z w args u K ?_ hR0 ha;have n:=h;rw[htl]at h;obtain⟨hE,A⟩:=enter hR rfl a h hf;obtain⟨bd,g,H⟩:=he t o vs V S0 M n _ _ A;unfold ET at g;rw[n]at g;obtain⟨hg,g⟩:=au g;have I:args.length<=s.ntmps:=by rw[<-A.length];exact Nat.le_of_ble_eq_true hg
 refine⟨I,H _ (bw tab) _ _ ?_⟩;obtain⟨l1,l2⟩:=hE.len;have z:=qS bd at' (c:=kZ c st S0) hE.rel (Ll A) g;refine fZ (bw tab) bd _ _ (λx ea Z' hx=> ?_) _ _ z;obtain⟨e',c',h2,h3,h4,h5,W⟩:=hx;subst h2
 have E:(match H7 e' c'.S s.results with
   |some rs=>xp c'.S S0.length (uH objs 0) (λ_=>[Td rs]) (λ_=>Za) outs
   |none=>Y)=O o->(match I9 ea c'.Z s.results with
   |some vs=>K (AU vs) c'.Z
   |none=>False):=by
  intro X;split at X
  .rename_i rs hrs;obtain⟨us,h8,h9⟩:=KD h4 h5 hrs;rw[h8];simp only;obtain⟨p',N,_,q3⟩:=FB X;simp only at hp;rw[hp]at N;injection N with N
   subst N;obtain⟨hro,st',q4,q5⟩:=II q3;obtain⟨U,_⟩:=qz a;have J:=qw U;rw[List.nil_append]at J;simp only at d hS l L;rw[q5]at d
   have C: ∀(i:Nat) (o:OSk) (x:Src),objs[i]?=O o->o.ro=Za->st.m[i]?=O (O x)->x.k∈st.lent:=by
    intro i o x g1 g2 g3;unfold ny at a;obtain⟨st1,d1,a⟩:=ah a;obtain⟨st2,d2,a⟩:=ah a;obtain⟨j,d3,a⟩:=ah a
    have:j=st:=by
     cases hb:(Gt ([]++oX j.m)&&C1 ([]++kg (FSum.ins ⟨f,vals,objs,outs,D⟩).free j.m) j.lent)with
     |false=>rw[hb]at a;cases a
     |true=>rw[hb]at a;injection a
    subst this;exact Qz d3 i o x g1 g2 (by rw[Nat.zero_add];exact g3)
   obtain⟨ct,r1,r2,r3,r4,r5,r6⟩:=MB hR rfl hE h3 h4 l L J C hro (by rw[<-l1];exact q4) d (.cons (QR h9) .nil) hS;cases r5 with
   |cons r5 _=>exact hK _ _ ⟨ct,r1,r2,r3,r4,r5,r6⟩
  .cases X
 cases x with
 |exit i=>cases W
 |normal=>exact E W
 |ret=>exact E W
def TQ (es bytes:Nat)(z:List Value)(c:AOp)(n:AOp):AC:=
 .seq (.region [⟨O 2, .move (.const (.slice Y 0 0)),Y⟩]) (.seq (.seq (.region [⟨O 3, .move (.tmp 0),Y⟩,⟨O 4,c,Y⟩]) (.cond (.tmp 4) (.seq (.region [⟨O 2,n,Y⟩]) .ret) .skip))
  (.seq (.region [⟨O 5, .buildSlice es 0 z [],Y⟩,⟨O 6, .move (.tmp 0),Y⟩,⟨O 7, .append es bytes (.tmp 5) (.tmp 6),Y⟩,⟨O 2, .move (.tmp 7),Y⟩]) .ret))
def PQ (es bytes:Nat)(z:List Value):AFn:=⟨8,[.tmp 2],TQ es bytes z (.eqv 2 Zb (.tmp 3) (.const (.slice Y 0 0))) (.move (.const (.slice Y 0 0)))⟩
def as4 (es bytes:Nat)(z:List Value):AFn:=⟨8,[.tmp 2],TQ es bytes z (.move (.const (.bool Zb))) (.move (.const (.slice Y 0 0)))⟩
def aa3 (es bytes:Nat)(z:List Value):AFn:=⟨8,[.tmp 2],TQ es bytes z (.move (.const (.bool Za))) (.append es bytes (.const (.slice Y 0 0)) (.tmp 0))⟩
def zu (s:Sh):List Alt:=[⟨.ret,[],⟨[.full 0],[],[.arr Zb s]⟩⟩]
def EP {P:Program}{es bytes:Nat}{z:List Value}{s:Sh}(m:Yr P f=O (PQ es bytes z))
  (u: ∀t:Ad (rc.shs ⟨[.leaf (.list s)],[],[]⟩),mN id ⟨[.leaf (.list s)],[],[]⟩ (KG _ t)=O ([.lst s t],[],[]))
  (w: ∀l:List (El s),ET (as4 es bytes z) ⟨[],[]⟩ [.leaf (.list s)] [] (zu s) .no l=gd (fd (0+dt l) bytes) (O l))
  (A:ET (aa3 es bytes z) ⟨[],[]⟩ [.leaf (.list s)] [] (zu s) .no ([]:List (El s))=gd (fd (0+0) bytes) (O ([]:List (El s)))):
  dh P ⟨f,[.leaf (.list s)],[],zu s,λl:List (El s)=>gd (fd (0+dt l) bytes) (O l)⟩:=by
 refine NI (at':= .no) (tab:=⟨[],[]⟩) (fT.nil P) (aa.nil P) m (λt=>⟨_,u t⟩) λt o vs fs S g d c a k=> ?_
 have r:vs=[.lst s t]:=by
  rw[u t]at d;injection d with d
  injection d with d
  exact d.symm
 subst r;cases k with
 |cons k C=>
 cases C
 have no: ∀q n j (a:List Value),a=[.slice (O q) n j]->∃b,ET ⟨(PQ es bytes z).ntmps,(PQ es bytes z).results,b⟩ ⟨[],[]⟩ [.leaf (.list s)] [] (zu s) .no t=O o/\
   ∀T (_:vd T) Q Z,w8 T b Q (cm.of a) Z->w8 T (PQ es bytes z).body Q (cm.of a) Z:=by
  rintro q n j a rfl;exact⟨_,(w t).trans g,λT _ Q Z h=>h⟩
 cases k with
 | @lst s l b p n j y B D E F H I J=>exact no _ _ _ _ rfl
 | @lstn s q B=>
  cases q with
  |some q=>exact no _ _ _ _ rfl
  |none=>exact⟨_,A.trans g,λT _ Q Z h=>h⟩
end
section
def MG {P:Program}{b:Ad (rc.shs ⟨vals,[],objs⟩)->Option (vz outs)}(h: ∀t,b t=Y):dh P ⟨f,vals,objs,outs,b⟩:=by
 intro B μ Z w j d K m;have⟨c,g,st,t,o,p,v,fs,bs,S',n,q,s,r,u,k,l,a,_⟩:=m;have a:b t=O o:=a;rw[h t]at a;cases a
end
open Go.Ab Go.ChangeShapes Go.WideShapes
section
def XG {P:Program}{d:Ad (rc.shs ⟨vals,[],[]⟩)->Option (vz GU)}(h:dh P ⟨f,vals,[],GU,d⟩){w:World}(k:Re P w){rows:List Row}{args:List Value}{cargs:Array Value}(t:Ad (rc.shs ⟨vals,[],[]⟩))
  (b: ∀r∈rows,∀(i:Nat) (v:Value),r.cells[i]?=O v->∃v',w.cell? ⟨r.c,r.o+i,Y⟩=O v'/\VR (oO rows) v v') (a:F2 (VR (oO rows)) args cargs.toList)
  (n:F2 (VRel (xr (rC w.heap.size rows))) vs args) (l:(ek (ny [] 0 [] ⟨vals,[],[]⟩ vs) λst=>Q0 _ st.ls)=O t) (m:d t=O Za):
  Calls P f cargs w λe w'=>e= .returned (.bool Za)/\Go.RowKit.Below w.heap.size w w':=by
 have⟨st,g,j⟩:=ah l;exact ae1 h k b a n g j m
end
section
def GW {α δ:Type}{f:α->Option (α⊕δ)}{n:Nat}(F:Nat->α){c:δ}(o:n<9223372036854775808)(j: ∀i,i<n->f (F i)=O (.inl (F (i+1))))(h:f (F n)=O (.inr c)):am f cv (F 0)=O c:=by
 have a: ∀k i m,i+k=n->k<m->am f m (F i)=O c:=by
  intro k;induction k with
  |zero=>
   intro i m d g;obtain⟨m,rfl⟩: ∃b,m=b+1:=⟨m-1,V1⟩
   have:i=n:=by omega
   subst this;show(f (F i)).bind _=_;rw[h];rfl
  |succ k l=>
   intro i m d g;obtain⟨m,rfl⟩: ∃b,m=b+1:=⟨m-1,V1⟩
   show(f (F i)).bind _=_;rw[j i V1];exact l (i+1) m V1 V1
 exact a n 0 cv V1 Zm
def eZ {γ δ:Type}{f:(Int×γ)->Option ((Int×γ)⊕δ)}{n:Nat}(F:Nat->γ){c:δ}(b:n<9223372036854775808)(d: ∀i,i<n->f ((i:Int),F i)=O (.inl (((i+1:Nat):Int),F (i+1))))(a:f ((n:Int),F n)=O (.inr c)):am f cv (0,F 0)=O c:=
 GW (λi=>((i:Int),F i)) b d a
def pi {δ:Type}{f:Int->Option (Int⊕δ)}{n:Nat}{c:δ}(b:n<9223372036854775808)(d: ∀i:Nat,i<n->f (i:Int)=O (.inl ((i+1:Nat):Int)))(a:f (n:Int)=O (.inr c)):am f cv 0=O c:=
 GW (λi=>(i:Int)) b d a
def I2 {α γ δ:Type}{f:(Int×γ)->Option ((Int×γ)⊕δ)}{l:List α}(g:γ->α->γ)(s:γ){c:γ->δ}(j:dt l<9223372036854775807)
  (d: ∀(i:Nat) (h:i<dt l) s,f ((i:Int),s)=O (.inl (((i+1:Nat):Int),g s l[i]))) (b: ∀s,f ((dt l:Int),s)=O (.inr (c s))):am f cv (0,s)=O (c (l.foldl g s)):=by
 have h:=eZ (f:=f) (n:=dt l) (λi=>(l.take i).foldl g s) (c:=c (l.foldl g s)) V1 ?_ ?_
 .exact h
 .intro i a;rw[d i a,List.take_succ_eq_append_getElem a,List.foldl_append];rfl
 .rw[b,List.take_length]
def OS (n:Int):IntKind.u64.wrap n=n % 18446744073709551616:=by rfl
def qW {n:Nat}(h:n<9223372036854775808):IntKind.u64.wrap (n:Int)=n:=by
 rw[OS];omega
def bt {n:Int}(h:0<=n/\n<18446744073709551616):IntKind.u64.wrap n=n:=by
 rw[OS];omega
def Zk {n:Int}(h:0<=n/\n<18446744073709551616:=by omega):IntKind.u64.wrap n=n:=bt h
def qV {l:Zd}(h:i<dt l):rd l (i:Int)=O (l.getD i 0):=by
 rw[cg h,List.getD_eq_getElem?_getD,List.getElem?_eq_getElem h];rfl
def br {k n:Nat}(h:k<n):ix (k:Int) n=O k:=by
 unfold ix;rw[zB (show(0:Int)<=k by omega),zB (show(k:Int)<n by omega)];rfl
def eh {a b:Int}{n:Nat}(h:0<=a/\a<=b/\b<=n):dv a b n=Za:=by
 unfold dv;rw[zB h.1,zB h.2.1,zB h.2.2];rfl
def Zl {a b:Int}{n:Nat}(h:0<=a/\a<=b/\b<=n:=by omega):dv a b n=Za:=eh h
def Wu {a b:Int}(h:0<=a):Int.tdiv a b=a / b:=Int.tdiv_eq_ediv_of_nonneg h
end
end Go.V
