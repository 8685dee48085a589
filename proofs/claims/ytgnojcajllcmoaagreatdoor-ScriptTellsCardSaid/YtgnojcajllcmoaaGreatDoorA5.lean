/- A part of the proof. No condition. -/
import Derived.Test.YtgnojcajllcmoaaGreatDoorA4
import Derived.Test.YtgnojcajllcmoaaGreatDoorA2
import Derived.IntWalk
import Derived.KernelRfl
import Derived.WideKeyArr2
import Derived.RowKit
set_option linter.all false
namespace Go.V
open Go.Ab
open Option renaming some->O,none->Y
open Bool renaming true->Za,false->Zb
open Decidable renaming decide->Zc
open List renaming all_eq_true->bo
open List renaming length_eq_zero_iff->dy
open List renaming mem_append->cI
open List renaming mem_cons->aw
open List renaming mem_flatMap->dl
open List renaming mem_range->cJ
open List renaming mem_singleton->cc
open Option renaming isSome_iff_exists->eL
open List renaming length->hW
open Option renaming bind->im
variable {c c' c0 c1:Ctx}{ea ea':cy}{e:db}{vs:List VV}{op:AOp}{f:FuncId}{v:Value}{chk:HT}{vals:List Sk}{sk:rN}{objs:List OSk}{fx mov:List Nat}{bs fs:List Blk}{as:List Value}{tab:Tab}{Z Z1:Hp}{x:Ab.Blk}{it:LItem}{outs:List Alt}{at':AT}{i:Nat}{S2:ak}{st:DSt}{a b:Int}
section
open List renaming getElem?_eq_getElem->aB,all_eq_true->aD,length_append->bB
def Lx : ∀{js:List Nat} {bs:List Blk} {S S1:ak},hW js=hW bs->∃S2,yo js bs S1=O S2
 |[],[],_,S1,_=>⟨S1,rfl⟩
 |[],_::_,_,_,h=>by simp at h
 |_::_,[],_,_,h=>by simp at h
 |j::js,b::bs,S,S1,h=>by
  have⟨S2,d⟩:=Lx (js:=js) (bs:=bs) (S:=S) (S1:=kR S1 j b) V8;exact⟨S2,d⟩
theorem OA {f:Nat->Nat}: ∀{os:List OSk} {ls rest:List Leaf} {bs:List Blk},E7 f os ls=O (bs,rest)->(∀o,o∈os->o.ro=Zb)->∀b,b∈bs->b.dim≠Y->b.frozen=Zb
 |[],ls,rest,bs,h,_,b,hb,_=>by
  simp only[E7]at h
  grind
 |o::os,ls,rest,bs,h,m,b,hb,k=>by
  simp only[E7]at h;obtain⟨p,d,h⟩:=ai h;obtain⟨q,n,h⟩:=ai h;injection h with h
  injection h with r w
  subst r;rcases aw.1 hb with hb|hb
  .subst hb;have j:=m o List.mem_cons_self;cases o with
   |dead=>
    simp only[Qs]at d;injection d with d
    rw[<-d]at k;exact(k rfl).elim
   |cells u ro l=>
    simp only[Qs]at d;have⟨v,t,g⟩:=ai d;injection g with g
    rw[<-g];exact j
   |arr ro s=>
    cases ls with
    |nil=>simp[Qs]at d
    |cons x ls=>
     simp only[Qs]at d;have⟨v,t,g⟩:=ai d;injection g with g
     rw[<-g];exact j
  .exact OA n (λo j=>m o<|List.mem_cons_of_mem _ j) b hb k
def Ve {f:Nat->Nat}{ls:List Leaf}(h:mY f sk ls=O (vs,fs,bs))(d:sk.noRo=Za):(∀b,b∈fs->b.dim≠Y->b.frozen=Zb)/\∀b,b∈bs->b.dim≠Y->b.frozen=Zb:=by
 unfold rN.noRo at d;rw[Bool.and_eq_true,aD,aD]at d;unfold mY at h;obtain⟨p,s,h⟩:=ai h;obtain⟨q,l,h⟩:=ai h;obtain⟨r,m,h⟩:=ai h;split at h
 .injection h with h
  injection h with n h
  injection h with j k
  subst j;subst k;exact⟨OA (rest:=q.2) l λo g=>by simpa using d.1 o g,OA (rest:=r.2) m λo g=>by simpa using d.2 o g⟩
 cases h
theorem UN (h:B1 vs fs bs=Zb):QI vs=Zb/\(∀b,b∈fs->alB b=Zb)/\∀b,b∈bs->alB b=Zb:=by
 unfold B1 at h
 grind
def WB {l:List Blk}(h:(ag l i).dim≠Y):ag l i∈l:=by
 have d:=lM h;rw[yk<|aB d];exact List.getElem_mem d
theorem RM {ctf:Ctx}{js:List Nat}{Sa Sb S1:ak}(M:Rel c)(F:Le c ctf)(z:Rel ctf)(N:F2 (VRel ctf) vs as)(D:B1 vs fs bs=Zb)
  (Q: ∀b,b∈fs->b.dim≠Y->b.frozen=Zb) (H: ∀b,b∈bs->b.dim≠Y->b.frozen=Zb) (h:hW Sa=hW c.S) (l:hW Sb=hW c.S) (B:yo js fs Sa=O S1) (C:yo js fs Sb=O S2) (q:js.Nodup) (P: ∀j,j∈js->j<hW c.S)
  (A:ctf.S=S1++bs) (T: ∀k,k<hW c.S->ctf.μ k=c.μ k)
  (r: ∀k,k<hW c.S->k∉js->(ag Sa k=ag Sb k/\((ag Sa k).dim≠Y->ag Sa k=ag c.S k))∨(ag Sb k=ag c.S k/\ag Sa k=(ag c.S k).freeze))
  (s: ∀k,k<hW c.S->k∉js->(ag Sa k).dim≠Y->∀b y,c.μ k=O b->c.Z.m b=O y->ctf.Z.m b=O y):
  Le c ⟨ctf.μ,S2++bs,ctf.Z,ctf.fb⟩/\Rel ⟨ctf.μ,S2++bs,ctf.Z,ctf.fb⟩/\F2 (VRel ⟨ctf.μ,S2++bs,ctf.Z,ctf.fb⟩) vs as:=by
 have⟨K,a2,L⟩:=UN D;have⟨U,I,V,W⟩:=kq B;have⟨q1,J,X,q4⟩:=kq C;refine thaw M F z N K (by rw[A,bB,bB,I,J,h,l]) T λk=> ?_
 by_cases g:k<hW c.S
 .have w:ag (S2++bs) k=ag S2 k:=nS (by rw[J,l];exact g);have t:ag ctf.S k=ag S1 k:=by rw[A];exact nS (by rw[I,h];exact g)
  by_cases o:k∈js
  .obtain⟨i,E,e⟩:=List.mem_iff_getElem.1 o;have p:i<hW fs:=by rw[<-U];exact E
   have e1:=W q i k _ (by rw[aB E,e]) (aB p) (by rw[h];exact g);have e2:=q4 q i k _ (by rw[aB E,e]) (aB p) (by rw[l];exact g)
   grind
  .rw[w,t,X k o,V k o];rcases r k g o with⟨n,u⟩|⟨n,u⟩
   .exact .inl ⟨n.symm,λd=> .inr ⟨g,u d,s k g o d⟩⟩
   .exact .inr ⟨g,n,u,λd=>s k g o (by rw[u,gh];exact d)⟩
 .have n:k=hW c.S+(k-hW c.S):=by omega
  have w:ag (S2++bs) k=ag bs (k-hW c.S):=by
   rw[n,<-l,<-J,tU]
   congr 1
   omega
  have t:ag ctf.S k=ag bs (k-hW c.S):=by
   rw[A,n,<-h,<-I,tU]
   congr 1
   omega
  refine .inl ⟨by rw[w,t],λd=> .inl ?_⟩;rw[t]at d⊢;exact⟨H _ (WB d) d,L _<|WB d⟩
theorem Po {vals:List VV}{F:DSt}{w:List Blk}(L:Rel c)(h0:c0=lh c st w)(hE:Entered c c0 objs st w)(P:Le c0 c')(M:Rel c')
  (A:Rk st.m=Za) (D:MO c.S (lY objs st.m)=Za) (r:(tY st.m).Nodup) (t: ∀(i:Nat) (o:OSk) (x:Src),objs[i]?=O o->o.ro=Za->st.m[i]?=O (O x)->x.k∈st.lent)
  (E:sk.noRo=Za) (hd:nN c'.S (hW objs) (vF objs 0) sk vals=O F) (U:mY (yL st.m (hW objs)<|hW c.S) sk F.ls=O (vs,fs,bs)) (hf:F2 (VRel c') vals as)
  (u:yo (lY objs st.m) fs (cond (B1 vs fs bs) (Fa st.lent c.S) c.S)=O S2):
  ∃ct:Ctx,ct.Z=c'.Z/\ct.S=S2++bs/\Le c ct/\Rel ct/\F2 (VRel ct) vs as/\vP (lY objs st.m) c ct:=by
 have⟨V,q2,q3,q4⟩:=kq u;have⟨Sf,n⟩:=Lx (S:=c.S) (S1:=Fa st.lent c.S) V;have⟨ct,W,J,e3,X,e5,e6,e7,e8⟩:=am6 L h0 hE P M A D r t E hd U hf n
 have z: ∀l:Ctx,l.Z=ct.Z->(∀k,(ag l.S k).dim=(ag ct.S k).dim)->vP (lY objs st.m) c l:=by
  intro l K h2 k q H p;have⟨_,I,T,_⟩:=kq n;have hl:hW (Fa st.lent c.S)=hW c.S:=(wM st.lent c.S).1;refine⟨?_,λb hm=> ?_⟩
  .rw[h2,J,nS (by rw[I,hl];exact q),T k H,(wM st.lent c.S).dim];exact p
  .cases B:(ag c.S k).dim with
   |none=>exact(p B).elim
   |some d=>
    have⟨y,_,_,hy,_⟩:=L.block B hm
    grind
 cases s:B1 vs fs bs with
 |true=>
  grind
 |false=>
  rw[s,zD]at u;have⟨z1,z2⟩:=Ve U E;have g:=wM st.lent c.S
  have⟨r1,r2,r3⟩:=RM L e5 e6 e7 s z1 z2 g.1 rfl n u (wW r) (λj hj=>(mF D hj).1) J X (λk q H=>by
   rcases g.2 k with h|h
   .exact .inl ⟨h,λ_=>h⟩
   grind) (λk q H p=>e8 k q H (by rw[<-g.dim];exact p))
  refine⟨⟨ct.μ,S2++bs,ct.Z,ct.fb⟩,W,rfl,r1,r2,r3,z _ rfl λk=> ?_⟩;have⟨_,I,T,p4⟩:=kq n;rw[J];show(ag (S2++bs) k).dim=(ag (Sf++bs) k).dim;by_cases q:k<hW c.S
  .rw[nS (S:=S2) (by rw[q2,s];exact q),nS (S:=Sf) (by rw[I,g.1];exact q)];by_cases Q:k∈lY objs st.m
   .obtain⟨i,N,e⟩:=List.mem_iff_getElem.1 Q;have C:i<hW fs:=by rw[<-V];exact N
    have⟨_,_,_,t4⟩:=kq u
    rw[t4 (wW r) i k _ (by rw[aB N,e]) (aB C) q,
     p4 (wW r) i k _ (by rw[aB N,e]) (aB C) (by rw[g.1];exact q)]
   .obtain⟨_,_,t3,_⟩:=kq u;rw[t3 k Q,T k Q,g.dim]
  .have K:k=hW c.S+(k-hW c.S):=by omega
   have g1:ag (S2++bs) k=ag bs (k-hW c.S):=by
    have⟨_,t2,_,_⟩:=kq u;rw[K,<-t2,tU]
    congr 1
    omega
   have g2:ag (Sf++bs) k=ag bs (k-hW c.S):=by
    rw[K,<-g.1,<-I,tU]
    congr 1
    omega
   rw[g1,g2]
theorem aQ7 {vals:List VV}(A:Rel c)(r:Rel c')(M:Within c c1 fx mov)(s:Rel c1)(w:Le c1 c')
  (n:MO c.S fx=Za) (o:sk.noRo=Za) (B:nN c'.S (hW c.S) fx sk vals=O st) (C:mY id sk st.ls=O (vs,fs,bs)) (K:F2 (VRel c') vals as) (t:yo fx fs (ke fx mov (B1 vs fs bs) 0 c.S)=O S2):
  ∃ct:Ctx,ct.Z=c'.Z/\ct.S=S2++bs/\Le c ct/\Rel ct/\F2 (VRel ct) vs as:=by
 have⟨Q,X,q3,q4⟩:=kq t;have⟨Sf,d⟩:=Lx (S:=c.S) (S1:=ke fx mov Za 0 c.S) Q;have⟨ct,V,z,W,E,F,H,I,J⟩:=ba1 A r M s w n (Y9 o) B C K d;cases g:B1 vs fs bs with
 |true=>
  grind
 |false=>
  rw[g]at t;have⟨T,U⟩:=Ve C o;have⟨q,_⟩:=qX B;have m:=qV q;rw[List.nodup_append]at m;have⟨_,D,P,_⟩:=kq d;rw[mS]at D
  have⟨r1,r2,r3⟩:=RM A F H I g T U mS mS d t m.1 (λj L=>(mF n L).1) z E (λk l p=>by
   rw[mR l,mR l,Nat.zero_add,ll p];cases lV k mov with
   |true=>
    refine .inl ⟨rfl,λh=> ?_⟩;cases N:(ag c.S k).frozen with
    |true=>rfl
    |false=>rw[N]at h;exact(h rfl).elim
   |false=>exact .inr ⟨rfl,rfl⟩) (λk l p u=>(J k l p (by rw[z,nS (by rw[D];exact l),P k p];exact u)).2)
  grind
end
section
open List renaming mem_cons_self->aB
open Nat renaming eq_of_beq_eq_true->aD
def au5 (l:List Alt)(s:wF l):Option (Σ a:Alt,a.Ty):=au4 l s λa u=>O ⟨a,u⟩
def SW {β:Type}: ∀(l:List Alt) (s:wF l) (k:(a:Alt)->a.Ty->Option β),au4 l s k=im (au5 l s) λp=>k p.1 p.2
 |[],_,_=>rfl
 |[a],t,k=>rfl
 |a::b::r, .inl t,k=>rfl
 |a::b::r, .inr s,k=>SW (b::r) s k
def FSum.spec (F:FSum):Ab.SN:=λg Z K=> ∃(c:Ctx) (vals:List VV) (st:DSt) (t:BC F.ins.shs) (o:wF F.outs) (p:Σ a:Alt,a.Ty) (v:VV) (fs bs:List Blk) (S':ak),
 c.Z=Z/\Rel c/\F2 (VRel c) vals g/\nN c.S 0 [] F.ins vals=O st/\Ut F.ins.shs st.ls=O t/\Rk st.m=Za/\MO c.S (lY F.objs st.m)=Za/\F.run t=O o/\au5 F.outs o=O p/\
 mY (yL st.m (hW F.objs)<|hW c.S) p.1.sk (Ni p.1.sk.shs p.2)=O ([v],fs,bs)/\yo (lY F.objs st.m) fs (cond (B1 [v] fs bs) (Fa st.lent c.S) c.S)=O S'/\
 ∀r Z',(∃d:Ctx,d.Z=Z'/\d.S=S'++bs/\Le c d/\Rel d/\VRel d v r/\vP (lY F.objs st.m) c d)->K r Z'
def FSum.mono (F:FSum):aY5 F.spec:=by
 rintro k Z K K' B ⟨c,vals,st,t,o,p,v,fs,bs,S',l,m,n,q,s,u,w,z,A,d,g,j⟩;exact⟨c,vals,st,t,o,p,v,fs,bs,S',l,m,n,q,s,u,w,z,A,d,g,λr Z' h=>B r Z'<|j r Z' h⟩
def Inl.spec (I:Inl):Ab.SN:=λd Z K=> ∃(β:Type) (y:β) (c:Ctx) (vals:List VV) (k:VV->ak->Option β),c.Z=Z/\Rel c/\F2 (VRel c) vals d/\I.run β vals c.S k=O y/\∀r Z',jd c (KM<|hW c.S) k y r Z'->K r Z'
def Inl.mono (I:Inl):aY5 I.spec:=by
 rintro d Z K K' o ⟨β,y,c,vals,k,g,j,l,m,n⟩;exact⟨β,y,c,vals,k,g,j,l,m,λr Z' h=>o r Z'<|n r Z' h⟩
def gc (tab:Tab):Ab.i7:=λf d Z K=>(∃F,F∈tab.fs/\F.f=f/\F.spec d Z K)∨∃I,I∈tab.is/\I.f=f/\I.spec d Z K
def bz (tab:Tab):we<|gc tab:=by
 rintro f d Z K K' k (⟨F,g,h,j⟩|⟨F,g,h,j⟩)
 .exact .inl ⟨F,g,h,F.mono d Z K K' k j⟩
 exact .inr ⟨F,g,h,F.mono d Z K K' k j⟩
def dv (P:Program)(F:FSum):Prop:=Sim P F.f F.spec
def NR (P:Program)(I:Inl):Prop:=Sim P I.f I.spec
def gi (P:Program)(tab:List FSum):Prop:= ∀F,F∈tab->dv P F
def ad (P:Program)(d:List Inl):Prop:= ∀I,I∈d->NR P I
def ad.nil (P:Program):ad P []:=λF h=>by cases h
def ad.cons {P:Program}{F:Inl}{tab:List Inl}(h:NR P F)(d:ad P tab):ad P<|F::tab:=λG hG=>by
 rcases aw.1 hG with rfl|hG
 .exact h
 .exact d G hG
def gi.nil (P:Program):gi P []:=λF h=>by cases h
def gi.cons {P:Program}{F:FSum}{tab:List FSum}(h:dv P F)(d:gi P tab):gi P<|F::tab:=λG hG=>by
 rcases aw.1 hG with rfl|hG
 .exact h
 .exact d G hG
def GU {P:Program}(h:gi P tab.fs)(o:ad P tab.is)(f:FuncId):Sim P f<|gc tab f:=by
 rintro B μ Z w g d K (⟨F,j,k,l⟩|⟨F,j,k,l⟩) m n
 .subst k;exact h F j B μ Z w g d K l m n
 subst k;exact o F j B μ Z w g d K l m n
theorem U1 {β:Type}{c:Ctx}{k:VV->ak->Option β}{y:β}{f:Nat}{args:List VV}{as:List Value}(B:Rel c)(C:F2 (VRel c) args as): ∀{tab:List FSum},Oi tab f args c.S k=O y->(λf args Z K=> ∃F,F∈tab/\F.f=f/\F.spec args Z K:Ab.i7) f as c.Z (jd c (wK tab f args c.S) k y)
 |[],h=>by cases h
 |F::r,h=>by
  have next:Oi r f args c.S k=O y->wK (F::r) f args c.S=wK r f args c.S->(λf args Z K=> ∃G,G∈F::r/\G.f=f/\G.spec args Z K:Ab.i7) f as c.Z (jd c (wK (F::r) f args c.S) k y):=by
   intro n u;have⟨G,z,w,A⟩:=U1 B C n
   grind
  simp only[Oi]at h;cases j:Nat.beq F.f f with
  |false=>
   rw[j,zD]at h;exact next h (by simp only[wK,j,zD])
  |true=>
   rw[j,zC]at h;cases l:nN (Gw F.vals args c.S) 0 [] F.ins args with
   |none=>
    rw[l]at h;exact next h (by simp only[wK,j,zC,l])
   |some st=>
    rw[l]at h;simp only at h;cases s:Ut F.ins.shs st.ls with
    |none=>
     rw[s]at h;exact next h (by simp only[wK,j,zC,l,s])
    |some t=>
     rw[s]at h;simp only at h;have⟨n,u⟩:=az h;rw[Bool.and_eq_true]at n;have g:wK (F::r) f args c.S=lY F.objs st.m:=by simp only[wK,j,zC,l,s]
     rw[g];unfold aZ2 at u;have⟨o,z,w⟩:=ai u;rw[SW]at w;have⟨p,A,q⟩:=ai w;have d:=ON F.vals args c.S;split at q
     .rename_i v fs bs P;split at q
      .rename_i S' N;refine⟨F,aB,aD j,⟨c.μ,Gw F.vals args c.S,c.Z,c.fb⟩,args,st,t,o,p,v,fs,bs,S',rfl,d.rel B,VRel.frames d.le C,l,s,n.1,n.2,z,A,P,N, ?_⟩;rintro Q Z' ⟨D,E,H,I,J,L,M⟩;exact⟨v,D,E,d.le.trans I,J,(d.calm _).trans M d.le,L,by rw[H];exact q⟩
      .cases q
     .cases q
theorem U2 {β:Type}{c:Ctx}{k:VV->ak->Option β}{y:β}{f:Nat}{args:List VV}{as:List Value}(g:Rel c)(j:F2 (VRel c) args as): ∀{l:List Inl},YU l f args c.S k=O y->∃I,I∈l/\I.f=f/\I.spec as c.Z (jd c (KM<|hW c.S) k y)
 |[],h=>by cases h
 |I::r,h=>by
  simp only[YU]at h;cases d:Nat.beq I.f f with
  |false=>
   rw[d,zD]at h;have⟨J,m,n,o⟩:=U2 g j h
   grind
  |true=>
   rw[d,zC]at h;exact⟨I,aB,aD d,β,y,c,args,k,rfl,g,j,h,λr Z' h=>h⟩
def U3 {β:Type}{k:VV->ak->Option β}{y:β}{f:Nat}{args:List VV}(d:Rel c)(j:F2 (VRel c) args as)(h:YV tab f args c.S k=O y):gc tab f as c.Z<|jd c (Td tab f args c.S) k y:=by
 unfold YV at h;unfold Td;cases g:aP7 tab.is f with
 |false=>
  rw[g,zD]at h;rw[zD];exact .inl (U1 d j h)
 |true=>
  rw[g,zC]at h;rw[zC];exact .inr<|U2 d j h
theorem vE {β:Type}{k:VV->ak->Option β}{y:β}(d:Rel c)(g:ba c e ea)(h:K2 tab op e c.S k=O y):cj (gc tab) op ea c.Z<|jd c (JB tab op e c.S) k y:=by
 cases op<;>simp only[K2]at h
 case move x=>exact aR5 d g h
 case pick t a b=>
  split at h
  .rename_i p A;exact aT4 d g A h
  cases h
 case alloc es z=>exact au3 d h
 case box es x=>exact bg9 d g h
 case build z ps=>
  split at h
  .rename_i F w;exact aw2 d g w h
  cases h
 case buildSlice es ln z ps=>
  split at h
  .rename_i F w;exact Ql d g w h
  cases h
 case load x=>exact aQ8 d g h
 case loadN n x=>exact aB7 d g h
 case store n a x=>exact aH2 d g (λq u=>Ov _ u) h
 case nilCheck x=>exact VH d g h
 case bin op x z=>exact bg4 d g h
 case eqv C neg x z=>
  split at h
  .rename_i p A;exact bi2 d g A h
  cases h
 case eqCells neg ks x z=>
  split at h
  .rename_i a b j r;split at h
   .rename_i p A;exact XC d g j r A h
   cases h
  cases h
 case un op x=>exact bu7 d g h
 case conv C x=>
  split at h
  .rename_i n H;exact aN2 d g H h
  cases h
 case mkFunc f a b=>exact am9 d g h
 case makeSlice es bytes z l m=>exact aR3 d g h
 case slice es x lo hi=>exact aH1 d g h
 case sliceStr x lo hi=>exact WG d g h
 case sliceArr es n x lo hi=>exact WF d g h
 case off n x=>exact bl0 d g h
 case idx es x i=>exact bj3 d g h
 case idxA ln es x i=>exact aQ3 d g h
 case fieldV o n agg x=>
  split at h
  .rename_i F w;exact aj7 d g w h
  cases h
 case indexV ln es agg x i=>
  split at h
  .rename_i F C i j r;exact am3 d g j r h
  cases h
 case indexS x i=>
  split at h
  .rename_i l C i j r;exact am2 d g j r h
  cases h
 case extract x i=>
  split at h
  .rename_i vs w;exact XE d g w h
  cases h
 case call f xs=>exact U3 d (M5 g xs) h
 case callv x xs=>
  have B:=cm g x;split at h
  .rename_i f a b K;rw[K]at B
   have: ∃D E,ea.ev x= .func (.func f) D E/\F2 (VRel c) a D.toList/\F2 (VRel c) b E.toList:=by
    generalize ea.ev x=M at B;cases B
    grind
   have⟨D,E,j,r,L⟩:=this;have:=U3 d ((r.append<|M5 g xs).append L) h;simp only[cj,j,JB,K];exact this
  cases h
 case append es bytes s x=>exact Xh d g (λq u=>Ov _ u) h λh=>ah2 d g (λq u=>Ov _ u) h
 case stuck=>cases h
 case capN x=>
  split at h
  .rename_i B;exact aM7 d g B h
  cases h
 case sliceX x hi mx=>exact ap7 d g h
 case newB=>exact aR7 d h
 case strOf x=>exact aH3 d g h
 case appendZ es bytes z s x=>exact Xi d g (λq u=>Ov _ u) h
 case copy es s x=>exact aN3 d g (λq u=>Ov _ u) h
 case len x=>
  split at h
  .cases h
  rename_i I;split at h
  .rename_i n H;exact bk2 d g I H h
  cases h
 case most x z=>
  split at h
  .rename_i C a J b j r;exact aR4 d g j r h
  cases h
 case least x z=>
  split at h
  .rename_i C a J b j r;exact aA8 d g j r h
  cases h
end
section
open Bool renaming and_eq_true->aD,or_eq_true->cK,false_or->cL,not_true->cM
open List renaming mem_cons_of_mem->cB,mem_cons->cN,mem_cons_self->cO,map_congr_left->cS
open Nat renaming beq->aB,eq_of_beq_eq_true->bB,lt_of_lt_of_le->bD,beq_refl->cD,le_of_ble_eq_true->cP,le_refl->cQ,le_trans->cR
def qN {β:Type}(c:Ctx)(k:db->ak->Option β)(y:β):cy->Hp->Prop:=λea Z'=> ∃d c',c'.Z=Z'/\Le c c'/\Rel c'/\ba c' d ea/\k d c'.S=O y
def qN.of {β:Type}{k:db->ak->Option β}{y:β}(h:Le c c1){Z':Hp}(m:qN c1 k y ea Z'):qN c k y ea Z':=by
 have⟨d,c',g,j,l⟩:=m;exact⟨d,c',g,h.trans j,l⟩
def sD {β:Type}(c:Ctx)(k:AExit->db->ak->Option β)(y:β):AExit->cy->Hp->Prop:=λx=>qN c (k x) y
section
variable {β:Type} {tab:Tab} {y:β}
theorem OC : ∀{ops:List AOper} {c:Ctx} {e:db} {ea:cy} {k:db->ak->Option β},Rel c->ba c e ea->Gs tab ops e c.S k=O y->Ab.BB (gc tab) (qN c k y) ops ea c.Z
 |[],c,e,ea,k,z,m,h=>⟨e,c,rfl,Le.refl c,z,m,h⟩
 |o::r,c,e,ea,k,z,m,h=>by
  have s: ∀j,ba c j ea->K2 tab o.op j c.S (λv S'=>Gs tab r (putO j o.dst v) S' k)=O y->cj (gc tab) o.op ea c.Z λv Z'=>Ab.BB (gc tab) (qN c k y) r (ea.putO o.dst v) Z':=by
   intro j g n;refine lq (bz tab) (λv Z' I=> ?_)<|vE z g n;have⟨K,c',D,B,E,_,F,H⟩:=I;subst D;exact Ab.EY (bz tab) (λea' Z'' q=>q.of B) _ _ _ (OC E ((g.frame B).putO F) H)
  have skip: ∀j,ba c j ea->Gs tab r (putO j o.dst<|.tup []) c.S k=O y->Ab.BB (gc tab) (qN c k y) r (ea.putO o.dst undef) c.Z:=λj g n=>OC z (g.putO<|.tup .nil) n
  simp only[Gs]at h;simp only[Ab.BB];split at h
  .rename_i A;have:wanted o ea=Za:=by simp only[wanted,A]
   rw[zE this];exact s e m h
  .rename_i t w A;split at h
   .rename_i p q;have l:=m t;rw[q]at l;have l:=l.bool_inv;have J:wanted o ea=(p==w):=by simp only[wanted,A,l]
    have C:ba c (rF e t<|.bool p) ea:=by
     have:=m.put (d:=t)<|VRel.bool (c:=c) p;intro i;have n:=this i;unfold cy.put at n
     grind
    grind
   .rename_i q;have l:=m t;rw[q]at l
    have J:wanted o ea=Zb:=by
     simp only[wanted,A];generalize ea t=u at l;cases l;rfl
    grind
   .cases h
def at6 :Value->Option Nat
 | .pointer (O a)=>O a.block
 | .slice (O a) _ _=>O a.block
 |_=>Y
def FF :AOp->Operand
 | .load x| .loadN _ x| .sliceArr _ _ x _ _| .slice _ x _ _=>x
 |_=> .global 0
theorem OZ {Z':Hp}(q:op.isLoad=Za)(h:op.run ea Z=O (v,Z1))(d: ∀b,at6 (ea.ev<|FF op)=O b->Z'.m b=Z.m b):op.run ea Z'=O (v,Z'):=by
 cases op<;>try(cases q;done)
 case load x=>
  simp only[AOp.run,FF]at h d⊢;split at h
  .rename_i b o j;rw[j]at d;rw[d b rfl];split at h
   .rename_i g p;cases k:g.cells[o]? with
    |none=>rw[k]at h;cases h
    |some u=>
     grind
   cases h
  cases h
 case loadN n x=>
  simp only[AOp.run,FF]at h d⊢;split at h
  .rename_i b o j;rw[j]at d;rw[d b rfl];split at h
   .rename_i g p;cases k:rQ g o n with
    |none=>rw[k]at h;cases h
    |some u=>
     grind
   cases h
  cases h
 case slice es x lo hi=>
  cases lo with
  |none=>cases q
  |some l=>
   simp only[AOp.run,FF]at h d⊢;split at h
   .rename_i a w r j;rw[j]at d
    have t:EE Z' es a (O l)=EE Z es a (O l):=by
     cases a with
     |none=>rfl
     |some a=>simp only[EE];rw[d a.block rfl]
    grind
   cases h
 case sliceArr es n x lo hi=>
  simp only[AOp.run,FF]at h d⊢;split at h
  .rename_i b o j;rw[j]at d;rw[d b rfl];split at h
   .rename_i g p;split at h
    .rename_i k;rw[zE k];split at h
     .split at h
      .split at h
       .rename_i s
        grind
       cases h
      cases h
     cases h
    cases h
   cases h
  cases h
def aB9 {q:Option Addr}(j:op.isLoad=Za)(d:ea.ev (FF op)= .slice q 0 0)(h:op.run ea Z=O (v,Z1))(Z':Hp):op.run ea Z'=O (v,Z'):=by
 cases op<;>try(cases j;done)
 case load x=>
  simp only[FF]at d;simp only[AOp.run,d]at h;cases h
 case loadN n x=>
  simp only[FF]at d;simp only[AOp.run,d]at h;cases h
 case slice es x lo hi=>
  simp only[FF]at d;simp only[AOp.run,d,beq_self_eq_true,Bool.true_or,if_true]at h⊢;split at h
  .split at h
   .injection h with h
    injection h with g k
    subst g;rfl
   cases h
  cases h
 case sliceArr es n x lo hi=>
  simp only[FF]at d;simp only[AOp.run,d]at h;cases h
structure LeV (c c':Ctx):Prop where
 len:hW c.S<=hW c'.S
 al: ∀k d,k<hW c.S->(ag c'.S k).dim=O d->(ag c.S k).dim=O d/\c'.μ k=c.μ k
 ln: ∀k d b y,k<hW c.S->(ag c'.S k).dim=O d->c.μ k=O b->c.Z.m b=O y->∃y',c'.Z.m b=O y'/\hW y'.cells=hW y.cells
 rd: ∀b y,c.Z.m b=O y->¬c.mut b->c'.Z.m b=O y/\¬c'.mut b
def LeV.trans {a b:Ctx}(h:LeV a b)(k:LeV b c):LeV a c:=by
 refine⟨cR h.len k.len,λq d g m=> ?_,λq d x y g m r o=> ?_,λx y o z=> ?_⟩
 .obtain⟨j,l⟩:=k.al q d (bD g h.len) m;have⟨p,n⟩:=h.al q d g j;exact⟨p,l.trans n⟩
 .obtain⟨j,l⟩:=k.al q d (bD g h.len) m;have⟨p,n⟩:=h.al q d g j;have⟨A,s,t⟩:=h.ln q d x y g j r o;have⟨B,u,w⟩:=k.ln q d x A (bD g h.len) m (n.trans r) s;exact⟨B,u,w.trans t⟩
 have⟨j,l⟩:=h.rd x y o z;exact k.rd x y j l
def Le.toV (h:Le c c'):LeV c c':=⟨h.len,h.al,h.ln,h.rd⟩
def LeV.refl (c:Ctx):LeV c c:=(Le.refl c).toV
def IU.frameV (h:LeV c c'){k p n:Nat}{d:Nat×Nat}{a:Value}(o:k<hW c.S)(m:(ag c'.S k).dim=O d)(w:IU c k p n d a):IU c' k p n d a:=by
 have⟨C,l⟩:=h.al k d o m;rcases w with⟨rfl,rfl,rfl,g,A⟩|⟨b,q,y,rfl,g,r,s,z,t⟩
 .exact .inl ⟨rfl,rfl,rfl,l.trans g,A⟩
 have⟨B,j,u⟩:=h.ln k d b y o m g z;exact .inr ⟨b,q,B,rfl,l.trans g,r,s,j,by rw[u];exact t⟩
theorem VRel.frameV {c c':Ctx}(h:LeV c c'): ∀{v:VV} {a:Value},VRel c v a->VRel c' v a
 |_,_, .undef a=> .undef a
 |_,_, .bool b=> .bool b
 |_,_, .int k n=> .int k n
 |_,_, .str A=> .str A
 |_,_, .nilp=> .nilp
 |_,_, .nils=> .nils
 |_,_, .nilf=> .nilf
 |_,_, .ptr o g q=> .ptr (bD o h.len) g λd j=>by
  have⟨g,p⟩:=h.al _ d o j
  grind
 |_,_, .it o g A q=> .it (bD o h.len) g A λd j=>by
  have⟨g,p⟩:=h.al _ d o j
  grind
 |_,_, .bld o g q=> .bld (bD o h.len) g λd j=>by
  have⟨g,p⟩:=h.al _ d o j
  grind
 |_,_, .pix o g C q=> .pix (bD o h.len) g C λd j=>by
  have⟨g,p⟩:=h.al _ d o j
  grind
 |_,_, .pel o g q=> .pel (bD o h.len) g λd j=>by
  have⟨g,p⟩:=h.al _ d o j
  grind
 |_,_, .pin r s D u=> .pin (h.rd _ _ s r).2 (h.rd _ _ s r).1 D (go u)
 |_,_, .lstn z=> .lstn z
 |_,_, .tgtn z=> .tgtn z
 |_,_, .tgt r s w t u=> .tgt (h.rd _ _ s r).2 (h.rd _ _ s r).1 w t (go u)
 |_,_, .lst r s w g p t u=> .lst (h.rd _ _ s r).2 (h.rd _ _ s r).1 w g p t (go u)
 |_,_, .full o g q=> .full (bD o h.len) g λd j=>by
  have⟨g,p⟩:=h.al _ d o j;have⟨n,t,B⟩:=q d g;exact⟨n,t,B.frameV h o j⟩
 |_,_, .part o g q=> .part (bD o h.len) g λd j=>by
  have⟨g,p⟩:=h.al _ d o j;exact(q d g).frameV h o j
 |_,_, .fn g p=> .fn (go g) (go p)
 |_,_, .agg g=> .agg (go g)
 |_,_, .tup g=> .tup<|go g
where
 go: ∀{l:List VV} {m:List Value},F2 (VRel c) l m->F2 (VRel c') l m
  |_,_, .nil=> .nil
  |_,_, .cons g p=> .cons (VRel.frameV h g)<|go p
def VRel.framesV (h:LeV c c'){l:List VV}{m:List Value}(d:F2 (VRel c) l m):F2 (VRel c') l m:=d.imp λ_ _ g=>g.frameV h
def ba.frameV (h:ba c e ea)(d:LeV c c'):ba c' e ea:=λt=>(h t).frameV d
def Uv (c:Ctx)(p:Hp->Prop)(f:ak->Bool):Prop:= ∀c',LeV c c'->Rel c'->f c'.S=Za->p c'.Z
def Uv.next {p:Hp->Prop}{f:ak->Bool}(h:Uv c p f)(j:LeV c c'):Uv c' p f:=λd g=>h d<|j.trans g
def Im (c:Ctx)(p:Hp->Prop):Option (Option Nat)->Prop
 |none=>True
 |some Y=>p c.Z/\∀Z',(∀b y,c.Z.m b=O y->¬c.mut b->Z'.m b=O y)->p Z'
 |some (O q)=>(ag c.S q).dim≠Y/\p c.Z/\∀Z',(∀b,c.μ q=O b->Z'.m b=c.Z.m b)->p Z'
inductive ChkRel (c:Ctx):List (Nat×(Hp->Prop))->HT->Prop where
 |nil:ChkRel c [] []
 |cons {i:Nat} {p:Hp->Prop} {s:Option<|Option Nat} {f:ak->Bool} {l:List<|Nat×(Hp->Prop)} {m:HT}:Im c p s->Uv c p f->ChkRel c l m->ChkRel c ((i,p)::l) ((i,s,f)::m)
def Im.now {p:Hp->Prop}{s:Option Nat}(h:Im c p<|O s):p c.Z:=by
 cases s with
 |none=>exact h.1
 |some q=>exact h.2.1
def Im.next {p:Hp->Prop}{d:List Nat}(m:Le c c')(C:vP d c c'): ∀{s:Option<|Option Nat},Im c p s->Im c' p (match s with
  |some (O q)=>cond (lV q d) Y (O<|O q)
  |s=>s)
 |none,_=>trivial
 |some Y,h=>by
  refine⟨h.2 _ λb y r o=>(m.rd b y r o).1,λZ' l=>h.2 Z' λb y r o=> ?_⟩;have⟨g,t⟩:=m.rd b y r o;exact l b y g t
 |some (O q),h=>by
  cases k:lV q d with
  |true=>
   show Im c' p<|cond (lV q d) Y<|O<|O q;rw[k];exact trivial
  |false=>
   show Im c' p<|cond (lV q d) Y<|O<|O q;rw[k];have⟨g,t,u⟩:=h;have D:q∉d:=λe=>by rw[lm.2 e]at k;cases k
   have⟨w,z⟩:=C q (lM g) D g
   have n:c'.μ q=c.μ q:=by
    cases j:(ag c'.S q).dim with
    |none=>exact(w j).elim
    |some B=>exact(m.al q B (lM g) j).2
   exact⟨w,u _ z,λZ' l=>u Z' λb A=>by rw[l b (by rw[n];exact A),z b A]⟩
def ChkRel.next {c c':Ctx}{d:List Nat}(k:Le c c')(n:vP d c c'): ∀{l:List<|Nat×(Hp->Prop)} {m:HT},ChkRel c l m->ChkRel c' l (MU d m)
 |_,_, .nil=> .nil
 |_,_, .cons (s:=s) o g p=>by
  have h:=o.next k n
  have j:=ChkRel.next k n p
  have g:=g.next k.toV
  cases s with
  |none=>exact .cons h g j
  |some s=>
   cases s with
   |none=>exact .cons h g j
   |some q=>exact .cons h g j
def Bz : ∀m:HT,MU [] m=m
 |[]=>rfl
 |(i,Y,_)::r=>by simp only[MU,Bz r]
 |(i,O Y,_)::r=>by simp only[MU,Bz r]
 |(i,O<|O q,_)::r=>by simp only[MU,Bz r,lV,zD]
def EK {c:Ctx}{d:List Nat}(j:Rel c): ∀{l:List<|Nat×(Hp->Prop)} {m:HT},ChkRel c l m->Du c.S d m=Za->Af d c.Z l
 |_,_, .nil,_=>trivial
 |_,_, .cons (i:=i) (s:=s) (f:=f) o r k,h=>by
  simp only[Du]at h;simp only[Af]
  have p:d.contains i=lV i d:=by
   cases g:lV i d with
   |true=>simpa using lm.1 g
   |false=>
    cases q:d.contains i with
    |false=>rfl
    |true=>
     have:i∈d:=by simpa using q
     rw[lm.2 this]at g;cases g
  rw[p];cases g:lV i d with
  |false=>
   rw[g,zD]at h;rw[zF V5];exact EK j k h
  |true=>
   rw[g,zC]at h;rw[zE rfl];cases s with
   |none=>
    simp only at h;cases n:f c.S with
    |false=>rw[n]at h;cases h
    |true=>
     rw[n,zC]at h;exact⟨r c (LeV.refl c) j n,EK j k h⟩
   |some s=>exact⟨o.now,EK j k h⟩
def nP {T:Ab.i7}{e:cy}(d:op.still=Za){k:Value->Hp->Prop}:(match op.run e Z with
  |some (v,Z')=>k v Z'
  |none=>False)=cj T op e Z k:=by
 cases op<;>first|(cases d;done)|rfl
theorem Xq {s t:ByteArray}(h:fg s=fg t):s=t:=by
 unfold fg at h;have d:=List.map_inj_right (λa b (h:((a.toNat:Nat):Int)=(b.toNat:Int))=>UInt8.toNat_inj.1<|Int.ofNat.inj h)|>.1 h
 obtain⟨⟨s⟩⟩:=s
 simp_all
def aO5 {x y:VV}{a b:Value}(d:VRel c x a)(g:VRel c' y b)(h:bi0 x y=Za):a=b:=by
 cases d<;>cases g<;>simp only[bi0,aD,decide_eq_true_eq,Bool.false_eq_true]at h
 case bool.bool=>rw[h]
 case int.int=>rw[h.1,h.2]
 case str.str h1 _ _ h2=>rw[Xq<|h1.trans<|h.trans h2.symm]
 all_goals rfl
def ao5 {tab:Tab}{l:VV}(p:ba c e ea)(k:op.still=Za)(s:VRel c0 l v):Uv c (λZ'=>op.run ea Z'=O (v,Z'))<|TF tab op e l:=by
 intro c' r n h;unfold TF at h;split at h
 .rename_i b o;subst h;have d:=vE n (p.frameV r) o;rw[<-nP k]at d;show op.run ea c'.Z=O (v,c'.Z);cases j:op.run ea c'.Z with
  |none=>rw[j]at d;exact d.elim
  |some q=>
   have⟨C,Z1⟩:=q;rw[j]at d;have⟨t,u,w,z,A,B,m,g⟩:=d;injection g with g
   rw[wS k j,aO5 s m g]
 cases h
theorem KL (hR:Rel c)(U:ba c e ea)(C:op.isLoad=Za)(h:op.run ea c.Z=O (v,Z1)):Im c (λZ'=>op.run ea Z'=O (v,Z'))<|ah5 c.S op e:=by
 have z:=cm U<|FF op;have u:op.run ea c.Z=O (v,c.Z):=OZ C h λ_ _=>rfl
 have N:Im c (λZ'=>op.run ea Z'=O (v,Z'))<|au7 c.S<|ev e<|FF op:=by
  generalize ev e (FF op)=Q at*
  have g: ∀q,Bd Q=O q->(∀b,at6 (ea.ev<|FF op)=O b->(ag c.S q).dim≠Y->c.μ q=O b)->Im c (λZ'=>op.run ea Z'=O (v,Z')) (cond (ag c.S q).live (O<|O q) Y):=by
   intro q V j;cases J:(ag c.S q).live with
   |false=>trivial
   |true=>
    have⟨X,p⟩:=vH J;exact⟨by rw[p];simp,u,λZ' I=>OZ C h λb D=>I b<|j b D eW⟩
  have r:(∀b,at6 (ea.ev<|FF op)=O b->∃y,c.Z.m b=O y/\¬c.mut b)->Im c (λZ'=>op.run ea Z'=O (v,Z')) (O Y):=by
   intro j;refine⟨u,λZ' I=>OZ C h λb D=> ?_⟩
   grind
  cases Q<;>simp only[au7,Bd]<;>try exact trivial
  case ptr q o=>
   refine g q rfl λb j p=> ?_
   cases z with
   |ptr E F w=>
    cases k:(ag c.S q).dim with
    |none=>exact(p k).elim
    |some d=>
     have⟨B,A,t⟩:=w d k;rw[t]at j;cases j;exact A
  case it q l=>
   refine g q rfl λb j p=> ?_
   have⟨s,_,w⟩:=z.it_inv;cases k:(ag c.S q).dim with
   |none=>exact(p k).elim
   |some d=>
    have⟨B,A,t⟩:=w d k;rw[t]at j;cases j
  case bld q=>
   refine g q rfl λb j p=> ?_
   cases z with
   |bld _ _ w=>
   cases k:(ag c.S q).dim with
   |none=>exact(p k).elim
   |some d=>
    have⟨B,A,t⟩:=w d k;rw[t]at j;cases j
  case pix q o n i=>
   refine g q rfl λb j p=> ?_
   cases z with
   |pix E F hi w=>
    cases k:(ag c.S q).dim with
    |none=>exact(p k).elim
    |some d=>
     have⟨B,A,t⟩:=w d k;rw[t]at j;cases j;exact A
  case pel q i o=>
   refine g q rfl λb j p=> ?_
   cases z with
   |pel E F w=>
    cases k:(ag c.S q).dim with
    |none=>exact(p k).elim
    |some d=>
     have⟨B,A,t⟩:=w d k;rw[t]at j;cases j;exact A
  case full q=>
   refine g q rfl λb j p=> ?_
   cases z with
   |full E F w=>
    cases k:(ag c.S q).dim with
    |none=>exact(p k).elim
    |some d=>
     have⟨n,_,t⟩:=w d k;rcases t with⟨t,_⟩|⟨B,T,W,t,H,_⟩
     .rw[t]at j;cases j
     rw[t]at j;cases j;exact H
  case part q lo n=>
   refine g q rfl λb j p=> ?_
   cases z with
   |part E F w=>
    cases k:(ag c.S q).dim with
    |none=>exact(p k).elim
    |some d=>
     rcases w d k with⟨t,_⟩|⟨B,T,W,t,H,_⟩
     .rw[t]at j;cases j
     rw[t]at j;cases j;exact H
  case pin s x o=>
   refine r λb j=> ?_
   generalize ea.ev (FF op)=P at*;cases z with
   |pin K M C hf=>
    cases j;exact⟨_,M,K⟩
  case lst s l=>
   generalize L:ea.ev (FF op)=P at*;cases z with
   |lstn V=>
    refine⟨u,λZ' I=> ?_⟩;have:=aB9 C L h;exact this Z'
   |lst K M _ _ _ _ _=>
    refine r λb j=> ?_
    cases j;exact⟨_,M,K⟩
  case nils=>
   refine r λb j=> ?_
   generalize ea.ev (FF op)=P at*;cases z;cases j
 cases op<;>first|(cases C;done)|exact N
def aj6 {it:SItem}{ach:List<|Nat×(Hp->Prop)}{k:HT->db->ak->Option β}(C:Rel c)(q:ba c e ea)(E:ChkRel c ach chk)(h:K1 tab it chk e c.S k=O y){Q:List (Nat×(Hp->Prop))->cy->Hp->Prop}
  (B: ∀c' g j e' ea',Le c c'->Rel c'->ChkRel c' g j->ba c' e' ea'->k j e' c'.S=O y->Q g ea' c'.Z):
  if it.mover then cj (gc tab) it.o.op ea c.Z (λv Z'=>Af it.chks Z' ach/\Q ach (ea.putO it.o.dst v) Z')
  else match it.o.op.run ea c.Z with
   |some (v,_)=>Q (if it.keep then(it.idx,λZ'=>it.o.op.run ea Z'=O (v,Z'))::ach else ach) (ea.putO it.o.dst v) c.Z
   |none=>False:=by
 unfold K1 at h;cases L:it.mover with
 |true=>
  rw[L,zC]at h;rw[zE rfl];refine lq (bz tab) (λv Z' P=> ?_)<|vE C q h;have⟨M,c',m,r,d,u,w,n⟩:=P;subst m;obtain⟨l,n⟩:=az n;have s:=E.next r u
  exact⟨EK d s l,B c' ach _ _ _ r d s ((q.frame r).putO w) n⟩
 |false=>
  rw[L,zD]at h;rw[zF V5];have⟨l,N⟩:=az h;rw[aD]at l;have m:=vE C q N;rw[<-nP l.1]at m;cases A:it.o.op.run ea c.Z with
  |none=>rw[A]at m;exact m
  |some p=>
   have⟨v,Z1⟩:=p;rw[A]at m;have⟨M,c',r,d,u,w,n,z⟩:=m;simp only
   have K:JB tab it.o.op e c.S=[]:=by
    have:=l.1;cases J:it.o.op<;>rw[J]at this<;>first|(cases this;done)|rfl
   have s:=E.next d w
   rw[K,Bz]at s;have D:Z1=c.Z:=wS l.1 A;rw[<-D,<-r];cases F:it.keep with
   |false=>
    simp only[F,zD]at z;rw[zF V5];exact B c' ach chk _ _ d u s ((q.frame d).putO n) z
   |true=>
    simp only[F,zC]at z;rw[zE rfl];have I:it.o.op.isLoad=Za:=by have:=l.2;rw[F]at this;simpa using this
    have H:=KL C q I A;have t:=(ChkRel.cons (i:=it.idx) (f:=TF tab it.o.op e M) H (ao5 q l.1 n) E).next d w
    rw[K,Bz]at t;exact B c' _ _ _ _ d u t ((q.frame d).putO n) z
end
def qs (op:AOp)(ea:cy)(x:Ab.Blk)(d:Nat->Value):Prop:= ∀Z:Hp,op.run ea Z=O (d Z.n,Z.add x)
def qs.unique {o:Ab.Blk}{l d:Nat->Value}(h:qs op ea x l)(p:qs op ea o d):x=o/\l=d:=by
 have j: ∀n,l n=d n/\x=o:=by
  intro n;have g:=h ⟨λ_=>Y,n⟩;rw[p ⟨λ_=>Y,n⟩]at g;injection g with g
  injection g with g q
  refine⟨g.symm, ?_⟩;have k:=congrArg (λs:Hp=>s.m n) q;simp only[Hp.add,if_true]at k;injection k with k
  exact k.symm
 exact⟨(j 0).2,funext λn=>(j n).1⟩
def Tf {x:Operand}(h: ∀t∈VS x,ea' t=ea t):ea'.ev x=ea.ev x:=by
 cases x with
 |tmp t=>exact h t (by simp[VS])
 |_=>rfl
def qs.same {n:Nat->Value}(h:qs op ea x n)(q:qY op=Za)(k: ∀t∈vL op,ea' t=ea t):qs op ea' x n:=by
 intro Z;have d:=h Z;cases op<;>first|(cases q;done)|skip
 case alloc es z=>exact d
 case makeSlice es bytes z l m=>
  have j:ea'.ev l=ea.ev l:=Tf λt g=>k t (by simp[vL,g])
  have p:ea'.ev m=ea.ev m:=Tf λt g=>k t (by simp[vL,g])
  simp only[AOp.run]at d⊢;rw[j,p];exact d
 case buildSlice es ln z ps=>
  have j:(ps.map λ(o,s,x)=>(o,s,ea'.ev x))=ps.map λ(o,s,x)=>(o,s,ea.ev x):=by
   apply cS;rintro⟨o,s,x⟩ r;simp only;rw[Tf λt g=>k t<|dl.2 ⟨_,r,g⟩]
  simp only[AOp.run]at d⊢;rw[j];exact d
def Pw {c c':Ctx}: ∀{l:List VV} {m:List Value},l.all ad3=Za->F2 (VRel c) l m->F2 (VRel c') l m
 |_,_,_, .nil=> .nil
 |v::l,_,h, .cons d g=>by
  rw[List.all_cons,aD]at h;refine .cons ?_ (Pw h.2 g);cases d<;>first|(cases h.1;done)|skip
  .exact .bool _
  .exact .int _ _
  .exact .str Zl
structure FreshFact (op:AOp)(ea:cy)(blk:Blk)(w:Bool)(x:Ab.Blk)(vf:Nat->Value):Prop where
 run:qs op ea x vf
 fz:blk.frozen=Zb
 dm: ∃dm cs rest,blk.dim=O dm/\1<=dm.1/\x.es=dm.1/\x.own=Za/\x.cells=cs++rest/\∀c':Ctx,F2 (VRel c') blk.vals cs
 vv: ∀(c':Ctx) (k b:Nat),k<hW c'.S->ag c'.S k=blk->c'.μ k=O b->c'.Z.m b=O x->VRel c' (vvF w k) (vf b)
theorem EA {β:Type}{k:Blk->Bool->Option β}{y:β}(I:ba c e ea)(h:Bj op e k=O y):qY op=Za/\∃blk w x V,k blk w=O y/\FreshFact op ea blk w x V:=by
 cases op<;>simp only[Bj]at h<;>first|(cases h;done)|skip
 case alloc es z=>
  obtain⟨o,B⟩:=az h;have o:=cP o;refine⟨rfl,_,_,⟨z,Za,es⟩,λn=> .pointer<|O ⟨n,0,Y⟩,B,⟨λZ=>rfl,(zZ es z).2.1,⟨(es,z.length),z,[],(zZ es z).1,o,rfl,rfl,V2,λc'=>(zZ es z).2.2 c'⟩,λc' k b p N E F=> ?_⟩⟩;refine .ptr p rfl λd g=>⟨b,E,rfl⟩
 case makeSlice es bytes z l m=>
  have M:=cm I l;have E:=cm I m;split at h
  .rename_i X a k2 b s o B N;rw[o]at M;rw[B]at E;obtain⟨L,p⟩:=az h;simp only[aD]at L;obtain⟨⟨⟨⟨A,j⟩,u⟩,C⟩,D⟩:=L;have A:=bB A;have j:=of_decide_eq_true j;have u:=of_decide_eq_true u;have C:=of_decide_eq_true C;have D:=cP D;have P: ∀c':Ctx,F2 (VRel c') (eX s<|vM s) z:=λc'=>DB (c:=c') N
   have J:z.length=s.w:=by rw[<-(P c).length,fi]
   have W:b<=bytes*b:=by
    have:(1:Int)*b<=bytes*b:=Int.mul_le_mul_of_nonneg_right V1 V1;omega
   refine⟨rfl,_,_,⟨fh z b.toNat,Za,es⟩,λn=> .slice (O ⟨n,0,Y⟩) a.toNat b.toNat,p,⟨λZ=> ?_,rfl,⟨(s.w,(List.replicate a.toNat<|vM s).length*s.w),fh z a.toNat,fh z<|b.toNat-a.toNat,rfl,nV s,A,rfl, ?_,λc'=> ?_⟩,λc' k q p t r F=> ?_⟩⟩
   .simp only[AOp.run,M.int_inv,E.int_inv]
    grind
   .show fh z b.toNat=_;rw[<-RN]
    congr 1
    omega
   .show F2 (VRel c') (gf s<|List.replicate a.toNat<|vM s) (fh z a.toNat);rw[tg];generalize a.toNat=n;induction n with
    |zero=>exact .nil
    |succ n Q=>
     simp only[fh,List.replicate_succ,List.flatten_cons]at Q⊢;exact(P c').append Q
   refine .full p rfl λd g=> ?_
   rw[t]at g;injection g with g
   subst g;refine⟨a.toNat,V2, .inr ⟨q,b.toNat,_,V2,r,V2,V1,F, ?_⟩⟩;rw[Nat.zero_add];show b.toNat*s.w<=(fh z b.toNat).length;rw[RO,J];exact cQ _
  cases h
 case buildSlice es ln z ps=>
  split at h
  .rename_i S U;obtain⟨o,B⟩:=az h;simp only[aD]at o;obtain⟨⟨⟨⟨A,j⟩,u⟩,C⟩,D⟩:=o;have j:=bB j;have u:=cP u;obtain⟨K,T,H⟩:=Ad I ps U<|Ly ln z;refine⟨D,_,_,⟨K,Za,es⟩,λn=> .slice (O ⟨n,0,Y⟩) ln ln,B,⟨λZ=> ?_,rfl,⟨(es,S.length),K,[],rfl,u,rfl,rfl,V2,λc'=>Pw C H⟩,λc' k q p t r F=> ?_⟩⟩
   .simp only[AOp.run,T];rw[zE<|lg H A]
   refine .full p rfl λd g=> ?_
   rw[t]at g;injection g with g
   subst g;refine⟨ln,j, .inr ⟨q,ln,_,V2,r,by simp[j],cQ _,F, ?_⟩⟩;rw[Nat.zero_add];show ln*es<=K.length;rw[<-H.length];exact Nat.le_of_eq j
  cases h
theorem rD {i q:Nat}: ∀{l:List Nat},l.Nodup->(q∈Dj i l↔q∈l/\q≠i)
 |[],_=>by simp[Dj]
 |a::r,h=>by
  have⟨k,g⟩:=List.nodup_cons.1 h;simp only[Dj];cases d:aB a i with
  |true=>
   have:=bB d
   grind
  |false=>
   have j:a≠i:=λe=>by subst e;rw[cD]at d;cases d
   rw[zD,cN,cN,rD g]
   grind
def LZ {i:Nat}: ∀{l:List Nat},l.Nodup->(Dj i l).Nodup
 |[],h=>h
 |a::r,h=>by
  have⟨g,d⟩:=List.nodup_cons.1 h;simp only[Dj];cases k:aB a i with
  |true=>exact d
  |false=>
   rw[zD,List.nodup_cons];exact⟨λj=>g ((rD d).1 j).1,LZ d⟩
def Ao : ∀{ts:List Nat} {e:db} {t:Nat},lU (sf e ts) t= .undef∨(t∉ts/\lU (sf e ts) t=lU e t)
 |[],e,t=> .inr ⟨V2,rfl⟩
 |a::ts,e,t=>by
  simp only[sf,yg];by_cases h:t=a
  .rw[zE h];exact .inl rfl
  .rw[zF h];rcases Ao (ts:=ts) (e:=e) (t:=t)with d|⟨d,g⟩
   .exact .inl d
   .exact .inr ⟨by simp[h,d],g⟩
section
variable {tab:Tab} {ops:List<|AOper×List Nat}
structure InvL (ops:List<|AOper×List Nat)(c0 c:Ctx)(e:db)(ea:cy)(ach:List<|Nat×(Hp->Prop))(chk:HT)(P ls nd:List Nat)(r:List LItem)(pd:Nat->Nat):Prop where
 le:Le c0 ⟨c.μ,c.S,c.Z,c0.fb⟩
 R:Rel c
 E:ba c e ea
 K:ChkRel c ach chk
 ks:ach.map (·.1)=ls
 nd:rc nd chk=Za
 fb: ∀b,c.fb b↔(c0.fb b∨∃q∈P,pd q=b)
 nod:P.Nodup
 inj: ∀q q',q∈P->q'∈P->pd q=pd q'->q=q'
 new: ∀q∈P,c0.Z.n<=pd q
 pend: ∀q∈P,qY (bh ops q).op=Za/\∃x vf,qs (bh ops q).op ea x vf/\c.Z.m (pd q)=O x/\∀t,(bh ops q).dst=O t->ea t=vf (pd q)
 und: ∀it∈r,aB it.kind 2=Za->∀t,(bh ops it.i).dst=O t->lU e t= .undef
 ds:Ie ops r=Za
theorem Im.frameV {p:Hp->Prop}(z:Rel c)(C:LeV c c')(A: ∀q,q<hW c.S->ag c'.S q=ag c.S q)(n: ∀q,q<hW c.S->c'.μ q=c.μ q)(B: ∀b y,c.Z.m b=O y->c'.Z.m b=O y): ∀{s:Option<|Option Nat},Im c p s->Im c' p s
 |none,_=>trivial
 |some Y,h=>by
  refine⟨h.2 _ λb y o _=>B b y o,λZ' k=>h.2 Z' λb y o D=> ?_⟩;have⟨g,r⟩:=C.rd b y o D;exact k b y g r
 |some (O q),h=>by
  have⟨g,r,t⟩:=h;have w:=lM g
  have l: ∀b,c.μ q=O b->c'.Z.m b=c.Z.m b:=by
   intro b l;cases u:(ag c.S q).dim with
   |none=>exact(g u).elim
   |some d=>
    have⟨_,F⟩:=z.blk q d u
    grind
  exact⟨by rw[A q w];exact g,t _ l,λZ' E=>t Z' λb j=>(E b (by rw[n q w];exact j)).trans<|l b j⟩
def ChkRel.frameV (h:Rel c)(g:LeV c c')(j: ∀q,q<hW c.S->ag c'.S q=ag c.S q)(d: ∀q,q<hW c.S->c'.μ q=c.μ q)(k: ∀b y,c.Z.m b=O y->c'.Z.m b=O y): ∀{l:List<|Nat×(Hp->Prop)} {m:HT},ChkRel c l m->ChkRel c' l m
 |_,_, .nil=> .nil
 |_,_, .cons n p o=> .cons (n.frameV h g j d k) (p.next g)<|o.frameV h g j d k
theorem qZ {c:Ctx}{m:Nat}{k:List Nat}: ∀{l:List<|Nat×(Hp->Prop)} {chk:HT},ChkRel c l chk->rc k chk=Za->(∀i∈l.map (·.1),vx ops i m=Za∨lV i k=Za)->Dr ops m c.Z l
 |_,_, .nil,_,_=>trivial
 |_,_, .cons (i:=i) (s:=s) o _ p,h,n=>by
  simp only[rc]at h;simp only[Dr];have d:rc k _=Za->Dr ops m c.Z _:=λh3=>qZ p h3 λj q=>n j (by simp only[List.map_cons];exact cB _ q)
  cases g:vx ops i m with
  |true=>
   grind
  |false=>
   rw[zF V5];rcases n i V2 with h3|h3
   .rw[g]at h3;cases h3
   .rw[h3,zC]at h;cases s with
    |none=>cases h
    |some s=>exact⟨o.now,d h⟩
theorem OV {β:Type}{ach:List<|Nat×(Hp->Prop)}{P ls nd:List Nat}{r:List LItem}{pd:Nat->Nat}{K:db->ak->Option β}{y:β}(h0:Rel c0)
  (k:InvL ops c0 c e ea ach chk P ls nd (it::r) pd) (hk:aB it.kind 2=Za) (hP:it.i∈P) (h:Bj (bh ops it.i).op e (λblk w=>K (putO e (bh ops it.i).dst<|vvF w<|hW c.S)<|c.S++[blk])=O y):
  ∃c' e',c'.Z=c.Z/\InvL ops c0 c' e' ea ach chk (Dj it.i P) ls nd r pd/\K e' c'.S=O y/\c'.μ (hW c.S)=O (pd it.i)/\hW c.S<hW c'.S/\∃vv,e'=putO e (bh ops it.i).dst vv:=by
 have⟨hfb,blk,w,x',vf',h1,h2⟩:=EA k.E h;have⟨_,x,vf,h3,h4,h5⟩:=k.pend _ hP;have⟨ex,ef⟩:=h2.run.unique h3;subst ex;subst ef;obtain⟨dm,cs,rest,d1,d2,d3,d4,d5,d6⟩:=h2.dm;have p:hW (c.S++[blk])=hW c.S+1:=by simp
 have U:=k.ds;simp only[Ie,aD]at U
 let b:=pd it.i
 let c':Ctx:=⟨λq=>if q=hW c.S then O b else c.μ q,c.S++[blk],c.Z,λq=>c0.fb q∨∃j∈Dj it.i P,pd j=q⟩
 have I:c.fb b:=(k.fb b).2<|.inr ⟨it.i,hP,rfl⟩;have D: ∀q,q<hW c.S->ag c'.S q=ag c.S q:=λq g=>nS g
 have s: ∀q,q<hW c.S->c'.μ q=c.μ q:=λq g=>zF (Nat.ne_of_lt g)
 have W:ag c'.S (hW c.S)=blk:=WC;have o:c'.μ (hW c.S)=O b:=zE rfl
 have H: ∀q,c'.fb q->c.fb q:=by
  rintro q (g|⟨j,Q,rfl⟩)
  .exact(k.fb q).2 (.inl g)
  .exact(k.fb _).2 (.inr ⟨j,((rD k.nod).1 Q).1,rfl⟩)
 have hbnot: ¬c'.fb b:=by
  rintro(g|⟨j,Q,hjb⟩)
  .have:=h0.fbl _ g;have:=k.new _ hP;omega
  .obtain⟨C,M⟩:=(rD k.nod).1 Q;exact M (k.inj _ _ C hP hjb)
 have T: ∀q,c'.own q->c.own q∨q=b:=by
  rintro q ⟨j,C,M⟩;by_cases Q:j<hW c.S
  .rw[D j Q]at C;rw[s j Q]at M;exact .inl ⟨j,C,M⟩
  .by_cases hj3:j=hW c.S
   .subst hj3
    grind
   .rw[yl (by show hW c'.S<=j;rw[p];omega)]at C;cases C
 have hV:LeV c c':=by
  refine⟨by rw[p];omega,λq d g m=> ?_,λq d A L g m hm F=>⟨L,F,rfl⟩,λA L F V=>⟨F,λhm=> ?_⟩⟩
  .rw[D q g]at m;exact⟨m,s q g⟩
  .rcases hm with hm|hm
   .rcases T A hm with hm|hm
    .exact V (.inl hm)
    .subst hm;exact V (.inr I)
   .exact V (.inr<|H _ hm)
 have hR':Rel c':=by
  refine⟨k.R.ok,λq J A g l hm B=> ?_,λq d m=> ?_,λq A m hm=> ?_,λA hb'=>k.R.fbl _<|H _ hb'⟩
  .have z: ∀j,(ag c'.S j).dim≠Y->j<(hW c.S)∨j=hW c.S:=by
    intro j Q;have:=lM Q;rw[p]at this;omega
   rcases z q (mT g)with h6|h6
   .rcases z J l with h7|h7
    .rw[D q h6]at g;rw[D J h7]at l;rw[s q h6]at hm;rw[s J h7]at B;exact k.R.inj q J A g l hm B
    .subst h7;rw[o]at B;cases B;rw[s q h6]at hm;rw[D q h6]at g;exact(k.R.fbk q _ (mT g) hm I).elim
   .rcases z J l with h7|h7
    .subst h6;rw[o]at hm;cases hm;rw[s J h7]at B;rw[D J h7]at l;exact(k.R.fbk J _ l B I).elim
    .rw[h6,h7]
  .by_cases g:q<hW c.S
   .rw[D q g]at m⊢;have⟨h6,h7⟩:=k.R.blk q d m;refine⟨h6, ?_⟩;rcases h7 with⟨h7,h8⟩|⟨A,L,cs',X,h7,h8,h9,h10,h11,h12⟩
    .exact .inl ⟨h7,by rw[s q g];exact h8⟩
    .exact .inr ⟨A,L,cs',X,by rw[s q g];exact h7,h8,h9,h10,h11,VRel.framesV hV h12⟩
   .by_cases hq2:q=hW c.S
    .subst hq2
     grind
    .rw[yl (by show hW c'.S<=q;rw[p];omega)]at m;cases m
  .by_cases g:q<hW c.S
   .rw[D q g]at m;rw[s q g]at hm;exact λhf=>k.R.fbk q A m hm (H _ hf)
   .have:=lM m
    grind
 have hvv:VRel c' (vvF w<|hW c.S)<|vf' b:=h2.vv c' (hW c.S) b (by rw[p];omega) W o h4
 have hE':ba c' (putO e (bh ops it.i).dst<|vvF w<|hW c.S) ea:=by
  have hE:=k.E.frameV hV;cases m:(bh ops it.i).dst with
  |none=>exact hE
  |some t=>
   intro t';show VRel c' (lU (rF e t _) t')<|ea t';rw[yg];by_cases ht:t'=t
   .subst ht;rw[zE rfl,h5 _ m];exact hvv
   .rw[zF ht];exact hE t'
 refine⟨c',_,rfl,⟨?_,hR',hE',k.K.frameV k.R hV D s (λ_ _ F=>F),k.ks,k.nd,λq=>Iff.rfl,LZ k.nod,λq J g l=>k.inj q J ((rD k.nod).1 g).1 ((rD k.nod).1 l).1,λq g=>k.new q ((rD k.nod).1 g).1,λq g=>k.pend q ((rD k.nod).1 g).1, ?_,U.2⟩,h1,o,by rw[p];omega,_,rfl⟩
 .have u:=k.le;refine⟨cR u.len (by show hW c.S<=hW c'.S;rw[p];omega),λq d g m=> ?_,λq hf m=> ?_,λq d A L g m hm F=> ?_,λA L F V=>u.un A L F V,λA L F V ho=> ?_,u.n,rfl⟩
  .have l:q<hW c.S:=bD g u.len;have:=D q l;rw[show(⟨c'.μ,c'.S,c'.Z,c0.fb⟩:Ctx).S=c'.S from rfl,this]at m;have⟨h6,h7⟩:=u.al q d g m;exact⟨h6,(s q l).trans h7⟩
  .have l:q<hW c.S:=bD (lM m) u.len;exact(D q l).trans (u.fz q hf m)
  .have l:q<hW c.S:=bD g u.len;have:=D q l;rw[show(⟨c'.μ,c'.S,c'.Z,c0.fb⟩:Ctx).S=c'.S from rfl,this]at m;exact u.ln q d A L g m hm F
  .have ho':c'.own A:=ho;rcases T A ho' with ho2|ho2
   .exact u.ow A L F V ho2
   .subst ho2;have:=h0.ok _ _ F;have:=k.new _ hP;omega
 .intro it' N hk' t ht;have hu:=k.und it' (cB _ N) hk' t ht;cases m:(bh ops it.i).dst with
  |none=>exact hu
  |some t'=>
   show lU (rF e t' _) t=_;rw[yg];by_cases htt:t=t'
   .subst htt;have:=bo.1 U.1 it' N;rw[hk,hk']at this;simp only[cM,cL,neO,m,ht,cD]at this;cases this
   .rw[zF htt];exact hu
def aa5 {β:Type}{ach:List<|Nat×(Hp->Prop)}{P ls j:List Nat}{r:List LItem}{pd:Nat->Nat}{k:db->ak->Option β}{y:β}(l:Rel c0)
  (p:InvL ops c0 c e ea ach chk P ls j (it::r) pd) (d:aB it.kind 2=Za) (q:it.i∈P) (h:E8 tab ops (it::r) chk e c.S k=O y):
  ∃c' e',c'.Z=c.Z/\InvL ops c0 c' e' ea ach chk (Dj it.i P) ls j r pd/\E8 tab ops r chk e' c'.S k=O y:=by
 have g:aB it.kind 3=Zb:=by rw[bB d];rfl
 simp only[E8,d,g,zC,zD]at h;obtain⟨c',e',m,n,o,_⟩:=OV (K:=λe' S'=>E8 tab ops r chk e' S' k) l p d q h;exact⟨c',e',m,n,o⟩
def VZ {β:Type}{ach:List<|Nat×(Hp->Prop)}{P ls nd:List Nat}{r:List LItem}{pd:Nat->Nat}{k:db->ak->Option β}{y:β}
  (d:InvL ops c0 c e ea ach chk P ls nd (it::r) pd) (l:aB it.kind 3=Za) (h:E8 tab ops (it::r) chk e c.S k=O y):
  InvL ops c0 c e ea ach chk P ls nd r pd/\E8 tab ops r chk e c.S k=O y:=by
 simp only[E8,l,zC]at h;have⟨_,_,_,_,_,m,_⟩:=EA d.E h;have g:=d.ds;simp only[Ie,aD]at g;exact⟨⟨d.le,d.R,d.E,d.K,d.ks,d.nd,d.fb,d.nod,d.inj,d.new,d.pend,λj n l t o=>d.und j (cB _ n) l t o,g.2⟩,m⟩
def Kj {β:Type}{c0:Ctx}{ea:cy}{ach:List<|Nat×(Hp->Prop)}{chk:HT}{ls z:List Nat}{pd:Nat->Nat}{k:db->ak->Option β}{y:β}{i:Nat}(o:Rel c0): ∀(r:List LItem) {P P':List Nat} {it:LItem} {l:List LItem} {c:Ctx} {e:db},ET r P i=O (P',it,l)->
  InvL ops c0 c e ea ach chk P ls z r pd->E8 tab ops r chk e c.S k=O y->
  ∃c' e',c'.Z=c.Z/\InvL ops c0 c' e' ea ach chk P' ls z (it::l) pd/\E8 tab ops (it::l) chk e' c'.S k=O y/\aB it.kind 2=Zb/\it.i=i/\∀q∈P',q∈P
 |[],P,P',it,l,c,e,h,_,_=>by cases h
 |a::r,P,P',it,l,c,e,h,m,w=>by
  simp only[ET]at h;cases d:aB a.kind 3 with
  |true=>
   rw[d,zC]at h;have⟨g,j⟩:=VZ m d w;exact Kj o r h g j
  |false=>
  rw[d,zD]at h;cases n:aB a.kind 2 with
  |false=>
   rw[n,zD]at h;cases s:aB a.i i with
   |false=>rw[s]at h;cases h
   |true=>
    rw[s,zC]at h;injection h with h
    injection h with g h
    injection h with j p
    subst g;subst j;subst p;exact⟨c,e,rfl,m,w,n,bB s,λq u=>u⟩
  |true=>
   rw[n,zC]at h;cases t:lV a.i P with
   |false=>rw[t]at h;cases h
   |true=>
    rw[t,zC]at h;have⟨c1,J,g,j,p⟩:=aa5 o m n (lm.1 t) w;have⟨A,B,C,D,E,F,H,I⟩:=Kj o r h j p;exact⟨A,B,C.trans g,D,E,F,H,λq u=>((rD m.nod).1<|I q u).1⟩
theorem Tg {β:Type}{c0:Ctx}{ea:cy}{ach:List<|Nat×(Hp->Prop)}{chk:HT}{ls s:List Nat}{pd:Nat->Nat}{k:db->ak->Option β}{y:β}(l:Rel c0): ∀(r:List LItem) {P:List Nat} {c:Ctx} {e:db},XF r P=Za->
  InvL ops c0 c e ea ach chk P ls s r pd->E8 tab ops r chk e c.S k=O y->qN c0 k y ea c.Z
 |[],P,c,e,h,d,j=>by
  have q:P=[]:=by
   cases P with
   |nil=>rfl
   |cons a r=>simp[XF]at h
  subst q
  have o:c.fb=c0.fb:=by
   funext b
   refine propext ((d.fb b).trans ⟨λh=> ?_, .inl⟩)
   grind
  refine⟨e,c,rfl, ?_,d.R,d.E,j⟩;have:=d.le;rw[<-o]at this;exact this
 |a::r,P,c,e,h,d,j=>by
  simp only[XF]at h;cases g:aB a.kind 3 with
  |true=>
   rw[g,zC]at h;have⟨m,n⟩:=VZ d g j;exact Tg l r h m n
  |false=>
  rw[g,zD]at h;simp only[aD]at h;have⟨c1,t,m,n,p⟩:=aa5 l d h.1.1 (lm.1 h.1.2) j;rw[<-m];exact Tg l r h.2 n p
def M7 {β:Type}{c:Ctx}{ea:cy}{chk:HT}{k:db->ak->Option β}{y:β}{m:Nat}: ∀(r:List LItem) {e e':db} {S:ak},OO ops r m=Za->ba c e ea->(∀t∈vL (bh ops m).op,lU e' t=lU e t)->E8 tab ops r chk e' S k=O y->∃x I,qY (bh ops m).op=Za/\qs (bh ops m).op ea x I
 |[],e,e',S,h,_,_,_=>by cases h
 |a::r,e,e',S,h,J,C,d=>by
  have A: ∀(X:VV),tS (bh ops a.i).dst (vL (bh ops m).op)=Za->∀t∈vL (bh ops m).op,lU (putO e' (bh ops a.i).dst X) t=lU e t:=by
   intro X u t V;rw[<-C t V];cases hd:(bh ops a.i).dst with
   |none=>rfl
   |some W=>
    show lU (rF e' W _) t=_;rw[yg];by_cases H:t=W
    .subst H;rw[hd]at u;simp only[tS]at u;rw[lm.2 V]at u;cases u
    .rw[zF H]
  have g: ∀{γ:Type} {T:Blk->Bool->Option γ} {z:γ},Bj (bh ops m).op e' T=O z->∃x I,qY (bh ops m).op=Za/\qs (bh ops m).op ea x I:=by
   intro γ T z d
   have P:Bj (bh ops m).op e T=O z:=by
    cases j:(bh ops m).op<;>rw[j]at d C<;>simp only[Bj]at d<;>first|(cases d;done)|skip
    case alloc es z=>exact d
    case makeSlice es bytes z l q=>
     have K:ev e' l=ev e l:=by
      cases l with
      |tmp t=>exact C t (by simp[vL,VS])
      |_=>rfl
     have e2:ev e' q=ev e q:=by
      cases q with
      |tmp t=>exact C t (by simp[vL,VS])
      |_=>rfl
     rw[K,e2]at d;exact d
    case buildSlice es ln z ps=>
     have K:CP e' ps=CP e ps:=by
      unfold CP;apply cS;rintro⟨o,s,x⟩ hx;simp only
      have:ev e' x=ev e x:=by
       cases x with
       |tmp t=>exact C t (dl.2 ⟨_,hx,by simp[VS]⟩)
       |_=>rfl
      rw[this]
     rw[K]at d;exact d
   have⟨hf,B,w,x,I,_,D⟩:=EA J P;exact⟨x,I,hf,D.run⟩
  simp only[OO]at h;cases p:aB a.kind 3 with
  |true=>
   rw[p,zC,cK]at h;simp only[E8,p,zC]at d;rcases h with h|h
   .rw[bB h]at d;exact g d
   .have n:E8 tab ops r chk e' S k=O y:=by
     cases j:(bh ops a.i).op<;>rw[j]at d<;>simp only[Bj]at d<;>first|(cases d;done)|skip
     case alloc es z=>exact(az d).2
     case makeSlice es bytes z l q=>
      split at d
      .exact(az d).2
      .cases d
     case buildSlice es ln z ps=>
      split at d
      .exact(az d).2
      .cases d
    exact M7 r h J C n
  |false=>
  rw[p,zD]at h;simp only[cK,aD]at h;rcases h with⟨E,h⟩|⟨⟨⟨E,F⟩,u⟩,D⟩
  .simp only[E8,E,p,zC,zD]at d;by_cases U:a.i=m
   .rw[U]at d;exact g d
   .rcases h with h|⟨u,D⟩
    .exact(U<|bB h).elim
    .have n: ∃B w,E8 tab ops r chk (putO e' (bh ops a.i).dst<|vvF w<|hW S) (S++[B]) k=O y:=by
      cases j:(bh ops a.i).op<;>rw[j]at d<;>simp only[Bj]at d<;>first|(cases d;done)|skip
      case alloc es z=>exact⟨_,_,(az d).2⟩
      case makeSlice es bytes z l q=>
       split at d
       .exact⟨_,_,(az d).2⟩
       .cases d
      case buildSlice es ln z ps=>
       split at d
       .exact⟨_,_,(az d).2⟩
       .cases d
     have⟨B,w,Q⟩:=n;exact M7 r D J (A _ u) Q
  .have M:aB a.kind 2=Zb:=by rw[bB E];rfl
   have L:aB a.kind 1=Zb:=by rw[bB E];rfl
   have N:aB a.kind 5=Zb:=by rw[bB E];rfl
   simp only[E8,M,L,p,N,zD]at d;obtain⟨_,d⟩:=az d;cases j:(bh ops a.i).op<;>rw[j]at F<;>first|(cases F;done)|skip
   case move x=>
    rw[j]at d;simp only[K2,AOp.isLoad,zD]at d;obtain⟨_,d⟩:=az d;exact M7 r D J (A _ u) d
def SV {F:Nat->Prop}: ∀{l:List Nat},(∀m∈l,F m)->NX F l
 |[],_=>trivial
 |[m],h=>h m V2
 |m::g::r,h=>⟨h m V2,SV λq d=>h q<|cB _ d⟩
theorem Tw {D:List Nat}{i:Nat}(h:eZ ops D=O i): ∃p,ops[i]?=O (bh ops i,p)/\(bh ops i).op.still=Za:=by
 unfold eZ at h;have d:=List.find?_some h;simp only[aD]at d;have g:=d.2;unfold ES at g;unfold bh
 grind
theorem O3 {D:List Nat}{m:Nat}(h:m∈bw ops D): ∃p,ops[m]?=O (bh ops m,p)/\(bh ops m).op.still=Zb:=by
 unfold bw at h;have⟨d,g⟩:=List.mem_filter.1 h;have d:=cJ.1 d;simp only[aD]at g;have j:=g.2;unfold ES at j;unfold bh
 grind
def ab9 {d:Nat}{k:Bool}{P:List Nat}{r:List LItem}(h:vJ ops d k P r=Za){q:Nat}(l:q∈P):(∀t,(bh ops d).dst=O t->(bh ops q).dst≠O t)/\∀t,(bh ops d).dst=O t->t∉vL (bh ops q).op:=by
 simp only[vJ,aD]at h;have g:=bo.1 h.1 q l;rw[aD]at g;refine⟨λt j e=> ?_,λt j m=> ?_⟩
 .have:=g.1;rw[j,e]at this;simp only[neO,cD]at this;cases this
 have:=g.2;rw[j]at this;simp only[tS]at this;rw[lm.2 m]at this;cases this
def aS3 {d:Nat}{g:Bool}{P:List Nat}{r:List LItem}(h:vJ ops d g P r=Za)(k:it∈r)(n:aB it.kind 2=Za)(l:g=Za->it.i≠d){t:Nat}(o:(bh ops d).dst=O t):(bh ops it.i).dst≠O t:=by
 simp only[vJ,aD]at h;have j:=bo.1 h.2 it k
 have m:(g&&aB it.i d)=Zb:=by
  cases g with
  |false=>rfl
  |true=>exact Bool.eq_false_iff.2 λe=>l rfl (bB e)
 rw[n,m]at j;intro e;rw[o,e]at j;simp only[cM,cL,neO,cD]at j;cases j
def B8 {d:Option Nat}{t:Nat}(h: ∀g,d=O g->t≠g):(ea.putO d v) t=ea t:=by
 cases d with
 |none=>rfl
 |some g=>exact zF<|h g rfl
def aF1 {d:Option Nat}{v:VV}{t:Nat}(h: ∀g,d=O g->t≠g):lU (putO e d v) t=lU e t:=by
 cases d with
 |none=>rfl
 |some g=>
  show lU (rF e g v) t=_;rw[yg,zF<|h g rfl]
def InvL.on {ach d:List<|Nat×(Hp->Prop)}{g:HT}{P ls s nd u:List Nat}{r:List LItem}{pd:Nat->Nat}{i:Nat}{M:VV}
  (k:InvL ops c0 c e ea ach chk P ls nd (it::r) pd) (I:vJ ops i Zb P r=Za) (m:Le c c') (T:Rel c') (V:VRel c' M v) (Q:ChkRel c' d g) (D:d.map (·.1)=s) (F:rc u g=Za):
  InvL ops c0 c' (putO e (bh ops i).dst M) (ea.putO (bh ops i).dst v) d g P s u r pd:=by
 have p:=k.ds;simp only[Ie,aD]at p;refine⟨?_,T,(k.E.frame m).putO V,Q,D,F,λb=>by rw[m.fb];exact k.fb b,k.nod,k.inj,k.new,λq H=> ?_,λj K L t o=> ?_,p.2⟩
 .have z:=k.le;have A:Le ⟨c.μ,c.S,c.Z,c0.fb⟩ ⟨c'.μ,c'.S,c'.Z,c0.fb⟩:=⟨m.len,m.al,m.fz,m.ln,m.un,m.ow,m.n,rfl⟩;exact z.trans A
 .obtain⟨J,x,vf,z,A,N⟩:=k.pend q H;have⟨W,X⟩:=ab9 I H;refine⟨J,x,vf,z.same J λt o=>B8 λw l e=>X w l<|e▸o,m.un _ _ A λU=> ?_,λt o=> ?_⟩
  .obtain⟨j,B,C⟩:=U;exact k.R.fbk j _ (mT B) C ((k.fb _).2<|.inr ⟨q,H,rfl⟩)
  .rw[B8 λw l e=>W w l<|e▸o];exact N t o
 .rw[aF1 λw l e=>aS3 I K L (λh=>by cases h) l<|e▸o];exact k.und j (cB _ K) L t o
theorem K7 {ach:List<|Nat×(Hp->Prop)}{P ls nd:List Nat}{r:List LItem}{pd:Nat->Nat}{m:Nat}{V:Nat->Value}
  (g:InvL ops c0 c e ea ach chk P ls nd r pd) (s:m∉P) (M:qY (bh ops m).op=Za) (hF:qs (bh ops m).op ea x V) (hd:vJ ops m Za P r=Za) (k:tS (bh ops m).dst (vL (bh ops m).op)=Za)
  (F:r.any (λit=>aB it.kind 2&&aB it.i m)=Za):
  InvL ops c0 ⟨c.μ,c.S,c.Z.add x,λb=>c.fb b∨b=c.Z.n⟩ e (ea.putO (bh ops m).dst<|V c.Z.n) ach chk (m::P) ls nd r (λq=>if q=m then c.Z.n else pd q):=by
 let c':Ctx:=⟨c.μ,c.S,c.Z.add x,λb=>c.fb b∨b=c.Z.n⟩
 have h: ∀b y,c.Z.m b=O y->(c.Z.add x).m b=O y:=by
  intro b y p;have:=g.R.ok b y p;simp only[Hp.add];rw[Zh];exact p
 have hV:LeV c c':=by
  refine⟨cQ _,λq d hq j=>⟨j,rfl⟩,λq d b y hq j hm p=>⟨y,h b y p,rfl⟩,λb y p X=>⟨h b y p,λhm=> ?_⟩⟩;rcases hm with hm|hm|hm
  .exact X (.inl hm)
  .exact X (.inr hm)
  .have:=g.R.ok b y p;omega
 have hR':Rel c':=by
  refine⟨λb y p=> ?_,g.R.inj,λq d j=> ?_,λq b j hm hf=> ?_,λb hb=> ?_⟩
  .simp only[c',Hp.add]at p⊢;split at p
   .omega
   .have:=g.R.ok b y p;omega
  .obtain⟨h6,l⟩:=g.R.blk q d j;refine⟨h6, ?_⟩;rcases l with l|⟨b',y',D,z,l,h8,h9,h10,h11,h12⟩
   .exact .inl l
   .exact .inr ⟨b',y',D,z,l,h _ _ h8,h9,h10,h11,VRel.framesV hV h12⟩
  .rcases hf with hf|hf
   .exact g.R.fbk q b j hm hf
   .subst hf;have I:(ag c.S q).dim≠Y:=j;cases H:(ag c.S q).dim with
    |none=>exact I H
    |some d=>
     have⟨_,l⟩:=g.R.blk q d H;have Q:c.μ q=O c.Z.n:=hm;rcases l with⟨_,l⟩|⟨b',y',D,z,l,h8,_⟩
     .rw[Q]at l;cases l
     .rw[Q]at l;cases l;have:=g.R.ok _ _ h8;omega
  .show b<c.Z.n+1;rcases hb with hb|hb
   .have:=g.R.fbl b hb;omega
   .omega
 have hK':=g.K.frameV g.R hV (λ_ _=>rfl) (λ_ _=>rfl) h;refine⟨?_,hR', ?_,hK',g.ks,g.nd,λb=> ?_,List.nodup_cons.2 ⟨s,g.nod⟩,λq q' hq T C=> ?_,λq hq=> ?_,λq hq=> ?_,g.und,g.ds⟩
 .have o:=g.le;refine⟨o.len,o.al,o.fz,λq d b y hq j hm p=> ?_,λb y p X=>h _ _<|o.un b y p X,o.ow,cR o.n<|Nat.le_succ _,rfl⟩;have⟨y',q1,q2⟩:=o.ln q d b y hq j hm p;exact⟨y',h _ _ q1,q2⟩
 .have hE:=g.E.frameV hV;intro t;cases J:(bh ops m).dst with
  |none=>exact hE t
  |some B=>
   show VRel c' (lU e t) (if t=B then _ else ea t);by_cases U:t=B
   .subst U;rw[zE rfl];have⟨it,hit,u⟩:=List.any_eq_true.1 F;rw[aD]at u;have N:=bB u.2;subst N;rw[g.und it hit u.1 _ J];exact .undef _
   .rw[zF U];exact hE t
 .constructor
  .rintro(hb|hb)
   .rcases(g.fb b).1 hb with hb|⟨q,hq,hb⟩
    .exact .inl hb
    grind
   simp_all
  .rintro(hb|⟨q,hq,hb⟩)
   .exact .inl ((g.fb b).2<|.inl hb)
   .rcases aw.1 hq with rfl|hq
    .simp only[if_true]at hb;exact .inr hb.symm
    .have hb:(if q=m then c.Z.n else pd q)=b:=hb;rw[zF (λe:q=m=>s<|e▸hq)]at hb;exact .inl ((g.fb b).2<|.inr ⟨q,hq,hb⟩)
 .have hlt: ∀q∈P,pd q<c.Z.n:=λq hq=>g.R.fbl _ ((g.fb _).2<|.inr ⟨q,hq,rfl⟩)
  have C:(if q=m then c.Z.n else pd q)=if q'=m then c.Z.n else pd q':=C
  rcases aw.1 hq with rfl|hq1
  .rcases aw.1 T with rfl|hq2
   .rfl
   grind
  .rw[zF (λe:q=m=>s<|e▸hq1)]at C;rcases aw.1 T with rfl|hq2
   .rw[zE rfl]at C;have:=hlt _ hq1;omega
   .rw[zF (λe:q'=m=>s<|e▸hq2)]at C;exact g.inj q q' hq1 hq2 C
 .show c0.Z.n<=(if q=m then c.Z.n else pd q);rcases aw.1 hq with rfl|hq
  .rw[zE rfl];exact g.le.n
  .rw[zF (λe:q=m=>s<|e▸hq)];exact g.new q hq
 .show qY (bh ops q).op=Za/\∃x1 W,qs (bh ops q).op (ea.putO (bh ops m).dst<|V c.Z.n) x1 W/\c'.Z.m (if q=m then c.Z.n else pd q)=O x1/\∀t,(bh ops q).dst=O t->ea.putO (bh ops m).dst (V c.Z.n) t=W (if q=m then c.Z.n else pd q)
  rcases aw.1 hq with rfl|hq
  .rw[zE rfl];refine⟨M,x,V,hF.same M λt A=>B8 λB w e=> ?_,zE rfl,λt A=> ?_⟩
   .subst e;rw[w]at k;simp only[tS]at k;rw[lm.2 A]at k;cases k
   .rw[A];exact zE rfl
  .rw[zF (λe:q=m=>s<|e▸hq)];have⟨L,x',vf',q1,q2,q3⟩:=g.pend q hq;have⟨k1,k2⟩:=ab9 hd hq;refine⟨L,x',vf',q1.same L λt A=>B8 λB w e=>k2 B w<|e▸A,h _ _ q2,λt A=> ?_⟩;rw[B8 λB w e=>k1 B w<|e▸A];exact q3 t A
def vO (ops:List<|AOper×List Nat)(j:Nat)(ea:cy):Value:=match(bh ops j).dst with
 |some t=>ea t
 |none=>undef
def Il (ops:List<|AOper×List Nat)(b:Nat)(x:Ab.Blk)(l:List Nat)(ea:cy):Prop:= ∀j∈l,∀Z':Hp,Z'.m b=O x->(bh ops j).op.run ea Z'=O (vO ops j ea,Z')
def YJ (ops:List<|AOper×List Nat)(b:Nat)(x:Ab.Blk):List Nat->cy->Prop
 |[],_=>True
 |i::g,ea=> ∃v,(∀Z':Hp,Z'.m b=O x->(bh ops i).op.run ea Z'=O (v,Z'))/\YJ ops b x g (ea.putO (bh ops i).dst v)
def QY {o:Option Nat}{i:Nat}(h:aO4 o i=Za):o=O i:=by
 cases o with
 |none=>cases h
 |some a=>rw[bB (h:aB a i=Za)]
theorem yr {o:AOper}(h:o.guard.isNone=Za):wanted o ea=Za:=by
 unfold wanted
 grind
def Lh {d:Option Nat}{l:List Nat}(h:tS d l=Za): ∀t,d=O t->t∉l:=by
 intro t j g;rw[j]at h;simp only[tS]at h;rw[lm.2 g]at h;cases h
def ab6 {d g:Option Nat}(h:neO d g=Za): ∀t,d=O t->g≠O t:=by
 intro t j e;rw[j,e]at h;simp only[neO,cD]at h;cases h
def Q0 {b:Nat}{l:List Nat}{d:Option Nat}(h:Il ops b x l ea)(p: ∀j∈l,tS d (bh ops j).op.reads=Za)(q: ∀j∈l,neO d (bh ops j).dst=Za):Il ops b x l<|ea.putO d v:=by
 intro j k Z' r;have n:(bh ops j).op.run (ea.putO d v) Z'=(bh ops j).op.run ea Z':=DA λt u=>B8 λm g e=>Lh (p j k) m g (e▸u)
 have o:vO ops j (ea.putO d v)=vO ops j ea:=by
  unfold vO;cases s:(bh ops j).dst with
  |none=>rfl
  |some t=>exact B8 λm g e=>ab6 (q j k) m g (e▸s)
 rw[n,o];exact h j k Z' r
theorem ay5 {β:Type}{n b:Nat}{x:Ab.Blk}{y:β}{z:Option β}{c1:Ctx}(V:c1.μ n=O b)(H:n<hW c1.S)(U:c1.Z.m b=O x): ∀(g:List Nat) {c:Ctx} {e:db} {ea:cy},Le c1 c->c.Z=c1.Z->Rel c->ba c e ea->evG tab ops n g e c.S z=O y->YJ ops b x g ea/\z=O y
 |[],_,_,_,_,_,_,_,h=>⟨trivial,h⟩
 |i::g,c,e,ea,F,M,D,t,h=>by
  simp only[evG]at h;have⟨C,L⟩:=az h;rw[aD]at C;have⟨l,j⟩:=C;have p:=vE D t L;rw[<-nP l]at p;cases o:(bh ops i).op.run ea c.Z with
  |none=>rw[o]at p;exact p.elim
  |some q=>
   have⟨v,Z1⟩:=q;rw[o]at p;have⟨vv,c2,A,B,I,g4,J,K⟩:=p;have u:Z1=c.Z:=wS l o;rw[u]at A o;have⟨W,X⟩:=ay5 V H U g (F.trans B) (A.trans M) I ((t.frame B).putO J) K;refine⟨⟨v,λZ' hs=> ?_,W⟩,X⟩;cases k:(bh ops i).op.isLoad with
   |false=>exact RH l k o Z'
   |true=>
    rw[k]at j;have E:=KL D t k o;cases w:ah5 c.S (bh ops i).op e with
    |none=>rw[w]at j;cases j
    |some s=>
     cases s with
     |none=>rw[w]at j;cases j
     |some q=>
      rw[w]at j E
      have T:q=n:=by
       simp only[cM,cL,aZ0]at j;exact bB j
      subst T;have⟨P,_,Q⟩:=E;refine Q Z' λb' N=> ?_
      cases r:(ag c.S q).dim with
      |none=>exact(P r).elim
      |some d=>
       have⟨_,q2⟩:=F.al q d H r
       grind
theorem U5 {T:Ab.i7}{Q:cy->Hp->Prop}{ach:List<|Nat×(Hp->Prop)}{b m L:Nat}{x:Ab.Blk}{Z:Hp}(K:Z.m b=O x): ∀(g pre:List Nat) {f n:Nat} {D D2:List Nat} {ea:cy} {gl:List<|Nat×(Hp->Prop)},ai7 ops g f D=O (n,D2)->YJ ops b x g ea->okG ops m L pre g=Za->Il ops b x pre ea->(∀p∈gl,∀Z':Hp,Z'.m b=O x->p.2 Z')->
  (∀ea' d,Il ops b x (g.reverse++pre) ea'->(∀p∈d,∀Z':Hp,Z'.m b=O x->p.2 Z')->(∀t,t∉vG ops g->ea' t=ea t)->EX T Q ops n D2 (d++ach) ea' Z)->EX T Q ops f D (gl++ach) ea Z
 |[],pre,f,n,D,D2,ea,gl,h,C,z,A,q,F=>by
  simp only[ai7]at h
  grind
 |i::g,pre,0,n,D,D2,ea,gl,h,C,z,A,q,F=>by cases h
 |i::g,pre,f+1,n,D,D2,ea,gl,h,C,z,A,q,F=>by
  simp only[ai7]at h;cases o:aO4 (eZ ops D) i&&(bh ops i).guard.isNone with
  |false=>rw[o]at h;cases h
  |true=>
   rw[o,zC]at h;rw[aD]at o;have s:=QY o.1;have⟨p,S,U⟩:=Tw s;have⟨v,J,E⟩:=C;simp only[okG,aD]at z;have⟨⟨⟨⟨⟨⟨⟨o1,o2⟩,o3⟩,o4⟩,o5⟩,o6⟩,o7⟩,o8⟩:=z;simp only[EX];rw[s];simp only[S,yr o.2,if_true,J Z K];have⟨t0,l⟩:=eL.1 o1;have w:=bo.1 o6
   have B:Il ops b x (i::pre)<|ea.putO (bh ops i).dst v:=by
    intro j hj;rcases aw.1 hj with rfl|hj
    .intro Z' P;have M:(bh ops j).op.run (ea.putO (bh ops j).dst v) Z'=(bh ops j).op.run ea Z':=DA λt u=>B8 λt' H e=>Lh (w j cO) t' H (e▸u)
     have N:vO ops j (ea.putO (bh ops j).dst v)=v:=by
      unfold vO;rw[l];exact zE rfl
     rw[M,N];exact J Z' P
    .exact Q0 A (λj hj=>w j<|cB _ hj) (bo.1 o7) j hj
   have I: ∀k:List<|Nat×(Hp->Prop),(∀p∈k,∀Z':Hp,Z'.m b=O x->p.2 Z')->EX T Q ops f (i::D) (k++ach) (ea.putO (bh ops i).dst v) Z:=by
    intro k r;refine U5 K g (i::pre) h E o8 B r λea' d V W X=>F ea' d (by rw[List.reverse_cons,List.append_assoc];exact V) W λt u=> ?_
    simp only[vG,l,List.mem_append,List.mem_singleton,not_or]at u;rw[X t u.2,l];exact zF u.1
   grind
theorem Vw {β:Type}{b:Nat}{x:Ab.Blk}{k:db->ak->Option β}{y:β}{ea:cy}: ∀(g:List Nat) {r q:List LItem} {c:Ctx} {e:db} {chk:HT},Vv g r=O q->Il ops b x g ea->c.Z.m b=O x->(∀j∈g,(bh ops j).dst.isSome=Za)->Rel c->ba c e ea->E8 tab ops r chk e c.S k=O y->
  ∃c' e' n,c'.Z=c.Z/\Le c c'/\Rel c'/\ba c' e' ea/\E8 tab ops q n e' c'.S k=O y
 |[],r,q,c,e,chk,h,_,_,_,w,s,l=>by
  cases h;exact⟨c,e,chk,rfl,Le.refl c,w,s,l⟩
 |i::g,[],q,c,e,chk,h,_,_,_,_,_,_=>by cases h
 |i::g,it::r,q,c,e,chk,h,H,J,I,w,s,l=>by
  simp only[Vv]at h;cases p:aB it.kind 0&&aB it.i i with
  |false=>rw[p]at h;cases h
  |true=>
   rw[p,zC]at h;rw[aD]at p;have U:=bB p.2;subst U;have V:=bB p.1;simp only[E8,V,show aB 0 3=Zb from rfl,show aB 0 2=Zb from rfl,show aB 0 1=Zb from rfl,show aB 0 5=Zb from rfl,zD]at l;obtain⟨A,l⟩:=az l;have E:=vE w s l;rw[<-nP A,H it.i cO c.Z J]at E;have⟨vv,K,C,D,N,g4,P,Q⟩:=E;have⟨_,T⟩:=az Q
   have u:ba K (putO e (bh ops it.i).dst vv) ea:=by
    have F:=(s.frame D).putO (d:=(bh ops it.i).dst) P;have⟨t,W⟩:=eL.1 (I it.i cO)
    have:ea.putO (bh ops it.i).dst (vO ops it.i ea)=ea:=by
     funext B
     unfold vO;rw[W];show(if B=t then ea t else ea B)=ea B
     grind
    rw[this]at F;exact F
   have⟨L,M,o,X,k2,k3,k4,k5⟩:=Vw g h (λj z=>H j<|cB _ z) (by rw[C];exact J) (λj z=>I j<|cB _ z) N u T;exact⟨L,M,o,X.trans C,D.trans k2,k3,k4,k5⟩
def Wp {β:Type}{k:db->ak->Option β}{y:β}{c0:Ctx}: ∀(r:List LItem) {f:Nat} {D:List Nat} {c:Ctx} {e:db} {ea:cy} {chk:HT} {ach:List<|Nat×(Hp->Prop)},ai8 ops r f D=Za->Le c0 c->Rel c->ba c e ea->E8 tab ops r chk e c.S k=O y->EX (gc tab) (qN c0 k y) ops f D ach ea c.Z
 |[],0,D,c,e,ea,chk,ach,h,n,m,j,g=>⟨e,c,rfl,n,m,j,g⟩
 |[],f+1,D,c,e,ea,chk,ach,h,n,m,j,g=>by
  simp only[ai8,aD]at h;simp only[EX];cases d:eZ ops D with
  |some i=>rw[d]at h;cases h.1
  |none=>
   cases w:bw ops D with
   |cons a l=>rw[w]at h;cases h.2
   |nil=>exact⟨e,c,rfl,n,m,j,g⟩
 |it::r,0,D,c,e,ea,chk,ach,h,n,m,j,g=>by cases h
 |it::r,f+1,D,c,e,ea,chk,ach,h,n,m,j,g=>by
  simp only[ai8,aD]at h;have⟨⟨⟨H,I⟩,J⟩,K⟩:=h;have d:=QY I;have⟨p,M,s⟩:=Tw d;have L:=bB H;simp only[E8,L,show aB 0 3=Zb from rfl,show aB 0 2=Zb from rfl,show aB 0 1=Zb from rfl,show aB 0 5=Zb from rfl,zD]at g;obtain⟨_,g⟩:=az g;have o:=vE m j g;rw[<-nP s]at o;simp only[EX];rw[d];simp only[M,yr J,if_true];cases u:(bh ops it.i).op.run ea c.Z with
  |none=>rw[u]at o;exact o.elim
  |some q=>
   have⟨v,Z1⟩:=q;rw[u]at o;have⟨Q,N,A,z,B,P,C,E⟩:=o;have⟨_,F⟩:=az E;have t:Z1=c.Z:=wS s u;have:=Wp r (ach:=if(bh ops it.i).op.isLoad=Za then(it.i,λZ'=>(bh ops it.i).op.run ea Z'=O (v,Z'))::ach else ach) K (n.trans z) B ((j.frame z).putO C) F;rw[A,t]at this;exact this
def Hx {m c:Nat}: ∀{g pre:List Nat},okG ops m c pre g=Za->∀i∈g,(bh ops i).dst.isSome=Za/\tS (bh ops i).dst (vL (bh ops m).op)=Za/\neO (bh ops i).dst (bh ops m).dst=Za/\tS (bh ops c).dst (bh ops i).op.reads=Za/\neO (bh ops c).dst (bh ops i).dst=Za
 |[],_,_,_,h=>by cases h
 |j::g,pre,d,i,h=>by
  simp only[okG,aD]at d;have⟨⟨⟨⟨⟨⟨⟨k,l⟩,n⟩,o⟩,p⟩,_⟩,_⟩,q⟩:=d;rcases aw.1 h with rfl|h
  .exact⟨k,l,n,o,p⟩
  .exact Hx q i h
theorem K9 {t:Nat}: ∀{g:List Nat},t∈vG ops g->∃i∈g,(bh ops i).dst=O t
 |[],h=>by cases h
 |i::g,h=>by
  simp only[vG]at h;rcases cI.1 h with h|h
  .cases d:(bh ops i).dst with
   |none=>rw[d]at h;cases h
   |some m=>
    grind
  .obtain⟨j,k,l⟩:=K9 h
   grind
theorem am0 {β:Type}{k:db->ak->Option β}{y:β}{ach:List<|Nat×(Hp->Prop)}{ls nd D D1 g:List Nat}{d r:LItem}{r2 r3:List LItem}{pd:Nat->Nat}{f f1 m:Nat}{vf:Nat->Value}(h0:Rel c0)
  (F:d.kind=1) (w:r.kind=2) (u:r.i=m) (hfr:qY (bh ops m).op=Za) (hF:qs (bh ops m).op ea x vf) (H:tS (bh ops m).dst (vL (bh ops m).op)=Za) (hgc:(bh ops d.i).guard.isNone=Za)
  (hls1:ls.all (λi=>vx ops i m||lV i nd)=Za) (hls2:ls.all (λi=>vx ops i d.i||lV i d.chks)=Za) (L:vJ ops d.i Zb [m] [r]=Za) (I:okG ops m d.i [] g=Za) (hS:ai7 ops g f (m::D)=O (f1+1,D1)) (hns:eZ ops D1=Y) (N:bw ops D1=[d.i]) (hL:Vv g r2=O r3) (hZ:ai8 ops r3 f1 (d.i::D1)=Za)
  (W:InvL ops c0 c e ea ach chk [] ls nd [d,r] pd) (hcl: ∀t∈vG ops g,lU e t= .undef) (J:YJ ops c.Z.n x g<|ea.putO (bh ops m).dst<|vf c.Z.n) (hz:E8 tab ops (d::r::r2) chk e c.S k=O y):
  Dr ops m (c.Z.add x) ach/\EX (gc tab) (qN c0 k y) ops f (m::D) ach (ea.putO (bh ops m).dst<|vf c.Z.n) (c.Z.add x):=by
 have s:=K7 W V2 hfr hF (by simp[vJ,F,w,u,show aB 1 2=Zb from rfl,show aB 2 2=Za from rfl]) H (by simp[F,w,u,show aB 1 2=Zb from rfl,show aB 2 2=Za from rfl]);have hx:(c.Z.add x).m c.Z.n=O x:=zE rfl;refine⟨qZ s.K W.nd λi B=> ?_,U5 (ach:=ach) (gl:=[]) hx g [] hS J I (λ_ h=>by cases h) (λ_ h=>by cases h) λA gl hf2 hgl o=> ?_⟩
 .rw[W.ks]at B
  grind
 .obtain⟨p,hp,hst⟩:=O3 (show d.i∈bw ops D1 by rw[N];simp);simp only[EX];rw[hns];simp only[N,NX,hp,yr hgc,if_true]
  have V:ba ⟨c.μ,c.S,c.Z.add x,λb=>c.fb b∨b=c.Z.n⟩ e A:=by
   intro t;by_cases z:t∈vG ops g
   .rw[hcl t z];exact .undef _
   .rw[o t z];exact s.E t
  have l:InvL ops c0 ⟨c.μ,c.S,c.Z.add x,λb=>c.fb b∨b=c.Z.n⟩ e A ach chk [m] ls nd [d,r] (λq=>if q=m then c.Z.n else pd q):=by
   refine⟨s.le,s.R,V,s.K,s.ks,s.nd,s.fb,s.nod,s.inj,s.new,λq hq=> ?_,s.und,s.ds⟩;have⟨q1,x',vf',q2,q3,q4⟩:=s.pend q hq;have M:=cc.1 hq;refine⟨q1,x',vf',q2.same q1 λt z=>o t λhm=> ?_,q3,λt z=>(o t λhm=> ?_).trans<|q4 t z⟩
   .obtain⟨i,B,hd⟩:=K9 hm;rw[M]at z;exact Lh (Hx I i B).2.1 t hd z
   .obtain⟨i,B,hd⟩:=K9 hm;rw[M]at z;exact ab6 (Hx I i B).2.2.1 t hd z
  simp only[E8,F,show aB 1 3=Zb from rfl,show aB 1 2=Zb from rfl,show aB 1 1=Za from rfl,zD,zC]at hz;refine lq (bz tab) (λv Z' hx'=> ?_)<|vE l.R l.E hz;have⟨vv,c4,g1,T,g3,g4,g5,g6⟩:=hx';have⟨U,g8⟩:=az g6;rw[aD]at U;have hn:=l.K.next T g4
  subst g1;have X:=l.on L T g3 g5 hn l.ks U.2
  have P:c4.Z.m c.Z.n=O x:=by
   refine T.un _ _ hx λho=> ?_
   have⟨j,hj1,hj2⟩:=ho;exact l.R.fbk j _ (mT hj1) hj2 (.inr rfl)
  refine⟨Ab.qZ λi p hip hbf=> ?_, ?_⟩
  .rcases cI.1 hip with h|h
   .exact hgl _ h _ P
   .refine Ab.Ht (qZ hn U.1 λi B=> ?_) i p h hbf;rw[l.ks]at B
    grind
  .simp only[E8,w,show aB 2 3=Zb from rfl,show aB 2 2=Za from rfl,zD,zC]at g8;have⟨c5,e5,l1,Q,l3,_⟩:=OV (K:=λe' S'=>E8 tab ops r2 _ e' S' k) h0 X (by rw[w];rfl) (by rw[u];simp) g8;have hP:Dj r.i [m]=[]:=by rw[u];simp[Dj]
   rw[hP]at Q
   have hfb:c5.fb=c0.fb:=by
    funext b
    refine propext ((Q.fb b).trans ⟨λh=> ?_, .inl⟩)
    simp_all
   have hle:Le c0 c5:=by
    have:=Q.le;rw[<-hfb]at this;exact this
   have hf4:Il ops c.Z.n x g<|A.putO (bh ops d.i).dst v:=by
    refine Q0 (λj C=>hf2 j (by simp[C])) (λj C=>(Hx I j C).2.2.2.1) λj C=>(Hx I j C).2.2.2.2
   have⟨c6,e6,chk6,k1,k2,k3,k4,k5⟩:=Vw g hL hf4 (by rw[l1];exact P) (λj C=>(Hx I j C).1) Q.R Q.E l3;have:=Wp r3 (ach:=gl++ach) hZ (hle.trans k2) k3 k4 k5;rw[k1,l1]at this;exact this
theorem OB {β:Type}{c0:Ctx}{k:db->ak->Option β}{y:β}(U:Rel c0): ∀(f:Nat) {D P ls nd:List Nat} {r:List LItem} {c:Ctx} {e:db} {ea:cy} {ach:List<|Nat×(Hp->Prop)} {chk:HT} {pd:Nat->Nat},Qo ops f D P ls nd r=Za->InvL ops c0 c e ea ach chk P ls nd r pd->E8 tab ops r chk e c.S k=O y->
  EX (gc tab) (qN c0 k y) ops f D ach ea c.Z
 |0,D,P,ls,nd,r,c,e,ea,ach,chk,pd,h,s,T=>Tg U r h s T
 |f+1,D,P,ls,nd,r,c,e,ea,ach,chk,pd,h,s,T=>by
  simp only[Qo]at h;simp only[EX];cases hns:eZ ops D with
  |some i=>
   rw[hns]at h;simp only[aD]at h⊢;obtain⟨hg,h⟩:=h;have⟨p,ho,J⟩:=Tw hns;rw[ho]
   have hw:wanted (bh ops i) ea=Za:=by
    unfold wanted
    grind
   simp only[hw,if_true];cases hs:ET r P i with
   |none=>rw[hs]at h;cases h
   |some q=>
    have⟨P',it,r'⟩:=q;rw[hs]at h;simp only[aD]at h;have⟨⟨hk0,hd⟩,hc⟩:=h;have⟨c1,e1,A,B,h3,h4,h5,h6⟩:=Kj U r hs s T;subst h5;have u:aB it.kind 1=Zb:=by rw[bB hk0];rfl
    have hk3:aB it.kind 3=Zb:=by rw[bB hk0];rfl
    have hk5:aB it.kind 5=Zb:=by rw[bB hk0];rfl
    simp only[E8,h4,u,hk3,hk5,zD]at h3;obtain⟨_,h3⟩:=az h3;have h7:=vE B.R B.E h3;rw[<-nP J,A]at h7;cases hr:(bh ops it.i).op.run ea c.Z with
    |none=>rw[hr]at h7;exact h7.elim
    |some q=>
     have⟨v,Z1⟩:=q;rw[hr]at h7;have⟨vv,c2,g1,W,g3,g4,g5,g6⟩:=h7;simp only
     have hdd:JB tab (bh ops it.i).op e1 c1.S=[]:=by
      cases hop:(bh ops it.i).op<;>rw[hop]at J<;>first|(cases J;done)|rfl
     have hZ1:Z1=c.Z:=wS J hr;have⟨L,g8⟩:=az g6;have hn:=B.K.next W g4
     rw[hdd,Bz]at hn
     have Q: ∀{C:List<|Nat×(Hp->Prop)} {F:HT} {ls':List Nat},ChkRel c2 C F->C.map (·.1)=ls'->rc it.need F=Za->E8 tab ops r' F (putO e1 (bh ops it.i).dst vv) c2.S k=O y->Qo ops f (it.i::D) P' ls' it.need r'=Za->
       EX (gc tab) (qN c0 k y) ops f (it.i::D) C (ea.putO (bh ops it.i).dst v) c.Z:=by
      intro C F ls' q1 q2 q3 q4 q5;have:=OB U f q5 (B.on hd W g3 g5 q1 q2 q3) q4;rw[g1,hZ1]at this;exact this
     cases hld:(bh ops it.i).op.isLoad with
     |false=>
      rw[hld]at L g8 hc;rw[zF V5];exact Q hn B.ks L g8 hc
     |true=>
      rw[hld]at L g8 hc;rw[zE rfl];have hkp:=KL B.R B.E hld (by rw[A];exact hr);have hn2:=(ChkRel.cons (i:=it.i) (f:=λ_=>Zb) hkp (λ_ _ _ h=>by cases h) B.K).next W g4
      rw[hdd,Bz]at hn2;exact Q hn2 (by rw[List.map_cons,B.ks];rfl) L g8 hc
  |none=>
   rw[hns]at h;simp only at h⊢;cases hgp:aZ9 r with
   |true=>
    rw[hgp,zC,aD]at h;have⟨X,hB⟩:=h
    obtain⟨it,w,g,r2,rfl⟩: ∃it w g r2,r=it::w::g::r2:=by
     match r,X with
     |it::w::g::r2,_=>exact⟨it,w,g,r2,rfl⟩
     |[],X=>cases X
     |[_],X=>cases X
     |[_,_],X=>cases X
    simp only[aw7,aD]at X;have⟨⟨⟨⟨⟨⟨⟨⟨⟨⟨⟨⟨⟨⟨⟨a1,a2⟩,a3⟩,a4⟩,a5⟩,a6⟩,a7⟩,a8⟩,a9⟩,a10⟩,a11⟩,a12⟩,a13⟩,M⟩,a15⟩,V⟩:=X
    have hP:P=[]:=by
     grind
    subst hP;have hk5:it.kind=5:=bB hgp;have u:=bB a2;have hkm:=bB a3;have N:=bB a4;simp only[E8,hk5,show aB 5 3=Zb from rfl,show aB 5 2=Zb from rfl,show aB 5 1=Zb from rfl,show aB 5 5=Za from rfl,zD,zC]at T;have hds:=s.ds;simp only[Ie,aD]at hds
    have d:InvL ops c0 c (sf e<|vG ops it.chks) ea ach chk [] ls nd (w::g::r2) pd:=by
     refine⟨s.le,s.R,λt=> ?_,s.K,s.ks,s.nd,s.fb,s.nod,s.inj,s.new,s.pend,λj hj hk t ht=> ?_,by simp only[Ie,aD];exact hds.2⟩
     .rcases @Ao (vG ops it.chks) e t with A|⟨_,A⟩
      .rw[A];exact .undef _
      .rw[A];exact s.E t
     .rcases @Ao (vG ops it.chks) e t with A|⟨_,A⟩
      .exact A
      .rw[A];exact s.und j (cB _ hj) hk t ht
    have hI2:InvL ops c0 c (sf e<|vG ops it.chks) ea ach chk [] ls nd [w,g] pd:=by
     refine⟨d.le,d.R,d.E,d.K,d.ks,d.nd,d.fb,d.nod,d.inj,d.new,d.pend,λj hj hk t ht=>d.und j (by simp only[cN,List.not_mem_nil,or_false]at hj⊢;rcases hj with h|h<;>simp[h]) hk t ht,by simp[Ie,u,show aB 1 2=Zb from rfl]⟩
    have hcl: ∀t∈vG ops it.chks,lU (sf e<|vG ops it.chks) t= .undef:=by
     intro t ht;rcases @Ao (vG ops it.chks) e t with A|⟨A,_⟩
     .exact A
     .exact(A ht).elim
    have⟨_,_,_,x,vf,_,hFF⟩:=EA d.E T;have hF:=hFF.run;have H:=K7 hI2 V2 a5 hF (by simp[vJ,u,hkm,N,show aB 1 2=Zb from rfl,show aB 2 2=Za from rfl]) a9 (by simp[u,hkm,N,show aB 1 2=Zb from rfl,show aB 2 2=Za from rfl]);rw[<-N]at T H
    have hN3:InvL ops c0 ⟨c.μ,c.S,c.Z.add x,λb=>c.fb b∨b=c.Z.n⟩ (sf e<|vG ops it.chks) (ea.putO (bh ops g.i).dst<|vf c.Z.n) ach chk [g.i] ls nd [g] (λq=>if q=g.i then c.Z.n else pd q):=
     ⟨H.le,H.R,H.E,H.K,H.ks,H.nd,H.fb,H.nod,H.inj,H.new,H.pend,λj hj hk t ht=>H.und j (cB _ hj) hk t ht,by simp[Ie]⟩
    have⟨c3,e3,l1,l2,l3,l4,l5,_⟩:=OV (K:=λe2 S2=>evG tab ops (hW c.S) it.chks e2 S2<|E8 tab ops (w::g::r2) chk (sf e<|vG ops it.chks) c.S k) U hN3 (by rw[hkm];rfl) V2 T;have⟨hGrp,hz⟩:=ay5 (b:=c.Z.n) (x:=x) (by rw[l4];simp) l5 (by rw[l1];exact zE rfl) it.chks (Le.refl c3) rfl l2.R l2.E l3;rw[N]at hGrp
    have hdst:vJ ops w.i Zb [it.i] [g]=Za:=by
     simp only[vJ,aD,List.all_cons]at M⊢;exact⟨M.1,M.2.1,rfl⟩
    cases I:bw ops D with
    |nil=>rw[I]at a10;cases a10
    |cons a l=>
     refine SV λm hm=> ?_
     have hmem:m∈bw ops D:=by rw[I];exact hm
     have⟨p,ho,J⟩:=O3 hmem;have hor:=bo.1 a11 m hmem;rw[cK]at hor;rw[ho];rcases hor with hor|hor
     .have:=bB hor;subst this;simp only[yr a7,if_true];split at V
      .rename_i f1 D1 r3 hS hL;simp only[aD]at V;have⟨⟨b1,b2⟩,b3⟩:=V
       have hns1:eZ ops D1=Y:=by
        cases h:eZ ops D1 with
        |none=>rfl
        |some i=>rw[h]at b1;cases b1
       have hrm1:bw ops D1=[w.i]:=by
        split at b2
        .rename_i x hx;rw[hx,bB b2]
        .cases b2
       exact cz (hF c.Z) (am0 U u hkm N a5 hF a9 a8 a12 a13 hdst a15 hS hns1 hrm1 hL b3 hI2 hcl hGrp hz)
      .cases V
     .have:=bB hor;subst this;simp only[yr a8,if_true];simp only[E8,u,show aB 1 3=Zb from rfl,show aB 1 2=Zb from rfl,show aB 1 1=Za from rfl,zD,zC]at hz;refine lq (bz tab) (λv Z' hx'=> ?_)<|vE d.R d.E hz;have⟨vv,c2,g1,W,g3,g4,g5,g6⟩:=hx';have⟨L,g8⟩:=az g6;rw[aD]at L;have hn:=d.K.next W g4
      subst g1
      have hd0:vJ ops w.i Zb [] (g::r2)=Za:=by
       simp only[vJ,aD]at M⊢;exact⟨rfl,M.2⟩
      refine⟨qZ hn L.1 λi hi=> ?_,OB U f hB (d.on hd0 W g3 g5 hn d.ks L.2) g8⟩;rw[d.ks]at hi;have:=bo.1 a13 i hi
      grind
   |false=>
   rw[hgp,zD]at h
   have each: ∀{ms:List Nat},(∀m∈ms,m∈bw ops D)->(ms.all λm=>(bh ops m).guard.isNone&&cond (qY (bh ops m).op)
    (!lV m P&&r.any (λit=>aB it.kind 2&&aB it.i m)&&(OQ (bh ops m).op||OO ops r m)&&vJ ops m Za P r&&tS (bh ops m).dst (vL (bh ops m).op)&&ls.all (λi=>vx ops i m||lV i nd)&&Qo ops f (m::D) (m::P) ls nd r)
    (match ET r P m with
    |some (P',it,r')=>aB it.kind 1&&vJ ops m Zb P' r'&&ls.all (λi=>vx ops i m||lV i it.chks)&&Qo ops f (m::D) P' ls it.need r'
    |none=>Zb))=Za->NX (λm=>match ops[m]? with
     |some (o,_)=>if wanted o ea then cj (gc tab) o.op ea c.Z λv Z'=>Dr ops m Z' ach/\EX (gc tab) (qN c0 k y) ops f (m::D) ach (ea.putO o.dst v) Z'
      else EX (gc tab) (qN c0 k y) ops f (m::D) ach (ea.putO o.dst undef) c.Z
     |none=>False) ms:=by
    intro ms hms hall;refine SV λm hm=> ?_
    have h:=bo.1 hall m hm;simp only[aD]at h;obtain⟨hg,h⟩:=h;have⟨p,ho,J⟩:=O3<|hms m hm;rw[ho]
    have hw:wanted (bh ops m) ea=Za:=by
     unfold wanted
     grind
    simp only[hw,if_true];cases hfr:qY (bh ops m).op with
    |false=>
     rw[hfr,zD]at h;cases hs:ET r P m with
     |none=>rw[hs]at h;cases h
     |some q=>
      have⟨P',it,r'⟩:=q;rw[hs]at h;simp only[aD]at h;have⟨⟨⟨u,hd⟩,hls⟩,hc⟩:=h;have⟨c1,e1,A,B,h3,h4,h5,h6⟩:=Kj U r hs s T;subst h5;have hk3:aB it.kind 3=Zb:=by rw[bB u];rfl
      simp only[E8,h4,u,hk3,zD,zC]at h3;have h7:=vE B.R B.E h3;rw[A]at h7;refine lq (bz tab) (λv Z' hx=> ?_) h7;have⟨vv,c2,g1,W,g3,g4,g5,g6⟩:=hx;have⟨L,g8⟩:=az g6;rw[aD]at L;have hn:=B.K.next W g4
      subst g1;refine⟨qZ hn L.1 λi hi=> ?_,OB U f hc (B.on hd W g3 g5 hn B.ks L.2) g8⟩;rw[B.ks]at hi
      simp_all
    |true=>
     rw[hfr,zC]at h;simp only[aD]at h;have⟨⟨⟨⟨⟨⟨hnm,hany⟩,hor⟩,hd⟩,hself⟩,hls⟩,hc⟩:=h;have hmP:m∉P:=λe=>by rw[lm.2 e]at hnm;cases hnm
     obtain⟨x,vf,hF⟩: ∃x vf,qs (bh ops m).op ea x vf:=by
      rw[cK]at hor;rcases hor with hor|hor
      .cases hop:(bh ops m).op<;>rw[hop]at hor<;>first|(cases hor;done)|skip
       case alloc es z=>exact⟨⟨z,Za,es⟩,λn=> .pointer<|O ⟨n,0,Y⟩,λZ=>rfl⟩
      .obtain⟨x,vf,_,A⟩:=M7 r hor s.E (λt _=>rfl) T;exact⟨x,vf,A⟩
     have d:=K7 s hmP hfr hF hd hself hany;refine cz (hF c.Z) ⟨qZ d.K s.nd λi hi=> ?_, ?_⟩
     .rw[s.ks]at hi
      grind
     .exact OB U f hc d T
   cases I:bw ops D with
   |nil=>rw[I]at h;exact Tg U r h s T
   |cons a l=>
    rw[I]at h;exact each (λm hm=>by rw[I];exact hm) h
end
end
section
open Bool renaming and_eq_true->aB
open List renaming mem_cons_self->aD,mem_cons_of_mem->bD,mem_of_getElem?->cB
open Nat renaming zero_add->bB,eq_of_beq_eq_true->cD
section
variable {tab:Tab}
def Wa {t:Nat}{p:Bool}(g:ba c e ea)(j:lU e t= .bool p):ba c (rF e t<|.bool p) ea:=by
 have d:=g t;rw[j]at d;have d:=d.bool_inv;intro i;rw[yg];by_cases h:i=t
 .subst h;rw[zE rfl,d];exact .bool _
 rw[zF h];exact g i
theorem Iz {β:Type}{y:β}: ∀{s:List SItem} {c:Ctx} {e:db} {ea:cy} {chk:HT} {ach:List<|Nat×(Hp->Prop)} {k:db->ak->Option β},Rel c->ba c e ea->ChkRel c ach chk->vD tab s chk e c.S k=O y->Un (gc tab) (qN c k y) s ach ea c.Z
 |[],c,e,ea,chk,ach,k,A,n,D,h=>⟨e,c,rfl,Le.refl c,A,n,h⟩
 |it::r,c,e,ea,chk,ach,k,A,n,D,h=>by
  have z: ∀l,ba c l ea->K1 tab it chk l c.S (λg E S'=>vD tab r g E S' k)=O y->
    (if it.mover then cj (gc tab) it.o.op ea c.Z (λv Z'=>Af it.chks Z' ach/\Un (gc tab) (qN c k y) r ach (ea.putO it.o.dst v) Z')
    else match it.o.op.run ea c.Z with
     |some (v,_)=>Un (gc tab) (qN c k y) r (if it.keep then(it.idx,λZ'=>it.o.op.run ea Z'=O (v,Z'))::ach else ach) (ea.putO it.o.dst v) c.Z
     |none=>False):=by
   intro l m C;refine aj6 (Q:=λd ea' Z'=>Un (gc tab) (qN c k y) r d ea' Z') A m D C λc' d g E ea' I J K L M=> ?_
   exact G5 (bz tab) (λF Z'' q=>q.of I) _ _ _ _ (Iz J L K M)
  have skip: ∀l,ba c l ea->vD tab r chk (putO l it.o.dst<|.tup []) c.S k=O y->Un (gc tab) (qN c k y) r ach (ea.putO it.o.dst undef) c.Z:=λl m C=>Iz A (m.putO<|.tup .nil) D C
  simp only[vD]at h;simp only[Un];split at h
  .rename_i B;have:wanted it.o ea=Za:=by simp only[wanted,B]
   rw[zE this];exact z e n h
  .rename_i t w B;split at h
   .rename_i p q;have j:=n t;rw[q]at j;have j:=j.bool_inv;have N:wanted it.o ea=(p==w):=by simp only[wanted,B,j]
    have H:=Wa n q
    grind
   .rename_i q;have j:=n t;rw[q]at j
    have N:wanted it.o ea=Zb:=by
     simp only[wanted,B];generalize ea t=u at j;cases j;rfl
    grind
   .cases h
def tH (as:List Nat)(e e':cy):Prop:= ∀t,t∉as->e' t=e t
def tH.refl (as:List Nat)(e:cy):tH as e e:=λ_ _=>rfl
def tH.put {as:List Nat}{e e':cy}{d:Option Nat}(h:tH as e e')(j: ∀t,t∈Te d->t∈as):tH as e<|e'.putO d v:=by
 intro t g;cases d with
 |none=>exact h t g
 |some d=>
  have:t≠d:=by rintro rfl;exact g (j t<|cc.2 rfl)
  simp only[cy.putO,cy.put,zF this];exact h t g
def IT {T:Ab.i7}(g:we T){Q:cy->Hp->Prop}{as:List Nat}{e0:cy}: ∀{ops:List AOper} {e:cy} {Z:Hp},(∀o,o∈ops->∀t,t∈Te o.dst->t∈as)->tH as e0 e->Ab.BB T Q ops e Z->Ab.BB T (λe' Z'=>tH as e0 e'/\Q e' Z') ops e Z
 |[],e,Z,_,d,h=>⟨d,h⟩
 |o::r,e,Z,j,d,h=>by
  simp only[Ab.BB]at h⊢;have l: ∀o,o∈r->∀t,t∈Te o.dst->t∈as:=λo m=>j o (bD _ m)
  split at h
  .rename_i k;rw[zE k];exact lq g (λv Z' n=>IT g l (d.put<|j o aD) n) h
  .rename_i k;rw[zF k];exact IT g l (d.put<|j o aD) h
def Kt {T:Ab.i7}(j:we T){Q:cy->Hp->Prop}{as:List Nat}{e0:cy}: ∀{d:List SItem} {chk:List<|Nat×(Hp->Prop)} {e:cy} {Z:Hp},(∀o,o∈d->∀t,t∈Te o.o.dst->t∈as)->tH as e0 e->Un T Q d chk e Z->Un T (λe' Z'=>tH as e0 e'/\Q e' Z') d chk e Z
 |[],chk,e,Z,_,g,h=>⟨g,h⟩
 |it::r,chk,e,Z,k,g,h=>by
  simp only[Un]at h⊢;have m: ∀o,o∈r->∀t,t∈Te o.o.dst->t∈as:=λo q=>k o (bD _ q)
  split at h
  .rename_i n;rw[zE n];split at h
   .rename_i l;rw[zE l];exact lq j (λv Z' p=>⟨p.1,Kt j m (g.put<|k it aD) p.2⟩) h
   .rename_i l;rw[zF l];split at h
    .exact Kt j m (g.put<|k it aD) h
    .exact h.elim
  .rename_i n;rw[zF n];exact Kt j m (g.put<|k it aD) h
def UO {F G:Nat->Prop}(h: ∀m,F m->G m): ∀{l:List Nat},NX F l->NX G l
 |[],_=>trivial
 |[m],q=>h m q
 |m::d::r,q=>⟨h m q.1,UO h q.2⟩
def G3 {T:Ab.i7}(r:we T){Q:cy->Hp->Prop}{as:List Nat}{e0:cy}{ops:List<|AOper×List Nat}(g: ∀o,o∈ops->∀t,t∈Te o.1.dst->t∈as): ∀(f:Nat) {D:List Nat} {chk:List<|Nat×(Hp->Prop)} {e:cy} {Z:Hp},tH as e0 e->EX T Q ops f D chk e Z->EX T (λe' Z'=>tH as e0 e'/\Q e' Z') ops f D chk e Z
 |0,D,chk,e,Z,k,h=>⟨k,h⟩
 |f+1,D,chk,e,Z,k,h=>by
  simp only[EX]at h⊢;cases w:eZ ops D with
  |some i=>
   rw[w]at h;simp only at h⊢;cases n:ops[i]? with
   |none=>rw[n]at h;exact h
   |some p=>
    have⟨o,u⟩:=p;rw[n]at h;have d:(o,u)∈ops:=cB n;simp only at h⊢;split at h
    .rename_i q;rw[zE q];split at h
     .rename_i v Z' s;exact G3 r g f (k.put<|g _ d) h
     .exact h.elim
    .rename_i q;rw[zF q];exact G3 r g f (k.put<|g _ d) h
  |none=>
   rw[w]at h;simp only at h⊢;cases s:bw ops D with
   |nil=>rw[s]at h;exact⟨k,h⟩
   |cons a l=>
    rw[s]at h;simp only at h⊢;refine UO (λm d=> ?_) h;cases n:ops[m]? with
    |none=>rw[n]at d;exact d
    |some p=>
     have⟨o,u⟩:=p;rw[n]at d;have j:(o,u)∈ops:=cB n;simp only at d⊢;split at d
     .rename_i q;rw[zE q];exact lq r (λv Z' z=>⟨z.1,G3 r g f (k.put<|g _ j) z.2⟩) d
     .rename_i q;rw[zF q];exact G3 r g f (k.put<|g _ j) d
theorem yt {T:Ab.i7}(k:we T){as:List Nat}{e0:cy}: ∀(c:AC) {Q:AExit->cy->Hp->Prop} {e:cy} {Z:Hp},GC c=Za->(∀t,t∈nK c->t∈as)->tH as e0 e->yu T c Q e Z->yu T c (λx e' Z'=>tH as e0 e'/\Q x e' Z') e Z
 | .skip,_,_,_,_,_,d,h=>⟨d,h⟩
 | .exit _,_,_,_,_,_,d,h=>⟨d,h⟩
 | .ret,_,_,_,_,_,d,h=>⟨d,h⟩
 | .region ops,Q,e,Z,_,g,d,h=>IT k (λo r t j=>g t<|dl.2 ⟨o,r,j⟩) d h
 | .sched w,Q,e,Z,_,g,d,h=>Kt k (λo r t j=>g t<|dl.2 ⟨o,r,j⟩) d h
 | .draw ops,Q,e,Z,_,g,d,h=>G3 k (λo r t j=>g t<|dl.2 ⟨o,r,j⟩) _ d h
 | .seq a b,Q,e,Z,l,g,d,h=>by
  simp only[GC,aB]at l;have q:=yt k a l.1 (λt j=>g t<|cI.2<|.inl j) d h;refine gu k a _ _ (λx e' Z' u=> ?_) e Z q;obtain⟨m,p⟩:=u;cases x with
  |normal=>exact yt k b l.2 (λt j=>g t<|cI.2<|.inr j) m p
  |exit i=>exact⟨m,p⟩
  |ret=>exact⟨m,p⟩
 | .cond c a b,Q,e,Z,l,g,d,h=>by
  simp only[GC,aB]at l;simp only[yu]at h⊢;split at h
  .exact yt k a l.1 (λt j=>g t<|cI.2<|.inl j) d h
  .exact yt k b l.2 (λt j=>g t<|cI.2<|.inr j) d h
  .exact h.elim
 | .block id b,Q,e,Z,l,g,d,h=>by
  have q:=yt k b l g d h;refine gu k b _ _ (λx e' Z' u=> ?_) e Z q
  grind
 | .loop b,Q,e,Z,l,g,d,h=>by
  obtain⟨n,s⟩:=h;refine⟨n, ?_⟩;induction n generalizing e Z with
  |zero=>exact s.elim
  |succ n z=>
   simp only[jE]at s⊢;have q:=yt k b l g d s;refine gu k b _ _ (λx e' Z' u=> ?_) e Z q
   grind
def KY {S:ak}{N:Nat}{vals:List VV}{t:BC sk.shs}(h:Oq S N fx sk vals=O t):sk.noRo=Za/\∃st,nN S N fx sk vals=O st/\Ni sk.shs t=st.ls:=by
 unfold Oq at h;have⟨d,g⟩:=az h;have⟨st,j,k⟩:=ai g;exact⟨d,st,j,B6 k⟩
def ax7 {S:ak}{N:Nat}{vals:List VV}{t:BC sk.shs}(h:Y4 S N fx sk vals=O t):sk.fxRo=Za/\∃st,nN S N fx sk vals=O st/\Ni sk.shs t=st.ls:=by
 unfold Y4 at h;have⟨d,g⟩:=az h;have⟨st,j,k⟩:=ai g;exact⟨d,st,j,B6 k⟩
def Hf {S:ak}{N:Nat}{fx:List Nat}{vals:List Nat->List VV}{d:XK->Bool}: ∀{l:List Alt} {s:wF l},yN S N fx vals d l=O s->∃p,au5 l s=O p/\d p.1.x=Za/\Oq S N fx p.1.sk (vals p.1.ts)=O p.2
 |[],s,h=>by cases h
 |[a],s,h=>by
  simp only[yN]at h;cases g:d a.x with
  |false=>rw[g]at h;cases h
  |true=>rw[g]at h;exact⟨⟨a,s⟩,rfl,g,h⟩
 |a::b::r,s,h=>by
  simp only[yN]at h;split at h
  .rename_i t j;cases h;cases g:d a.x with
   |false=>rw[g]at j;cases j
   |true=>rw[g]at j;exact⟨⟨a,t⟩,rfl,g,j⟩
  .obtain⟨u,m,k⟩:=ai h;cases k;have⟨p,n,o,q⟩:=Hf m;exact⟨p,n,o,q⟩
def XK.is_out {x:XK}{y:AExit}(h:x.is y=Za):x.out=y:=by
 cases x<;>cases y<;>simp only[XK.is]at h<;>first|rfl|(cases h;done)|skip
 rename_i i j;rw[show(XK.exit i).out=AExit.exit i from rfl,cD h]
def J5 {c:Ctx}: ∀{ts:List Nat} {e:db} {ea:cy} {vs:List VV},ba c e ea->F2 (VRel c) vs (ts.map ea)->ba c (Wb e ts vs) ea
 |[],e,ea,vs,d,g=>by
  cases g;exact d
 |t::ts,e,ea,vs,d,g=>by
  cases g with
  |cons j k=>
   have:=J5 d k;intro i;simp only[Wb,yg];by_cases h:i=t
   .subst h;rw[zE rfl];exact j
   .rw[zF h];exact this i
def Hc {as:List Nat}(j:ba c e ea)(k:tH as ea ea'):ba c (sf e as) ea':=by
 intro t;rcases Ao (ts:=as) (e:=e) (t:=t)with h|⟨d,g⟩
 .rw[h];exact .undef _
 rw[g,k t d];exact j t
def Nb {c:Ctx}{e:db}{ea:cy}(d:ba c e ea): ∀ts:List Nat,F2 (VRel c) (ts.map<|lU e) (ts.map ea)
 |[]=> .nil
 |t::ts=> .cons (d t)<|Nb d ts
def Tn {β:Type}{e0:db}{j:cy}{g:List Nat}{d:List Alt}{s:wF d}{k:AExit->db->ak->Option β}{y:β}{e':db}{x:AExit}(N:Rel c)(t:ba c e0 j)(l:Rel c')(Q:Within c c1 fx mov)(m:Rel c1)(w:Le c1 c')(z:MO c.S fx=Za)
  (u:tH g j ea') (r:ba c' e' ea') (P:yN c'.S (hW c.S) fx (λts=>ts.map<|lU e') (λy=>y.is x) d=O s) (h:aP4 e0 c.S fx mov g d s k=O y):sD c k y x ea' c'.Z:=by
 have⟨p,I,J,K⟩:=Hf P;have⟨A,st,L,M⟩:=KY K;unfold aP4 at h;rw[SW,I]at h;simp only[zG]at h;rw[XK.is_out J]at h;unfold Ke at h;rw[M]at h;cases o:mY id p.1.sk st.ls with
 |none=>rw[o]at h;cases h
 |some q=>
  have⟨vs,fs,bs⟩:=q;rw[o]at h;simp only[Bool.false_or]at h;cases n:yo fx fs (ke fx mov (B1 vs fs bs) 0 c.S)with
  |none=>rw[n]at h;cases h
  |some S2=>
   rw[n]at h;have⟨C,D,E,B,F,H⟩:=aQ7 N l Q m w z A L o (Nb r _) n;refine⟨_,C,D,B,F,J5 (Hc (t.frame B) u) H, ?_⟩;rw[E];exact h
theorem Xk {S:ak}:vQ S<|ke fx [] Za 0 S:=by
 refine⟨mS,λk=> ?_⟩;by_cases d:k<hW S
 .rw[mR d];simp only[lV,zD,bB]
  grind
 rw[yl (by rw[mS];omega),yl V1];exact .inl rfl
def bC5 (c:Ctx)(e0:db)(g:cy)(fx mov d:List Nat)(ts:List Nat)(sk:rN)(t:BC sk.shs)(ea:cy)(Z:Hp):Prop:=
 ∃c1 h,c1.Z=Z/\Ke e0 c.S fx mov d Za ts sk t=O (h,c1.S)/\Rel c1/\ba c1 h ea/\Within c c1 fx mov/\tH d g ea
theorem PB {e0 e1:db}{S S1:ak}{d ts:List Nat}{t:BC sk.shs}(h:Ke e0 S fx mov d Za ts sk t=O (e1,S1)): ∃vs fs bs S',mY id sk (Ni sk.shs t)=O (vs,fs,bs)/\yo fx fs (ke fx mov Za 0 S)=O S'/\e1=Wb (sf e0 d) ts vs/\S1=S'++bs:=by
 unfold Ke at h
 grind
theorem L7 {ops:List<|AOper×List Nat}: ∀{r:List LItem} {it:LItem} {t:Nat},it∈r->Nat.beq it.kind 2=Za->(bh ops it.i).dst=O t->t∈Hm ops r
 |a::r,it,t,h,d,g=>by
  simp only[Hm];rcases aw.1 h with rfl|h
  .rw[d,zC,g];exact aD
  .have:=L7 h d g
   grind
def bi {α γ:Type}(f:α->Option (α⊕γ))(n:Nat)(a:α):am f (n+1) a=im (f a) λs=>be s (am f n) O:=rfl
def LH {f:(AExit->cy->Hp->Prop)->cy->Hp->Prop}(j: ∀(Q Q':AExit->cy->Hp->Prop),(∀x e Z,Q x e Z->Q' x e Z)->∀e Z,f Q e Z->f Q' e Z){Q:AExit->cy->Hp->Prop}:
  ∀(n m:Nat) (e:cy) (Z:Hp),n<=m->jE f Q n e Z->jE f Q m e Z
 |0,_,_,_,_,h=>h.elim
 |n+1,0,_,_,d,_=>absurd d (Nat.not_succ_le_zero _)
 |n+1,m+1,e,Z,d,h=>by
  simp only[jE]at h⊢;refine j _ _ (λx k Z' g=> ?_) e Z h;cases x with
  |normal=>exact LH j n m k Z' (Nat.le_of_succ_le_succ d) g
  |exit id=>exact g
  |ret=>exact g
def JS {b:AC}(j: ∀(at':AT) {β:Type} {y:β} {c:Ctx} {e:db} {ea:cy} {k:AExit->db->ak->Option β},Rel c->ba c e ea->eval tab b at' β e c.S k=O y->yu (gc tab) b (sD c k y) ea c.Z):
  ∀(at':AT) {β:Type} {y:β} {c:Ctx} {e:db} {ea:cy} {k:AExit->db->ak->Option β},Rel c->ba c e ea->O0 (eval tab b) at' β e c.S k=O y->jE (yu (gc tab) b) (sD c k y) at'.rounds ea c.Z
 | .n l r,β,y,c,e,ea,k,d,g,h=>by
  simp only[O0]at h;have z:=j l d g h;simp only[AT.rounds,jE];refine gu (bz tab) b _ _ (λx ea' Z' C=> ?_) ea c.Z z;have⟨t,c',A,o,p,q,s⟩:=C;subst A;cases x with
  |normal=>exact Ce (gu (bz tab) b) (λx u Z'' B=>qN.of o B) _ _ _ (JS j r p q s)
  |exit i=>exact⟨t,c',rfl,o,p,q,s⟩
  |ret=>exact⟨t,c',rfl,o,p,q,s⟩
 | .sz m l r,β,y,c,e,ea,k,d,g,h=>by
  simp only[O0]at h;simp only[AT.rounds];cases w:Nat.beq m (hW c.S) with
  |true=>
   rw[w]at h;exact LH (gu (bz tab) b) _ _ _ _ (Nat.le_add_right _ _) (JS j l d g h)
  |false=>
   rw[w]at h;exact LH (gu (bz tab) b) _ _ _ _ (Nat.le_add_left _ _) (JS j r d g h)
 | .no,_,_,_,_,_,_,_,_,h=>by cases h
 | .lp _ _ _ _,_,_,_,_,_,_,_,_,h=>by cases h
 | .jn _ _ _ _ _,_,_,_,_,_,_,_,_,h=>by cases h
 | .dr _,_,_,_,_,_,_,_,_,h=>by cases h
 | .all,_,_,_,_,_,_,_,_,h=>by cases h
def Vz {b:AC}(p: ∀{β:Type} {y:β} {c:Ctx} {e:db} {ea:cy} {k:AExit->db->ak->Option β},Rel c->ba c e ea->eval tab b .all β e c.S k=O y->yu (gc tab) b (sD c k y) ea c.Z):
  ∀(n:Nat) {β:Type} {y:β} {c:Ctx} {e:db} {ea:cy} {k:AExit->db->ak->Option β},Rel c->ba c e ea->aB8 (eval tab b .all) n β e c.S k=O y->jE (yu (gc tab) b) (sD c k y) n ea c.Z
 |0,_,_,_,_,_,_,_,_,h=>by cases h
 |n+1,β,y,c,e,ea,k,s,t,h=>by
  have q:=p s t (show eval tab b .all β e c.S (λx d S'=>match x with
   | .normal=>aB8 (eval tab b .all) n β d S' k
   |x=>k x d S')=O y from h)
  simp only[jE];refine gu (bz tab) b _ _ (λx ea' Z' w=> ?_) ea c.Z q;have⟨d,c',r,g,j,l,m⟩:=w;subst r;cases x with
  |normal=>exact Ce (gu (bz tab) b) (λx o Z'' u=>qN.of g u) _ _ _ (Vz p n j l m)
  |exit i=>exact⟨d,c',rfl,g,j,l,m⟩
  |ret=>exact⟨d,c',rfl,g,j,l,m⟩
theorem rE : ∀(ac:AC) (at':AT) {β:Type} {y:β} {c:Ctx} {e:db} {ea:cy} {k:AExit->db->ak->Option β},Rel c->ba c e ea->eval tab ac at' β e c.S k=O y->yu (gc tab) ac (sD c k y) ea c.Z
 | .skip,_,_,_,c,e,ea,k,g,d,h=>⟨e,c,rfl,Le.refl c,g,d,h⟩
 | .exit i,_,_,_,c,e,ea,k,g,d,h=>⟨e,c,rfl,Le.refl c,g,d,h⟩
 | .ret,_,_,_,c,e,ea,k,g,d,h=>⟨e,c,rfl,Le.refl c,g,d,h⟩
 | .region ops,_,_,_,c,e,ea,k,g,d,h=>OC g d h
 | .sched its,_,_,_,c,e,ea,k,g,d,h=>Iz g d .nil h
 | .draw ops,at',_,y,c,e,ea,k,g,d,h=>by
  simp only[eval]at h;split at h
  .rename_i L _;obtain⟨M,h⟩:=az h;rw[aB]at M;refine OB g (hW ops) (pd:=λ_=>0) M.1 ⟨Le.refl c,g,Hc d<|tH.refl _ ea, .nil,rfl,rfl,λb=>⟨.inl,λh=> ?_⟩,List.nodup_nil,(λ_ _ h=>by cases h),(λ_ h=>by cases h),(λ_ h=>by cases h),λit hit T t N=> ?_,M.2⟩ h
   .rcases h with h|⟨_,h,_⟩
    .exact h
    .cases h
   .rcases @Ao (Hm ops<|B3 ops L L []) e t with h1|⟨h1,_⟩
    .exact h1
    .exact(h1<|L7 hit T N).elim
  .cases h
 | .seq a b,at',β,y,c,e,ea,k,g,d,h=>by
  have J: ∀l r,(eval tab a l β e c.S λx B S'=>match x with
    | .normal=>eval tab b r β B S' k
    |x=>k x B S')=O y->yu (gc tab) (.seq a b) (sD c k y) ea c.Z:=by
   intro l r h1;refine gu (bz tab) a _ _ (λx ea' Z' hx=> ?_) ea c.Z<|rE a l g d h1;have⟨B,c',h2,A,E,F,w⟩:=hx;subst h2;cases x with
   |normal=>exact gu (bz tab) b _ _ (λx ea'' Z'' hp=>qN.of A hp) _ _ (rE b r E F w)
   |exit i=>exact⟨B,c',rfl,A,E,F,w⟩
   |ret=>exact⟨B,c',rfl,A,E,F,w⟩
  simp only[eval]at h;split at h
  .rename_i fx mov C l r _;obtain⟨M,h⟩:=az h;rw[aB]at M;have⟨s,h1,h2⟩:=ai h;have V:vQ c.S<|ke (fx++mov) [] Za 0 c.S:=Xk;have hR1:Rel ⟨c.μ,ke (fx++mov) [] Za 0 c.S,c.Z,c.fb⟩:=V.rel g
   have hw:Within c ⟨c.μ,ke (fx++mov) [] Za 0 c.S,c.Z,c.fb⟩ fx mov:=by
    refine⟨V.le,λq hq hn U=> ?_,λ_ _ _ _ _ _ _ _ hy=>hy⟩;show ag (ke (fx++mov) [] Za 0 c.S) q=_;rw[mR hq];simp only[lV,zD,bB];rcases U with U|hz
    .rw[ll (by simp[hn,U])];rfl
    .cases lV q (fx++mov)with
     |true=>exact(Dp hz).symm
     |false=>rfl
   have A:=yt (bz tab) (as:=nK a) (e0:=ea) a M.2 (λt N=>N) (tH.refl _ ea)<|rE a l (c:=⟨c.μ,ke (fx++mov) [] Za 0 c.S,c.Z,c.fb⟩) hR1 (d.frame V.le) h1;refine gu (bz tab) a _ _ (λx ea' Z' hx=> ?_) ea c.Z A;have⟨T,B,c',E,F,w,h7,h8⟩:=hx;subst E;have K:=Tn g d w hw hR1 F M.1 T h7 h8 h2;cases x with
   |normal=>
    have⟨D,c2,g1,g2,g3,g4,g5⟩:=K;rw[<-g1];exact gu (bz tab) b _ _ (λx ea'' Z'' hp=>qN.of g2 hp) _ _ (rE b r g3 g4 g5)
   |exit i=>exact K
   |ret=>exact K
  .exact J _ _ h
  .exact J _ _ h
 | .cond t a b,at',β,y,c,e,ea,k,g,d,h=>by
  simp only[eval]at h;split at h
  .rename_i p hp;have N:=cm d t;rw[hp]at N;have N:=N.bool_inv
   have Q: ∀(e1 D:db) (l r:AT),ba c e1 ea∨p=Zb->ba c D ea∨p=Za->cond p (eval tab a l β e1 c.S k) (eval tab b r β D c.S k)=O y->yu (gc tab) (.cond t a b) (sD c k y) ea c.Z:=by
    intro e1 D l r h1 h2 A;simp only[yu,N];cases p with
    |true=>
     rcases h1 with h1|h1
     .exact rE a l g h1 A
     .cases h1
    |false=>
     rcases h2 with h2|h2
     .exact rE b r g h2 A
     .cases h2
   have pb: ∀(i:Nat),t= .tmp i->(ba c (rF e i<|.bool Za) ea∨p=Zb)/\(ba c (rF e i<|.bool Zb) ea∨p=Za):=by
    intro i W;subst W;have:=Wa d hp
    grind
   split at h
   .exact Q _ _ _ _ (pb _ rfl).1 (pb _ rfl).2 h
   .exact Q _ _ _ _ (pb _ rfl).1 (pb _ rfl).2 h
   .exact Q _ _ _ _ (.inl d) (.inl d) h
   .exact Q _ _ _ _ (.inl d) (.inl d) h
  .cases h
 | .block id b,at',β,y,c,e,ea,k,g,d,h=>by
  simp only[eval]at h;refine gu (bz tab) b _ _ (λx ea' Z' hx=> ?_) ea c.Z<|rE b _ g d h;have⟨B,c',h2,A,E,F,w⟩:=hx;cases x with
  |normal=>exact⟨B,c',h2,A,E,F,w⟩
  |ret=>exact⟨B,c',h2,A,E,F,w⟩
  |exit i=>
   simp only at w⊢;cases W:Nat.beq i id with
   |true=>
    rw[W]at w;rw[zE<|cD W];exact⟨B,c',h2,A,E,F,w⟩
   |false=>
    rw[W]at w;rw[zF (λe=>by rw[e,Nat.beq_refl]at W;cases W)];exact⟨B,c',h2,A,E,F,w⟩
 | .loop b,at',β,y,c,e,ea,k,g,d,h=>by
  simp only[eval]at h;split at h
  .rename_i fx head C l _;obtain⟨M,h⟩:=az h;rw[aB,aB]at M;have⟨⟨g1,g2⟩,g3⟩:=M;split at h
   .rename_i st hd;obtain⟨t0,h1,h⟩:=ai h;have⟨s,h2,A⟩:=ai h
    have round: ∀(n:Nat) (t:BC head.sk.shs) (H:cy) (Z1:Hp),bC5 c e ea fx (tY st.m) (nK b) head.ts head.sk t H Z1->am (λt=>match Ke e c.S fx (tY st.m) (nK b) Za head.ts head.sk t with
      |some (e1,S1)=>eval tab b l (BC head.sk.shs⊕wF C) e1 S1 λx B S'=>(match x with
       | .normal=>im (Y4 S' (hW c.S) fx head.sk<|head.ts.map<|lU B) λt=>O (.inl t)
       |x=>im (yN S' (hW c.S) fx (λts=>ts.map<|lU B) (λy=>y.is x) C) λs=>O<|.inr s)
      |none=>Y) n t=O s->jE (yu (gc tab) b) (sD c k y) n H Z1:=by
     intro n;induction n with
     |zero=>intro t H Z1 _ hl;cases hl
     |succ n ih=>
      intro t H Z1 hH hl;rw[bi]at hl;have⟨z,X,o⟩:=ai hl;have⟨c1,e1,q1,q2,q3,q4,q5,q6⟩:=hH;subst q1;rw[q2]at X;simp only at X;have E:=yt (bz tab) (as:=nK b) (e0:=ea) b g3 (λt N=>N) q6<|rE b l q3 q4 X;simp only[jE];refine gu (bz tab) b _ _ (λx ea' Z' hx=> ?_) H c1.Z E;have⟨T,B,c',F,w,h7,h8,K⟩:=hx;subst F;cases x with
      |normal=>
       simp only at K⊢;have⟨t',I,u⟩:=ai K;cases u;simp only[be]at o;refine ih t' ea' c'.Z ?_ o;have⟨hro,st',h12,h13⟩:=ax7 I
       have j: ∃D S2,Ke e c.S fx (tY st.m) (nK b) Za head.ts head.sk t'=O (D,S2):=by
        cases n with
        |zero=>cases o
        |succ n=>
         rw[bi]at o
         grind
       obtain⟨D,S2,j⟩:=j;have⟨vs,fs,bs,S3,r1,r2,r3,r4⟩:=PB j;rw[h13]at r1;have⟨ct,u1,u2,u3,u4,u5,u6,u7,u8⟩:=ba1 g h7 q5 q3 w g2 hro h12 r1 (Nb h8 _) r2;refine⟨ct,D,u1,by rw[j,r4,u2],u6, ?_,RS u5 r2 u2 λq hq hn U P b' y' hb hy=> ?_,T⟩
       .rw[r3];exact J5 (Hc (d.frame u5) T) u7
       .refine(u8 q hq hn ?_).2 b' y' hb hy;have⟨v1,v2,v3,_⟩:=kq r2;rw[mS]at v2;rw[u2,nS (by rw[v2];exact hq),v3 q hn,mR hq,bB,ll hn];rcases U with U|hz
        .rw[ll U,zD,zD,zC,gh];exact P
        .rw[hz];cases lV q (tY st.m)with
         |true=>exact P
         |false=>rw[zD,zD,zC,gh];exact P
      |exit i=>
       simp only at K⊢;have⟨s',I,u⟩:=ai K;cases u;simp only[be]at o;cases o;exact Tn g d h7 q5 q3 w g2 T h8 I A
      |ret=>
       simp only at K⊢;have⟨s',I,u⟩:=ai K;cases u;simp only[be]at o;cases o;exact Tn g d h7 q5 q3 w g2 T h8 I A
    refine⟨co,round co t0 ea c.Z ?_ h2⟩
    have j: ∃D S2,Ke e c.S fx (tY st.m) (nK b) Za head.ts head.sk t0=O (D,S2):=by
     have hb:co=(co-1)+1:=rfl;rw[hb,bi]at h2
     grind
    obtain⟨D,S2,j⟩:=j;have⟨vs,fs,bs,S3,r1,r2,r3,r4⟩:=PB j;rw[B6 h1]at r1;have⟨ct,u1,u2,u3,u4,u5,u6,u7⟩:=aj4 g g2 g1 hd r1 (Nb d _) r2;refine⟨ct,D,u1,by rw[j,r4,u2],u6, ?_,RS u5 r2 u2 λq hq hn U P b' y' hb hy=>by rw[u1];exact hy,tH.refl _ _⟩;rw[r3];exact J5 (Hc (d.frame u5)<|tH.refl _ _) u7
   .cases h
  .exact⟨_,Vz (λg d h=>rE b .all g d h) _ g d h⟩
  .exact⟨_,JS (λat'' {β y c e ea k} g d h=>rE b at'' g d h) at' g d h⟩
end
end
section
open Nat renaming le_of_ble_eq_true->aB,zero_add->aD
def Nc {c:Ctx}{e:db}{ea:cy}(C:Rel c)(w:ba c e ea): ∀{K:List ARes} {vs:List VV},Ka e c.S K=O vs->∃A,Lr ea c.Z K=O A/\F2 (VRel c) vs A
 |[],vs,h=>by cases h;exact⟨[],rfl, .nil⟩
 |r::K,vs,h=>by
  simp only[Ka]at h;obtain⟨v,d,h⟩:=ai h;obtain⟨T,M,h⟩:=ai h;cases h;have⟨A,N,P⟩:=Nc C w M
  have J: ∃u,Pn ea c.Z r=O u/\VRel c v u:=by
   cases r with
   |tmp t=>
    simp only[aU2]at d;cases d;exact⟨_,rfl,w t⟩
   |cell t=>
    simp only[aU2]at d;split at d
    .rename_i b o I;split at d
     .rename_i B z l m;have q:=w t;rw[I]at q;cases q with
      |ptr Q _ F=>
       have g:(ag c.S b).dim=O (B,hW l):=by rw[m];rfl
       have⟨L,H,D⟩:=F _ g;have p:=C.stands g H;rw[m]at p;have⟨y,a,k,j,s⟩:=p.get d;refine⟨a, ?_,s⟩;rw[aD]at j;simp only[Pn,D,k,zG,j]
     .cases d
    .cases d
   |cellN t n=>
    simp only[aU2]at d;split at d
    .rename_i b o I;split at d
     .rename_i B z l m;cases E:Nat.ble (o+n) (hW l) with
      |false=>rw[E]at d;cases d
      |true=>
       rw[E]at d;cases d;have q:=w t;rw[I]at q;cases q with
       |ptr Q _ F=>
        have g:(ag c.S b).dim=O (B,hW l):=by rw[m];rfl
        have⟨L,H,D⟩:=F _ g;have p:=C.stands g H;rw[m]at p;have⟨y,as,k,j,s⟩:=p.read<|aB E;rw[aD]at j;refine⟨.agg as.toArray, ?_, .agg (by simp only[Blk.vals]at s;simpa using s)⟩;simp only[Pn,D,k,zG,j,Option.map_some]
     .cases d
    .cases d
  have⟨u,k,j⟩:=J;exact⟨u::A,by simp only[Lr,k,N], .cons j P⟩
def Uh {j:List Value}(h:F2 (VRel c) vs j):VRel c (WR vs)<|Cd j:=by
 cases h with
 |nil=>exact .tup .nil
 |cons g d=>
  cases d with
  |nil=>exact g
  |cons d k=>exact .tup (by simpa using F2.cons g (F2.cons d k))
def N2 (h:F2 (VRel c) vs as):ba c vs<|cy.of as:=by
 intro t
 have j: ∀(l:List VV) (i:Nat),lU l i=(l[i]?).getD .undef:=by
  intro l;induction l with
  |nil=>intro i;simp[lU]
  |cons a l m=>intro i;cases i with
   |zero=>simp[lU]
   |succ i=>simp[lU,m]
 rw[j];unfold cy.of;cases k:vs[t]? with
 |none=>exact .undef _
 |some v=>
  have⟨a,d,g⟩:=h.get t v k;rw[d];exact g
def Er : ∀{n q:Nat},q<n->q∈KM n
 |n+1,q,h=>by
  by_cases e:q=n
  .subst e;exact List.mem_cons_self
  .exact List.mem_cons_of_mem _ (Er V1)
theorem aG0 {P:Program}{run:BC (rN.shs ⟨vals,[],objs⟩)->Option (wF outs)}(ht:gi P tab.fs)(hi:ad P tab.is)
  (he: ∀t o,run t=O o->K3 P f tab vals objs outs at' t=O o):dv P ⟨f,vals,objs,outs,run⟩:=by
 intro B μ Z w j n K hs L ha;obtain⟨c,W,st,t,o,p,v,fs,bs,S',h1,hR,hf,h,hl,l,D,E,hp,g,hS,hK⟩:=hs;subst h1;have d:=he t o E;unfold K3 at d;split at d
 .rename_i s vs fs0 S0 T u;obtain⟨hg,d⟩:=az d;refine ay8 T (bz tab) (GU ht hi) B μ c.Z w j n K ?_ L ha;have Q:Ni (rN.shs ⟨vals,[],objs⟩) t=st.ls:=B6 hl;rw[Q]at u;obtain⟨J,z⟩:=enter hR rfl h u hf;have A:j.length<=s.ntmps:=by rw[<-z.length];exact aB hg
  refine⟨A, ?_⟩;obtain⟨l1,l2⟩:=J.len;have q:=rE s.body at' (c:=lh c st S0) J.rel (N2 z) d;refine gu (bz tab) s.body _ _ (λx ea Z' hx=> ?_) _ _ q;obtain⟨e',c',h2,h3,X,h5,h6⟩:=hx;subst h2
  have fin:(match Ka e' c'.S s.results with
    |some rs=>yN c'.S S0.length (vF objs 0) (λ_=>[WR rs]) (λ_=>Za) outs
    |none=>Y)=O o->(match Lr ea c'.Z s.results with
    |some vs=>K (Cd vs) c'.Z
    |none=>False):=by
   intro I;split at I
   .rename_i rs N;obtain⟨us,h8,h9⟩:=Nc X h5 N;rw[h8];simp only;obtain⟨p',F,_,q3⟩:=Hf I;simp only at hp;rw[hp]at F;injection F with F
    subst F;obtain⟨M,st',q4,q5⟩:=KY q3;obtain⟨H,_⟩:=qX h;have C:=qV H;rw[List.nil_append]at C;simp only at g hS l D;rw[q5]at g
    have r: ∀(i:Nat) (o:OSk) (x:Src),objs[i]?=O o->o.ro=Za->st.m[i]?=O (O x)->x.k∈st.lent:=by
     intro i o x g1 g2 g3;unfold nN at h;obtain⟨st1,d1,h⟩:=ai h;obtain⟨st2,d2,h⟩:=ai h;obtain⟨V,d3,h⟩:=ai h
     have:V=st:=by
      grind
     subst this;exact TP d3 i o x g1 g2 (by rw[aD];exact g3)
    obtain⟨ct,r1,r2,r3,r4,U,r6⟩:=Po hR rfl J h3 X l D C r M (by rw[<-l1];exact q4) g (.cons (Uh h9) .nil) hS;cases U with
    |cons U _=>exact hK _ _ ⟨ct,r1,r2,r3,r4,U,r6⟩
   .cases I
  grind
 .cases d
def RD {P:Program}{tab:List FSum}{d:List Inl}{run:BC (rN.shs ⟨vals,[],objs⟩)->Option (wF outs)}(k:gi P tab)(j:ad P d)
  (g: ∀t,K3 P f ⟨tab,d⟩ vals objs outs at' t=run t):dv P ⟨f,vals,objs,outs,run⟩:=aG0 (tab:=⟨tab,d⟩) k j λt o h=>(g t).trans h
def aF9 {P:Program}{tab:List FSum}{run:BC (rN.shs ⟨vals,[],objs⟩)->Option (wF outs)}(g:gi P tab)
  (d: ∀t,K3 P f ⟨tab,[]⟩ vals objs outs at' t=run t):dv P ⟨f,vals,objs,outs,run⟩:=RD g (ad.nil P) d
theorem ar {P:Program}{tab:List FSum}{g:List Inl}(X:gi P tab)(T:ad P g):NR P ⟨f,bl P f ⟨tab,g⟩ at'⟩:=by
 intro B μ Z w h j K W p N;obtain⟨β,y,c,vals,k,D,M,z,d,L⟩:=W;subst D;simp only[bl]at d;split at d
 .rename_i m s;obtain⟨Q,d⟩:=az d;refine ay8 s (bz ⟨tab,g⟩) (GU (tab:=⟨tab,g⟩) X T) B μ c.Z w h j K ?_ p N;have n:h.length<=m.ntmps:=by rw[<-z.length];exact aB Q
  refine⟨n, ?_⟩;have l:=rE m.body at' (c:=c) M (N2 z) d;refine gu (bz ⟨tab,g⟩) m.body _ _ (λx ea Z' hx=> ?_) _ _ l;obtain⟨A,c',E,F,u,H,h6⟩:=hx;subst E
  have C:(match Ka A c'.S m.results with
    |some t=>k (WR t) c'.S
    |none=>Y)=O y->(match Lr ea c'.Z m.results with
    |some vs=>K (Cd vs) c'.Z
    |none=>False):=by
   intro o;split at o
   .rename_i t r;obtain⟨us,I,J⟩:=Nc u H r;rw[I];exact L _ _ ⟨WR t,c',rfl,F,u,λq V U=>(U<|Er V).elim,Uh J,o⟩
   .cases o
  grind
 cases d
def IB :List Alt:=[⟨.ret,[],⟨[.leaf .bool],[],[]⟩⟩]
def yP (Z:Hp):Ctx:=⟨λ_=>Y,[],Z,λ_=>False⟩
def XO (h:Z.Ok):Rel<|yP Z:=
 ⟨h,λk m b l _ _ _=>(by cases l),λk d g=>ZY,λk b g=>(g rfl).elim,λb j=>j.elim⟩
def OW (b:Nat): ¬(yP Z).mut b:=by
 rintro(⟨k,h,_⟩|h)
 .cases h
 exact h
theorem aA7 {P:Program}{run:BC (rN.shs ⟨vals,[],[]⟩)->Option (wF IB)}(h:dv P ⟨f,vals,[],IB,run⟩){w:World}(u:UK P w){rows:List Row}{args:List Value}{cargs:Array Value}{t:BC<|rN.shs ⟨vals,[],[]⟩}
  (k: ∀r∈rows,∀(i:Nat) (v:Value),r.cells[i]?=O v->∃v',w.cell? ⟨r.c,r.o+i,Y⟩=O v'/\VR (pc rows) v v') (j:F2 (VR<|pc rows) args cargs.toList)
  (B:F2 (VRel<|yP<|sj w.heap.size rows) vs args) (d:nN [] 0 [] ⟨vals,[],[]⟩ vs=O st) (z:Ut _ st.ls=O t) (A:run t=O Za):
  Calls P f cargs w λe w'=>e= .returned (.bool Za)/\Go.RowKit.Below w.heap.size w w':=by
 have p:st.m=[]:=by
  unfold nN at d;obtain⟨C,E,d⟩:=ai d;obtain⟨q,F,d⟩:=ai d;obtain⟨s,g,d⟩:=ai d
  have:s=st:=by
   grind
  subst this;simp only[vB]at g;cases n:Nat.beq 0 (hW q.m) with
  |false=>rw[n]at g;cases g
  |true=>
   rw[n]at g;cases g;exact dy.1 (Nat.eq_of_beq_eq_true n).symm
 refine bk1 (S:=(FSum.mk f vals [] IB run).spec) h u k j ?_;refine⟨yP<|sj w.heap.size rows,vs,st,t,Za,⟨⟨.ret,[],⟨[.leaf .bool],[],[]⟩⟩,Za⟩, .bool Za,[],[],cond (B1 [.bool Za] [] []) (Fa st.lent []) [],rfl,XO aU5,B,d,z,by rw[p];rfl,by rw[p];rfl,A,rfl,rfl,by rw[p];rfl, ?_⟩;rintro r Z' ⟨D,_,_,_,_,l,_⟩;exact l.bool_inv
end
section
def am8 {α γ:Type}{f:α->Option (α⊕γ)}(I:α->Prop)(m:α->Nat)(Q:γ->Prop)(h: ∀a,I a->(∃b,f a=O (.inl b)/\I b/\m b<m a)∨∃c,f a=O (.inr c)/\Q c): ∀(n:Nat) (a:α),I a->m a<n->∃c,am f n a=O c/\Q c:=by
 intro n;induction n with
 |zero=>intro a _ d;omega
 |succ n o=>
  intro a l q;rcases h a l with⟨b,d,g,p⟩|⟨c,d,g⟩
  .obtain⟨c,j,k⟩:=o b g V1;exact⟨c,by rw[bi,d];exact j,k⟩
  exact⟨c,by rw[bi,d];rfl,g⟩
def lj {α γ:Type}{f:α->Option (α⊕γ)}{a:α}(I:α->Prop)(m:α->Nat)(Q:γ->Prop)(d:I a)(g:m a<18446744073709551616)(h: ∀a,I a->(∃b,f a=O (.inl b)/\I b/\m b<m a)∨∃c,f a=O (.inr c)/\Q c): ∃c,am f co a=O c/\Q c:=
 am8 I m Q h co a d g
def JT {α γ:Type}{f:α->Option (α⊕γ)}{a:α}{c:γ}(I:α->Prop)(m:α->Nat)(d:I a)(l:m a<18446744073709551616)(h: ∀a,I a->(∃b,f a=O (.inl b)/\I b/\m b<m a)∨f a=O (.inr c)):am f co a=O c:=by
 obtain⟨c',g,j⟩:=lj I m (· =c) d l λa k=>by
  rcases h a k with h|h
  .exact .inl h
  exact .inr ⟨c,h,rfl⟩
 rw[g,j]
def ah {α:Type}{p:Prop}[Decidable p]{x y:α}:cond (decide p) x y=if p then x else y:=by by_cases h:p<;>simp[h]
def bp {β:Type}{x:Option β}:gd Za x=x:=rfl
def bi7 {β:Type}{p:Prop}[Decidable p]{x:Option β}(h:p):gd (decide p) x=x:=by rw[zB h];rfl
theorem bg {β:Type}{n b:Nat}{x:Option β}(h:n*b<=140737488355328)(d:1<=b):gd (du n b) x=x:=by
 have:du n b=Za:=by
  unfold du
  simp_all
 rw[this];rfl
theorem bt {α:Type}{l:List α}(h:i<hW l):rd l (i:Int)=O l[i]:=by
 unfold rd
 grind
def ae {n:Int}(h: -9223372036854775808<=n/\n<=9223372036854775807):IntKind.i64.wrap n=n:=IntWalk.i64_in _ h
def Zi {n:Int}(h: -9223372036854775808<=n/\n<=9223372036854775807:=by omega):IntKind.i64.wrap n=n:=ae h
def gr {α γ β:Type}{a:α}{f:α->Option β}{g:γ->Option β}:be (.inl a) f g=f a:=rfl
def cg {α γ β:Type}{a:γ}{f:α->Option β}{g:γ->Option β}:be (.inr a) f g=g a:=rfl
end
section
def Gt (a:AFn)(tab:Tab)(vals:List Sk)(objs:List OSk)(outs:List Alt)(at':AT)(t:BC<|rN.shs ⟨vals,[],objs⟩):Option<|wF outs:=
 match mY id ⟨vals,[],objs⟩ (Ni _ t)with
 |some (vs,_,S)=>gd (Nat.ble (hW vs) a.ntmps) (eval tab a.body at' (wF outs) vs S λx e S'=>match x with
  | .exit _=>Y
  |_=>(match Ka e S' a.results with
   |some d=>yN S' (hW S) (vF objs 0) (λ_=>[WR d]) (λ_=>Za) outs
   |none=>Y))
 |_=>Y
theorem Qz {P:Program}{s:AFn}{run:BC (rN.shs ⟨vals,[],objs⟩)->Option (wF outs)}(ht:gi P tab.fs)(hi:ad P tab.is)(htr:ar7 P f=O s)(E: ∀t:BC<|rN.shs ⟨vals,[],objs⟩,∃r,mY id ⟨vals,[],objs⟩ (Ni _ t)=O r)
  (he: ∀t o vs fs S,run t=O o->mY id ⟨vals,[],objs⟩ (Ni _ t)=O (vs,fs,S)->∀(c:Ctx) args,F2 (VRel c) vs args->
   ∃b,Gt ⟨s.ntmps,s.results,b⟩ tab vals objs outs at' t=O o/\∀T (_:we T) Q Z,yu T b Q (cy.of args) Z->yu T s.body Q (cy.of args) Z):dv P ⟨f,vals,objs,outs,run⟩:=by
 intro B μ Z w args u K hs hR0 ha;obtain⟨c,vals',st,t,o,p,v,fs,bs,S',h1,hR,hf,h,hl,l,J,L,hp,d,hS,hK⟩:=hs;subst h1;have htl:Ni (rN.shs ⟨vals,[],objs⟩) t=st.ls:=B6 hl;cases j:mY id ⟨vals,[],objs⟩ (Ni (rN.shs ⟨vals,[],objs⟩) t)with
 |none=>
  obtain⟨r,q⟩:=E t;rw[j]at q;cases q
 |some tr=>
 obtain⟨vs,U,S0⟩:=tr;refine ay8 htr (bz tab) (GU ht hi) B μ c.Z w args u K ?_ hR0 ha;have n:=j;rw[htl]at j;obtain⟨X,A⟩:=enter hR rfl h j hf;obtain⟨bd,g,F⟩:=he t o vs U S0 L n _ _ A;unfold Gt at g;rw[n]at g;obtain⟨hg,g⟩:=az g;have H:args.length<=s.ntmps:=by rw[<-A.length];exact Nat.le_of_ble_eq_true hg
 refine⟨H,F _ (bz tab) _ _ ?_⟩;obtain⟨l1,l2⟩:=X.len;have z:=rE bd at' (c:=lh c st S0) X.rel (N2 A) g;refine gu (bz tab) bd _ _ (λx ea Z' hx=> ?_) _ _ z;obtain⟨e',c',h2,h3,h4,h5,V⟩:=hx;subst h2
 have D:(match Ka e' c'.S s.results with
   |some rs=>yN c'.S S0.length (vF objs 0) (λ_=>[WR rs]) (λ_=>Za) outs
   |none=>Y)=O o->(match Lr ea c'.Z s.results with
   |some vs=>K (Cd vs) c'.Z
   |none=>False):=by
  intro W;split at W
  .rename_i rs hrs;obtain⟨us,h8,h9⟩:=Nc h4 h5 hrs;rw[h8];simp only;obtain⟨p',M,_,q3⟩:=Hf W;simp only at hp;rw[hp]at M;injection M with M
   subst M;obtain⟨hro,st',q4,q5⟩:=KY q3;obtain⟨N,_⟩:=qX h;have I:=qV N;rw[List.nil_append]at I;simp only at d hS l J;rw[q5]at d
   have C: ∀(i:Nat) (o:OSk) (x:Src),objs[i]?=O o->o.ro=Za->st.m[i]?=O (O x)->x.k∈st.lent:=by
    intro i o x g1 g2 g3;unfold nN at h;obtain⟨st1,d1,h⟩:=ai h;obtain⟨st2,d2,h⟩:=ai h;obtain⟨st3,d3,h⟩:=ai h
    have:st3=st:=by
     grind
    subst this;exact TP d3 i o x g1 g2 (by rw[Nat.zero_add];exact g3)
   obtain⟨ct,r1,r2,r3,r4,r5,r6⟩:=Po hR rfl X h3 h4 l J I C hro (by rw[<-l1];exact q4) d (.cons (Uh h9) .nil) hS;cases r5 with
   |cons r5 _=>exact hK _ _ ⟨ct,r1,r2,r3,r4,r5,r6⟩
  .cases W
 cases x with
 |exit i=>cases V
 |normal=>exact D V
 |ret=>exact D V
def Xx (es bytes:Nat)(z:List Value)(c n:AOp):AC:=
 .seq (.region [⟨O 2, .move<|.const<|.slice Y 0 0,Y⟩]) (.seq (.seq (.region [⟨O 3, .move<|.tmp 0,Y⟩,⟨O 4,c,Y⟩])<|.cond (.tmp 4) (.seq (.region [⟨O 2,n,Y⟩]) .ret) .skip)
  (.seq (.region [⟨O 5, .buildSlice es 0 z [],Y⟩,⟨O 6, .move<|.tmp 0,Y⟩,⟨O 7, .append es bytes (.tmp 5)<|.tmp 6,Y⟩,⟨O 2, .move<|.tmp 7,Y⟩]) .ret))
def S9 (es bytes:Nat)(z:List Value):AFn:=⟨8,[.tmp 2],Xx es bytes z (.eqv 2 Zb (.tmp 3)<|.const<|.slice Y 0 0)<|.move<|.const<|.slice Y 0 0⟩
def aN0 (es bytes:Nat)(z:List Value):AFn:=⟨8,[.tmp 2],Xx es bytes z (.move<|.const<|.bool Zb)<|.move<|.const<|.slice Y 0 0⟩
def aw8 (es bytes:Nat)(z:List Value):AFn:=⟨8,[.tmp 2],Xx es bytes z (.move<|.const<|.bool Za)<|.append es bytes (.const<|.slice Y 0 0)<|.tmp 0⟩
def Be (s:Sh):List Alt:=[⟨.ret,[],⟨[.full 0],[],[.arr Zb s]⟩⟩]
theorem Gp {P:Program}{es bytes:Nat}{z:List Value}{s:Sh}(m:ar7 P f=O (S9 es bytes z))
  (u: ∀t:BC<|rN.shs ⟨[.leaf<|.list s],[],[]⟩,mY id ⟨[.leaf<|.list s],[],[]⟩ (Ni _ t)=O ([.lst s t],[],[]))
  (w: ∀l:List<|El s,Gt (aN0 es bytes z) ⟨[],[]⟩ [.leaf<|.list s] [] (Be s) .no l=gd (du (0+hW l) bytes) (O l))
  (A:Gt (aw8 es bytes z) ⟨[],[]⟩ [.leaf<|.list s] [] (Be s) .no ([]:List<|El s)=gd (du (0+0) bytes) (O ([]:List<|El s))):
  dv P ⟨f,[.leaf<|.list s],[],Be s,λl:List (El s)=>gd (du (0+hW l) bytes)<|O l⟩:=by
 refine Qz (at':= .no) (tab:=⟨[],[]⟩) (gi.nil P) (ad.nil P) m (λt=>⟨_,u t⟩) λt o vs fs S g D c d k=> ?_
 have r:vs=[.lst s t]:=by
  grind
 subst r;cases k with
 |cons k C=>
 cases C
 have no: ∀q n j (d:List Value),d=[.slice (O q) n j]->∃b,Gt ⟨(S9 es bytes z).ntmps,(S9 es bytes z).results,b⟩ ⟨[],[]⟩ [.leaf<|.list s] [] (Be s) .no t=O o/\
   ∀T (_:we T) Q Z,yu T b Q (cy.of d) Z->yu T (S9 es bytes z).body Q (cy.of d) Z:=by
  rintro q n j d rfl;exact⟨_,(w t).trans g,λT _ Q Z h=>h⟩
 cases k with
 | @lst s l b p n j y B E F H I J K=>exact no _ _ _ _ rfl
 | @lstn s q B=>
  cases q with
  |some q=>exact no _ _ _ _ rfl
  |none=>exact⟨_,A.trans g,λT _ Q Z h=>h⟩
end
section
theorem EN {P:Program}{run:BC (rN.shs ⟨vals,[],objs⟩)->Option (wF outs)}(h: ∀t,run t=Y):dv P ⟨f,vals,objs,outs,run⟩:=by
 intro B μ Z w j d K n;have⟨c,g,st,t,o,p,v,fs,bs,S',q,r,u,s,z,k,m,l,_⟩:=n
 grind
end
open Go.Ab Go.ChangeShapes Go.WideShapes
section
def am5 {P:Program}{run:BC (rN.shs ⟨vals,[],[]⟩)->Option (wF IB)}(h:dv P ⟨f,vals,[],IB,run⟩){w:World}(l:UK P w){rows:List Row}{args:List Value}{cargs:Array Value}(t:BC<|rN.shs ⟨vals,[],[]⟩)
  (g: ∀r∈rows,∀(i:Nat) (v:Value),r.cells[i]?=O v->∃v',w.cell? ⟨r.c,r.o+i,Y⟩=O v'/\VR (pc rows) v v') (d:F2 (VR<|pc rows) args cargs.toList)
  (p:F2 (VRel<|yP<|sj w.heap.size rows) vs args) (m:(im (nN [] 0 [] ⟨vals,[],[]⟩ vs) λst=>Ut _ st.ls)=O t) (n:run t=O Za):
  Calls P f cargs w λe w'=>e= .returned (.bool Za)/\Go.RowKit.Below w.heap.size w w':=by
 have⟨st,j,k⟩:=ai m;exact aA7 h l g d p j k n
end
section
def ID {α δ:Type}{f:α->Option (α⊕δ)}{n:Nat}(F:Nat->α){c:δ}(q:n<9223372036854775808)(o: ∀i,i<n->f (F i)=O (.inl<|F<|i+1))(l:f (F n)=O (.inr c)):am f co (F 0)=O c:=by
 have d: ∀k i m,i+k=n->k<m->am f m (F i)=O c:=by
  intro k;induction k with
  |zero=>
   intro i m h j;obtain⟨m,rfl⟩: ∃g,m=g+1:=⟨m-1,V1⟩
   have:i=n:=by omega
   subst this;show(f<|F i).bind _=_;rw[l];rfl
  |succ k p=>
   intro i m h j;obtain⟨m,rfl⟩: ∃g,m=g+1:=⟨m-1,V1⟩
   show(f<|F i).bind _=_;rw[o i V1];exact p (i+1) m V1 V1
 exact d n 0 co V1 (by unfold co;omega)
def cn {γ δ:Type}{f:(Int×γ)->Option ((Int×γ)⊕δ)}{n:Nat}(F:Nat->γ){c:δ}(g:n<9223372036854775808)(h: ∀i,i<n->f ((i:Int),F i)=O (.inl (((i+1:Nat):Int),F<|i+1)))(d:f ((n:Int),F n)=O (.inr c)):am f co (0,F 0)=O c:=
 ID (λi=>((i:Int),F i)) g h d
def nO {δ:Type}{f:Int->Option (Int⊕δ)}{n:Nat}{c:δ}(g:n<9223372036854775808)(h: ∀i:Nat,i<n->f (i:Int)=O (.inl ((i+1:Nat):Int)))(d:f (n:Int)=O (.inr c)):am f co 0=O c:=
 ID (λi=>(i:Int)) g h d
def Lf {α γ δ:Type}{f:(Int×γ)->Option ((Int×γ)⊕δ)}{l:List α}(g:γ->α->γ)(s:γ){c:γ->δ}(m:hW l<9223372036854775807)
  (k: ∀(i:Nat) (h:i<hW l) s,f ((i:Int),s)=O (.inl (((i+1:Nat):Int),g s l[i]))) (j: ∀s,f ((hW l:Int),s)=O (.inr<|c s)):am f co (0,s)=O (c<|l.foldl g s):=by
 have h:=cn (f:=f) (n:=hW l) (λi=>(l.take i).foldl g s) (c:=c<|l.foldl g s) V1 ?_ ?_
 .exact h
 .intro i d;rw[k i d,List.take_succ_eq_append_getElem d,List.foldl_append];rfl
 .rw[j,List.take_length]
def ae6 (n:Int):IntKind.u64.wrap n=n % 18446744073709551616:=by rfl
def AB {n:Nat}(h:n<9223372036854775808):IntKind.u64.wrap (n:Int)=n:=by
 rw[ae6];omega
def cb {n:Int}(h:0<=n/\n<18446744073709551616):IntKind.u64.wrap n=n:=by
 rw[ae6];omega
def Zj {n:Int}(h:0<=n/\n<18446744073709551616:=by omega):IntKind.u64.wrap n=n:=cb h
def rG {l:Zd}(h:i<hW l):rd l (i:Int)=O (l.getD i 0):=by
 rw[bt h,List.getD_eq_getElem?_getD,List.getElem?_eq_getElem h];rfl
theorem bn {k n:Nat}(h:k<n):ix (k:Int) n=O k:=by
 unfold ix
 grind
theorem ey {n:Nat}(h:0<=a/\a<=b/\b<=n):dz a b n=Za:=by
 unfold dz
 grind
def Zk {n:Nat}(h:0<=a/\a<=b/\b<=n:=by omega):dz a b n=Za:=ey h
def Ub (h:0<=a):Int.tdiv a b=a / b:=Int.tdiv_eq_ediv_of_nonneg h
def aW2 (h:0<=a):Int.tmod a b=a % b:=Int.tmod_eq_emod_of_nonneg h
end
end Go.V
