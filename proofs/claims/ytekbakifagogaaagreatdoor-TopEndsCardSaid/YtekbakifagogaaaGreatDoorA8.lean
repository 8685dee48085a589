/- A part of the proof. No condition. -/
import Derived.Test.YtekbakifagogaaaGreatDoorA7
set_option linter.unusedVariables false
set_option linter.unusedSimpArgs false
set_option linter.unusedSectionVars false
namespace Go.V
open Go.Ab
open Option renaming some->O,none->Y
open Bool renaming true->Za,false->Zb
open Decidable renaming decide->Zc
variable {vs:List VV}{bs fs:List Blk}{c:Ctx}{as:List Value}{sk:uE}{S2:ai}{tab:Tab}
section
open Bool renaming or_eq_false_iff -> bB
open List renaming getElem?_eq_getElem -> aB, getElem_mem -> aD, all_eq_true -> bD, any_eq_false -> cB, length_append -> cD
theorem Il : ∀{js:List Nat} {bs:List Blk} {S S1:ai},js.length=bs.length->∃S2,vZ js bs S1=O S2
 |[],[],_,S1,_=>⟨S1,rfl⟩
 |[],_::_,_,_,h=>by simp at h
 |_::_,[],_,_,h=>by simp at h
 |j::js,b::bs,S,S1,h=>by
  obtain⟨S2,a⟩:=Il (js:=js) (bs:=bs) (S:=S) (S1:=kC S1 j b) (by simpa using h);exact⟨S2,a⟩
theorem KN {f:Nat->Nat}: ∀{os:List OSk} {ls rest:List Leaf} {bs:List Blk},CM f os ls=O (bs,rest)->(∀o,o∈os->o.ro=Zb)->∀b,b∈bs->b.dim≠Y->b.frozen=Zb
 |[],ls,rest,bs,h,_,b,hb,_=>by
  simp only[CM]at h;injection h with h
  injection h with a i
  subst a;simp at hb
 |o::os,ls,rest,bs,h,j,b,hb,g=>by
  simp only[CM]at h;obtain⟨p,a,h⟩:=ah h;obtain⟨q,i,h⟩:=ah h;injection h with h
  injection h with k r
  subst k;rcases List.mem_cons.1 hb with hb|hb
  .subst hb;have e:=j o List.mem_cons_self;cases o with
   |dead=>
    simp only[Mx]at a;injection a with a
    rw[<-a]at g;exact(g rfl).elim
   |cells n ro l=>
    simp only[Mx]at a;obtain⟨v,m,d⟩:=ah a;injection d with d
    rw[<-d];exact e
   |arr ro s=>
    cases ls with
    |nil=>simp[Mx]at a
    |cons x ls=>
     simp only[Mx]at a;obtain⟨v,m,d⟩:=ah a;injection d with d
     rw[<-d];exact e
  .exact KN i (λo e=>j o (List.mem_cons_of_mem _ e)) b hb g
theorem Qa {f:Nat->Nat}{ls:List Leaf}(h:pP f sk ls=O (vs,fs,bs))(a:sk.noRo=Za):(∀b,b∈fs->b.dim≠Y->b.frozen=Zb)/\∀b,b∈bs->b.dim≠Y->b.frozen=Zb:=by
 unfold uE.noRo at a;rw[Bool.and_eq_true,bD,bD]at a;unfold pP at h;obtain⟨p,l,h⟩:=ah h;obtain⟨q,i,h⟩:=ah h;obtain⟨r,j,h⟩:=ah h;split at h
 .injection h with h
  injection h with k h
  injection h with e g
  subst e;subst g;exact⟨KN (rest:=q.2) i λo d=>by simpa using a.1 o d,KN (rest:=r.2) j λo d=>by simpa using a.2 o d⟩
 .cases h
theorem PS (h:CL vs fs bs=Zb):Om vs=Zb/\(∀b,b∈fs->alB b=Zb)/\∀b,b∈bs->alB b=Zb:=by
 unfold CL at h;rw[bB,bB,cB,cB]at h;exact⟨h.1.1,λb a=>by simpa using h.1.2 b a,λb a=>by simpa using h.2 b a⟩
theorem Ri {l:List Blk}{i:Nat}(h:(ae l i).dim≠Y):ae l i∈l:=by
 have a:=mb h;rw[vW (aB a)];exact aD a
theorem Nx {ctf:Ctx}{js:List Nat}{Sa Sb S1:ai}(M:dn c)(B:Le c ctf)(u:dn ctf)(N:F2 (VRel ctf) vs as)(z:CL vs fs bs=Zb)
  (C: ∀b,b∈fs->b.dim≠Y->b.frozen=Zb) (D: ∀b,b∈bs->b.dim≠Y->b.frozen=Zb) (g:Sa.length=c.S.length) (h:Sb.length=c.S.length) (w:vZ js fs Sa=O S1) (x:vZ js fs Sb=O S2) (p:js.Nodup) (P: ∀j,j∈js->j<c.S.length)
  (v:ctf.S=S1++bs) (Q: ∀k,k<c.S.length->ctf.μ k=c.μ k)
  (q: ∀k,k<c.S.length->k∉js->(ae Sa k=ae Sb k/\((ae Sa k).dim≠Y->ae Sa k=ae c.S k))∨(ae Sb k=ae c.S k/\ae Sa k=(ae c.S k).freeze))
  (r: ∀k,k<c.S.length->k∉js->(ae Sa k).dim≠Y->∀b y,c.μ k=O b->c.Z.m b=O y->ctf.Z.m b=O y):
  Le c ⟨ctf.μ,S2++bs,ctf.Z,ctf.fb⟩/\dn ⟨ctf.μ,S2++bs,ctf.Z,ctf.fb⟩/\F2 (VRel ⟨ctf.μ,S2++bs,ctf.Z,ctf.fb⟩) vs as:=by
 obtain⟨I,J,K⟩:=PS z;obtain⟨T,E,U,V⟩:=jH w;obtain⟨q1,F,W,X⟩:=jH x;refine thaw M B u N I (by rw[v,cD,cD,E,F,g,h]) Q λk=> ?_
 by_cases f:k<c.S.length
 .have s:ae (S2++bs) k=ae S2 k:=mL (by rw[F,h];exact f);have l:ae ctf.S k=ae S1 k:=by rw[v];exact mL (by rw[E,g];exact f)
  by_cases o:k∈js
  .obtain⟨i,A,e⟩:=List.mem_iff_getElem.1 o;have d:i<fs.length:=by rw[<-T];exact A
   have H:=V p i k _ (by rw[aB A,e]) (aB d) (by rw[g];exact f);have L:=X p i k _ (by rw[aB A,e]) (aB d) (by rw[h];exact f);refine .inl ⟨by rw[s,l,H,L],λa=> .inl ?_⟩;rw[l,H]at a⊢;exact⟨C _ (aD d) a,J _ (aD d)⟩
  .rw[s,l,W k o,U k o];rcases q k f o with⟨n,t⟩|⟨n,t⟩
   .exact .inl ⟨n.symm,λa=> .inr ⟨f,t a,r k f o a⟩⟩
   .exact .inr ⟨f,n,t,λa=>r k f o (by rw[t,fK];exact a)⟩
 .have n:k=c.S.length+(k-c.S.length):=by omega
  have s:ae (S2++bs) k=ae bs (k-c.S.length):=by
   rw[n,<-h,<-F,sv]
   congr 1
   omega
  have l:ae ctf.S k=ae bs (k-c.S.length):=by
   rw[v,n,<-g,<-E,sv]
   congr 1
   omega
  refine .inl ⟨by rw[s,l],λa=> .inl ?_⟩;rw[l]at a⊢;exact⟨D _ (Ri a) a,K _ (Ri a)⟩
theorem Lr {c0 w:Ctx}{a:List OSk}{vals:List VV}{st F:DSt}{v:List Blk}(K:dn c)(h0:c0=lD c st v)(hE:Entered c c0 a st v)(N:Le c0 w)(L:dn w)
  (z:Ni st.m=Za) (D:Ju c.S (jI a st.m)=Za) (s:(oj st.m).Nodup) (u: ∀(i:Nat) (o:OSk) (x:Src),a[i]?=O o->o.ro=Za->st.m[i]?=O (O x)->x.k∈st.lent)
  (E:sk.noRo=Za) (hd:mH w.S a.length (tO a 0) sk vals=O F) (he:pP (wu st.m a.length c.S.length) sk F.ls=O (vs,fs,bs)) (hf:F2 (VRel w) vals as)
  (n:vZ (jI a st.m) fs (cond (CL vs fs bs) (CP st.lent c.S) c.S)=O S2):
  ∃ct:Ctx,ct.Z=w.Z/\ct.S=S2++bs/\Le c ct/\dn ct/\F2 (VRel ct) vs as/\vl (jI a st.m) c ct:=by
 obtain⟨q1,q2,q3,q4⟩:=jH n;obtain⟨Sf,g⟩:=Il (S:=c.S) (S1:=CP st.lent c.S) q1;obtain⟨ct,T,H,e3,e4,U,V,W,X⟩:=VU K h0 hE N L z D s u E hd he hf g
 have t: ∀q:Ctx,q.Z=ct.Z->(∀k,(ae q.S k).dim=(ae ct.S k).dim)->vl (jI a st.m) c q:=by
  intro q I h2 k p C l;obtain⟨_,J,Q,_⟩:=jH g;have hl:(CP st.lent c.S).length=c.S.length:=(uJ st.lent c.S).1;refine⟨?_,λb hm=> ?_⟩
  .rw[h2,H,mL (by rw[J,hl];exact p),Q k C,(uJ st.lent c.S).dim];exact l
  .cases A:(ae c.S k).dim with
   |none=>exact(l A).elim
   |some d=>
    obtain⟨y,_,_,hy,_⟩:=K.block A hm;rw[hy,I];exact X k p C l b y hm hy
 cases r:CL vs fs bs with
 |true=>
  rw[r,zC,g]at n;injection n with n
  subst n;exact⟨ct,T,H,U,V,W,t ct rfl λ_=>rfl⟩
 |false=>
  rw[r,zD]at n;obtain⟨z1,z2⟩:=Qa he E;have f:=uJ st.lent c.S
  obtain⟨r1,r2,r3⟩:=Nx K U V W r z1 z2 f.1 rfl g n (uR s) (λj hj=>(lE D hj).1) H e4 (λk p C=>by
   rcases f.2 k with h|h
   .exact .inl ⟨h,λ_=>h⟩
   .exact .inr ⟨rfl,h⟩) (λk p C l=>X k p C (by rw[<-f.dim];exact l))
  refine⟨⟨ct.μ,S2++bs,ct.Z,ct.fb⟩,T,rfl,r1,r2,r3,t _ rfl λk=> ?_⟩;obtain⟨_,J,Q,p4⟩:=jH g;rw[H];show(ae (S2++bs) k).dim=(ae (Sf++bs) k).dim;by_cases p:k<c.S.length
  .rw[mL (S:=S2) (by rw[q2,r];exact p),mL (S:=Sf) (by rw[J,f.1];exact p)];by_cases P:k∈jI a st.m
   .obtain⟨i,M,e⟩:=List.mem_iff_getElem.1 P;have B:i<fs.length:=by rw[<-q1];exact M
    obtain⟨_,_,_,t4⟩:=jH n
    rw[t4 (uR s) i k _ (by rw[aB M,e]) (aB B) p,
     p4 (uR s) i k _ (by rw[aB M,e]) (aB B) (by rw[f.1];exact p)]
   .obtain⟨_,_,t3,_⟩:=jH n;rw[t3 k P,Q k P,f.dim]
  .have I:k=c.S.length+(k-c.S.length):=by omega
   have g1:ae (S2++bs) k=ae bs (k-c.S.length):=by
    obtain⟨_,t2,_,_⟩:=jH n;rw[I,<-t2,sv]
    congr 1
    omega
   have g2:ae (Sf++bs) k=ae bs (k-c.S.length):=by
    rw[I,<-f.1,<-J,sv]
    congr 1
    omega
   rw[g1,g2]
theorem ai4 {c1 e:Ctx}{fx mov:List Nat}{vals:List VV}{st:DSt}(x:dn c)(p:dn e)(F:Within c c1 fx mov)(q:dn c1)(s:Le c1 e)
  (i:Ju c.S fx=Za) (l:sk.noRo=Za) (y:mH e.S c.S.length fx sk vals=O st) (z:pP id sk st.ls=O (vs,fs,bs)) (D:F2 (VRel e) vals as) (b:vZ fx fs (jy fx mov (CL vs fs bs) 0 c.S)=O S2):
  ∃ct:Ctx,ct.Z=e.Z/\ct.S=S2++bs/\Le c ct/\dn ct/\F2 (VRel ct) vs as:=by
 obtain⟨J,T,U,V⟩:=jH b;obtain⟨Sf,a⟩:=Il (S:=c.S) (S1:=jy fx mov Za 0 c.S) J;obtain⟨ct,t,o,Q,B,u,v,w,C⟩:=at3 x p F q s i (TR l) y z D a;cases d:CL vs fs bs with
 |true=>
  rw[d,a]at b;injection b with b
  subst b;exact⟨ct,t,o,u,v,w⟩
 |false=>
  rw[d]at b;obtain⟨N,P⟩:=Qa z l;obtain⟨n,_⟩:=pO y;have g:=pM n;rw[List.nodup_append]at g;obtain⟨_,A,I,_⟩:=jH a;rw[lQ]at A
  obtain⟨K,L,M⟩:=Nx x u v w d N P lQ lQ a b g.1 (λj E=>(lE i E).1) o B (λk f m=>by
   rw[lP f,lP f,Nat.zero_add,jz m];cases kw k mov with
   |true=>
    refine .inl ⟨rfl,λh=> ?_⟩;cases H:(ae c.S k).frozen with
    |true=>rfl
    |false=>rw[H]at h;exact(h rfl).elim
   |false=>exact .inr ⟨rfl,rfl⟩) (λk f m r=>(C k f m (by rw[o,mL (by rw[A];exact f),I k m];exact r)).2)
  exact⟨⟨ct.μ,S2++bs,ct.Z,ct.fb⟩,t,rfl,K,L,M⟩
end
section
open List renaming mem_cons_of_mem -> aB, mem_cons_self -> aD
open Nat renaming eq_of_beq_eq_true -> bB
def W3 (l:List Alt)(s:uG l):Option (Σ a:Alt,a.Ty):=W2 l s λa u=>O ⟨a,u⟩
theorem Oo {β:Type}: ∀(l:List Alt) (s:uG l) (k:(a:Alt)->a.Ty->Option β),W2 l s k=(W3 l s).bind λp=>k p.1 p.2
 |[],_,_=>rfl
 |[a],t,k=>rfl
 |a::b::r, .inl t,k=>rfl
 |a::b::r, .inr s,k=>Oo (b::r) s k
def FSum.spec (F:FSum):Ab.HE:=λf Z K=> ∃(c:Ctx) (d:List VV) (b:DSt) (t:Dq F.ins.shs) (o:uG F.outs) (p:Σ a:Alt,a.Ty) (v:VV) (fs bs:List Blk) (S':ai),
 c.Z=Z/\dn c/\F2 (VRel c) d f/\mH c.S 0 [] F.ins d=O b/\PB F.ins.shs b.ls=O t/\Ni b.m=Za/\Ju c.S (jI F.objs b.m)=Za/\F.run t=O o/\W3 F.outs o=O p/\
 pP (wu b.m F.objs.length c.S.length) p.1.sk (Ru p.1.sk.shs p.2)=O ([v],fs,bs)/\vZ (jI F.objs b.m) fs (cond (CL [v] fs bs) (CP b.lent c.S) c.S)=O S'/\
 ∀r Z',(∃e:Ctx,e.Z=Z'/\e.S=S'++bs/\Le c e/\dn e/\VRel e v r/\vl (jI F.objs b.m) c e)->K r Z'
theorem FSum.mono (F:FSum):Iz F.spec:=by
 rintro f Z K K' u ⟨c,a,w,t,o,p,v,fs,bs,S',g,i,j,k,l,m,n,q,s,b,d,e⟩;exact⟨c,a,w,t,o,p,v,fs,bs,S',g,i,j,k,l,m,n,q,s,b,d,λr Z' h=>u r Z' (e r Z' h)⟩
def Inl.spec (I:Inl):Ab.HE:=λb Z K=> ∃(β:Type) (y:β) (c:Ctx) (a:List VV) (k:VV->ai->Option β),c.Z=Z/\dn c/\F2 (VRel c) a b/\I.run β a c.S k=O y/\∀r Z',gI c (Kt c.S.length) k y r Z'->K r Z'
theorem Inl.mono (I:Inl):Iz I.spec:=by
 rintro b Z K K' j ⟨β,y,c,a,k,d,e,f,g,i⟩;exact⟨β,y,c,a,k,d,e,f,g,λr Z' h=>j r Z' (i r Z' h)⟩
def fD (tab:Tab):Ab.fU:=λf a Z K=>(∃F,F∈tab.fs/\F.f=f/\F.spec a Z K)∨∃I,I∈tab.is/\I.f=f/\I.spec a Z K
theorem bq (tab:Tab):rV (fD tab):=by
 rintro f a Z K K' g (⟨F,b,d,e⟩|⟨F,b,d,e⟩)
 .exact .inl ⟨F,b,d,F.mono a Z K K' g e⟩
 .exact .inr ⟨F,b,d,F.mono a Z K K' g e⟩
def dp (P:Program)(F:FSum):Prop:=CK P F.f F.spec
def RW (P:Program)(I:Inl):Prop:=CK P I.f I.spec
def ei (P:Program)(tab:List FSum):Prop:= ∀F,F∈tab->dp P F
def aa (P:Program)(a:List Inl):Prop:= ∀I,I∈a->RW P I
theorem aa.nil (P:Program):aa P []:=λF h=>by cases h
theorem aa.cons {P:Program}{F:Inl}{tab:List Inl}(h:RW P F)(a:aa P tab):aa P (F::tab):=λG hG=>by
 rcases List.mem_cons.1 hG with rfl|hG
 .exact h
 .exact a G hG
theorem ei.nil (P:Program):ei P []:=λF h=>by cases h
theorem ei.cons {P:Program}{F:FSum}{tab:List FSum}(h:dp P F)(a:ei P tab):ei P (F::tab):=λG hG=>by
 rcases List.mem_cons.1 hG with rfl|hG
 .exact h
 .exact a G hG
theorem ei.app {P:Program}{a b:List FSum}(h:ei P a)(k:ei P b):ei P (a++b):=λG hG=>by
 rcases List.mem_append.1 hG with hG|hG
 .exact h G hG
 .exact k G hG
theorem Ew {P:Program}(h:ei P tab.fs)(k:aa P tab.is)(f:FuncId):CK P f (fD tab f):=by
 rintro B μ Z w b a K (⟨F,d,e,g⟩|⟨F,d,e,g⟩) i j
 .subst e;exact h F d B μ Z w b a K g i j
 .subst e;exact k F d B μ Z w b a K g i j
theorem P2 {β:Type}{c:Ctx}{k:VV->ai->Option β}{y:β}{f:Nat}{a:List VV}{as:List Value}(x:dn c)(z:F2 (VRel c) a as): ∀{tab:List FSum},KF tab f a c.S k=O y->(λf a Z K=> ∃F,F∈tab/\F.f=f/\F.spec a Z K:Ab.fU) f as c.Z (gI c (uH tab f a c.S) k y)
 |[],h=>by cases h
 |F::r,h=>by
  have next:KF r f a c.S k=O y->uH (F::r) f a c.S=uH r f a c.S->(λf a Z K=> ∃G,G∈F::r/\G.f=f/\G.spec a Z K:Ab.fU) f as c.Z (gI c (uH (F::r) f a c.S) k y):=by
   intro i n;obtain⟨G,s,q,u⟩:=P2 x z i;rw[n];exact⟨G,aB _ s,q,u⟩
  simp only[KF]at h;cases e:Nat.beq F.f f with
  |false=>
   rw[e,zD]at h;exact next h (by simp only[uH,e,zD])
  |true=>
   rw[e,zC]at h;cases g:mH (D9 F.vals a c.S) 0 [] F.ins a with
   |none=>
    rw[g]at h;exact next h (by simp only[uH,e,zC,g])
   |some w=>
    rw[g]at h;simp only at h;cases l:PB F.ins.shs w.ls with
    |none=>
     rw[l]at h;exact next h (by simp only[uH,e,zC,g,l])
    |some t=>
     rw[l]at h;simp only at h;obtain⟨i,n⟩:=aw h;rw[Bool.and_eq_true]at i;have d:uH (F::r) f a c.S=jI F.objs w.m:=by simp only[uH,e,zC,g,l]
     rw[d];unfold as6 at n;obtain⟨o,s,q⟩:=ah n;rw[Oo]at q;obtain⟨p,u,j⟩:=ah q;have b:=KW F.vals a c.S;split at j
     .rename_i v fs bs L;split at j
      .rename_i S' J;refine⟨F,aD,bB e,⟨c.μ,D9 F.vals a c.S,c.Z,c.fb⟩,a,w,t,o,p,v,fs,bs,S',rfl,b.rel x,VRel.frames b.le z,g,l,i.1,i.2,s,u,L,J, ?_⟩;rintro M Z' ⟨A,B,C,D,E,H,I⟩;exact⟨v,A,B,b.le.trans D,E,(b.calm _).trans I b.le,H,by rw[C];exact j⟩
      .cases j
     .cases j
theorem P3 {β:Type}{c:Ctx}{k:VV->ai->Option β}{y:β}{f:Nat}{a:List VV}{as:List Value}(d:dn c)(e:F2 (VRel c) a as): ∀{g:List Inl},TD g f a c.S k=O y->∃I,I∈g/\I.f=f/\I.spec as c.Z (gI c (Kt c.S.length) k y)
 |[],h=>by cases h
 |I::r,h=>by
  simp only[TD]at h;cases b:Nat.beq I.f f with
  |false=>
   rw[b,zD]at h;obtain⟨J,i,j,l⟩:=P3 d e h;exact⟨J,aB _ i,j,l⟩
  |true=>
   rw[b,zC]at h;exact⟨I,aD,bB b,β,y,c,a,k,rfl,d,e,h,λr Z' h=>h⟩
theorem P4 {β:Type}{k:VV->ai->Option β}{y:β}{f:Nat}{a:List VV}(b:dn c)(e:F2 (VRel c) a as)(h:TE tab f a c.S k=O y):fD tab f as c.Z (gI c (OG tab f a c.S) k y):=by
 unfold TE at h;unfold OG;cases d:ah6 tab.is f with
 |false=>
  rw[d,zD]at h;rw[zD];exact .inl (P2 b e h)
 |true=>
  rw[d,zC]at h;rw[zC];exact .inr (P3 b e h)
theorem tM {β:Type}{e:cj}{C:cf}{k:VV->ai->Option β}{y:β}(d:dn c)(g:au c e C){op:AOp}(h:HU tab op e c.S k=O y):bu (fD tab) op C c.Z (gI c (GM tab op e c.S) k y):=by
 cases op<;>simp only[HU]at h
 case move x=>exact aj5 d g h
 case pick t a b=>
  split at h
  .rename_i p A;exact an0 d g A h
  .cases h
 case alloc es z=>exact W1 d h
 case box es x=>exact az2 d g h
 case build z ps=>
  split at h
  .rename_i F w;exact Xh d g w h
  .cases h
 case buildSlice es ln z ps=>
  split at h
  .rename_i F w;exact Mr d g w h
  .cases h
 case load x=>exact ai6 d g h
 case loadN n x=>exact XY d g h
 case store n a x=>exact YW d g (λq u=>HR _ u) h
 case nilCheck x=>exact QB d g h
 case bin op x z=>exact ay8 d g h
 case eqv B neg x z=>
  split at h
  .rename_i p A;exact aA4 d g A h
  .cases h
 case eqCells neg ks x z=>
  split at h
  .rename_i a b j r;split at h
   .rename_i p A;exact Sr d g j r A h
   .cases h
  .cases h
 case un op x=>exact aL1 d g h
 case conv B x=>
  split at h
  .rename_i n H;exact ae7 d g H h
  .cases h
 case mkFunc f a b=>exact VX d g h
 case makeSlice es bytes z l m=>exact aj1 d g h
 case slice es x lo hi=>exact YS d g h
 case sliceStr x lo hi=>exact Ro d g h
 case sliceArr es n x lo hi=>exact Rm d g h
 case off n x=>exact aC6 d g h
 case idx es x i=>exact aB0 d g h
 case idxA ln es x i=>exact ai1 d g h
 case fieldV o n agg x=>
  split at h
  .rename_i F w;exact Vy d g w h
  .cases h
 case indexV ln es agg x i=>
  split at h
  .rename_i F B i j r;exact VQ d g j r h
  .cases h
 case indexS x i=>
  split at h
  .rename_i l B i j r;exact VP d g j r h
  .cases h
 case extract x i=>
  split at h
  .rename_i vs w;exact St d g w h
  .cases h
 case call f xs=>exact P4 d (JI g xs) h
 case callv x xs=>
  have v:=bv g x;split at h
  .rename_i f a b K;rw[K]at v
   have: ∃D E,C.ev x= .func (.func f) D E/\F2 (VRel c) a D.toList/\F2 (VRel c) b E.toList:=by
    generalize C.ev x=N at v;cases v;exact⟨_,_,rfl,by assumption,by assumption⟩
   obtain⟨D,E,j,r,L⟩:=this;have:=P4 d ((r.append (JI g xs)).append L) h;simp only[bu,j,GM,K];exact this
  .cases h
 case append es bytes s x=>exact RZ d g (λq u=>HR _ u) h λh=>U7 d g (λq u=>HR _ u) h
 case stuck=>cases h
 case capN x=>
  split at h
  .rename_i v;exact ae1 d g v h
  .cases h
 case sliceX x hi mx=>exact Wt d g h
 case range x=>
  split at h
  .rename_i l v;exact YB d g v h
  .cases h
 case next x=>exact aj7 d g (λq u=>HR _ u) h
 case newB=>exact aj6 d h
 case encR x=>
  split at h
  .rename_i n v;exact af7 d g v h
  .cases h
 case strOf x=>exact YX d g h
 case strOfR x=>exact aq1 d g h
 case runesOf x=>exact YL d g h
 case mark x=>exact aj2 d g h
 case appendZ es bytes z s x=>exact R0 d g (λq u=>HR _ u) h
 case copy es s x=>exact ae8 d g (λq u=>HR _ u) h
 case len x=>
  split at h
  .cases h
  .rename_i I;split at h
   .rename_i n H;exact aB7 d g I H h
   .cases h
 case lenS x=>
  split at h
  .rename_i l M;exact ai5 d g M h
  .cases h
 case lenC n=>exact bw rfl (gI.same d (.int _ _) h)
 case most x z=>
  split at h
  .rename_i B a J b j r;exact aj4 d g j r h
  .cases h
 case least x z=>
  split at h
  .rename_i B a J b j r;exact XP d g j r h
  .cases h
end
end Go.V
