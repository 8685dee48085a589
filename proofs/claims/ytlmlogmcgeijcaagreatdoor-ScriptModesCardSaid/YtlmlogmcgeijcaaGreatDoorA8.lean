/- A part of the proof. No condition. -/
import Derived.Test.YtlmlogmcgeijcaaGreatDoorA7
set_option linter.unusedVariables false
set_option linter.unusedSimpArgs false
set_option linter.unusedSectionVars false
namespace Go.V
open Go.Ab
open Option renaming some->O,none->Y
open Bool renaming true->Za,false->Zb
open Decidable renaming decide->Zc
variable {bs fs:List Blk}{vs:List VV}{c:Ctx}{as:List Value}{sk:ui}{S2:ai}{tab:Tab}
section
open Bool renaming or_eq_false_iff -> bB
open List renaming getElem?_eq_getElem -> aB, getElem_mem -> aD, all_eq_true -> bD, any_eq_false -> cB, length_append -> cD
theorem Ir : ∀{js:List Nat} {bs:List Blk} {S S1:ai},js.length=bs.length->∃S2,vE js bs S1=O S2
 |[],[],_,S1,_=>⟨S1,rfl⟩
 |[],_::_,_,_,h=>by simp at h
 |_::_,[],_,_,h=>by simp at h
 |j::js,b::bs,S,S1,h=>by
  obtain⟨S2,a⟩:=Ir (js:=js) (bs:=bs) (S:=S) (S1:=kE S1 j b) (by simpa using h);exact⟨S2,a⟩
theorem KY {f:Nat->Nat}: ∀{os:List OSk} {ls rest:List Leaf} {bs:List Blk},CD f os ls=O (bs,rest)->(∀o,o∈os->o.ro=Zb)->∀b,b∈bs->b.dim≠Y->b.frozen=Zb
 |[],ls,rest,bs,h,_,b,hb,_=>by
  simp only[CD]at h;injection h with h
  injection h with a i
  subst a;simp at hb
 |o::os,ls,rest,bs,h,j,b,hb,g=>by
  simp only[CD]at h;obtain⟨p,a,h⟩:=ah h;obtain⟨q,i,h⟩:=ah h;injection h with h
  injection h with k r
  subst k;rcases List.mem_cons.1 hb with hb|hb
  .subst hb;have e:=j o List.mem_cons_self;cases o with
   |dead=>
    simp only[MI]at a;injection a with a
    rw[<-a]at g;exact(g rfl).elim
   |cells n ro l=>
    simp only[MI]at a;obtain⟨v,m,d⟩:=ah a;injection d with d
    rw[<-d];exact e
   |arr ro s=>
    cases ls with
    |nil=>simp[MI]at a
    |cons x ls=>
     simp only[MI]at a;obtain⟨v,m,d⟩:=ah a;injection d with d
     rw[<-d];exact e
  .exact KY i (λo e=>j o (List.mem_cons_of_mem _ e)) b hb g
theorem Qf {f:Nat->Nat}{ls:List Leaf}(h:pp f sk ls=O (vs,fs,bs))(a:sk.noRo=Za):(∀b,b∈fs->b.dim≠Y->b.frozen=Zb)/\∀b,b∈bs->b.dim≠Y->b.frozen=Zb:=by
 unfold ui.noRo at a;rw[Bool.and_eq_true,bD,bD]at a;unfold pp at h;obtain⟨p,l,h⟩:=ah h;obtain⟨q,i,h⟩:=ah h;obtain⟨r,j,h⟩:=ah h;split at h
 .injection h with h
  injection h with k h
  injection h with e g
  subst e;subst g;exact⟨KY (rest:=q.2) i λo d=>by simpa using a.1 o d,KY (rest:=r.2) j λo d=>by simpa using a.2 o d⟩
 .cases h
theorem PX (h:CB vs fs bs=Zb):Ox vs=Zb/\(∀b,b∈fs->alB b=Zb)/\∀b,b∈bs->alB b=Zb:=by
 unfold CB at h;rw[bB,bB,cB,cB]at h;exact⟨h.1.1,λb a=>by simpa using h.1.2 b a,λb a=>by simpa using h.2 b a⟩
theorem Rx {l:List Blk}{i:Nat}(h:(ae l i).dim≠Y):ae l i∈l:=by
 have a:=me h;rw[vB (aB a)];exact aD a
theorem NM {ctf:Ctx}{js:List Nat}{Sa Sb S1:ai}(M:dv c)(B:Le c ctf)(u:dv ctf)(N:F2 (VRel ctf) vs as)(z:CB vs fs bs=Zb)
  (C: ∀b,b∈fs->b.dim≠Y->b.frozen=Zb) (D: ∀b,b∈bs->b.dim≠Y->b.frozen=Zb) (g:Sa.length=c.S.length) (h:Sb.length=c.S.length) (w:vE js fs Sa=O S1) (x:vE js fs Sb=O S2) (p:js.Nodup) (P: ∀j,j∈js->j<c.S.length)
  (v:ctf.S=S1++bs) (Q: ∀k,k<c.S.length->ctf.μ k=c.μ k)
  (q: ∀k,k<c.S.length->k∉js->(ae Sa k=ae Sb k/\((ae Sa k).dim≠Y->ae Sa k=ae c.S k))∨(ae Sb k=ae c.S k/\ae Sa k=(ae c.S k).freeze))
  (r: ∀k,k<c.S.length->k∉js->(ae Sa k).dim≠Y->∀b y,c.μ k=O b->c.Z.m b=O y->ctf.Z.m b=O y):
  Le c ⟨ctf.μ,S2++bs,ctf.Z,ctf.fb⟩/\dv ⟨ctf.μ,S2++bs,ctf.Z,ctf.fb⟩/\F2 (VRel ⟨ctf.μ,S2++bs,ctf.Z,ctf.fb⟩) vs as:=by
 obtain⟨I,J,K⟩:=PX z;obtain⟨T,E,U,V⟩:=jI w;obtain⟨q1,F,W,X⟩:=jI x;refine thaw M B u N I (by rw[v,cD,cD,E,F,g,h]) Q λk=> ?_
 by_cases f:k<c.S.length
 .have s:ae (S2++bs) k=ae S2 k:=mK (by rw[F,h];exact f);have l:ae ctf.S k=ae S1 k:=by rw[v];exact mK (by rw[E,g];exact f)
  by_cases o:k∈js
  .obtain⟨i,A,e⟩:=List.mem_iff_getElem.1 o;have d:i<fs.length:=by rw[<-T];exact A
   have H:=V p i k _ (by rw[aB A,e]) (aB d) (by rw[g];exact f);have L:=X p i k _ (by rw[aB A,e]) (aB d) (by rw[h];exact f);refine .inl ⟨by rw[s,l,H,L],λa=> .inl ?_⟩;rw[l,H]at a⊢;exact⟨C _ (aD d) a,J _ (aD d)⟩
  .rw[s,l,W k o,U k o];rcases q k f o with⟨n,t⟩|⟨n,t⟩
   .exact .inl ⟨n.symm,λa=> .inr ⟨f,t a,r k f o a⟩⟩
   .exact .inr ⟨f,n,t,λa=>r k f o (by rw[t,fF];exact a)⟩
 .have n:k=c.S.length+(k-c.S.length):=by omega
  have s:ae (S2++bs) k=ae bs (k-c.S.length):=by
   rw[n,<-h,<-F,rH]
   congr 1
   omega
  have l:ae ctf.S k=ae bs (k-c.S.length):=by
   rw[v,n,<-g,<-E,rH]
   congr 1
   omega
  refine .inl ⟨by rw[s,l],λa=> .inl ?_⟩;rw[l]at a⊢;exact⟨D _ (Rx a) a,K _ (Rx a)⟩
theorem LD {c0 z:Ctx}{a:List OSk}{u:List VV}{st H:DSt}{w:List Blk}(L:dv c)(h0:c0=lH c st w)(hE:Entered c c0 a st w)(P:Le c0 z)(M:dv z)
  (A:Nv st.m=Za) (E:JG c.S (jJ a st.m)=Za) (s:(nT st.m).Nodup) (v: ∀(i:Nat) (o:OSk) (x:Src),a[i]?=O o->o.ro=Za->st.m[i]?=O (O x)->x.k∈st.lent)
  (F:sk.noRo=Za) (hd:mG z.S a.length (tf a 0) sk u=O H) (he:pp (vX st.m a.length c.S.length) sk H.ls=O (vs,fs,bs)) (hf:F2 (VRel z) u as)
  (n:vE (jJ a st.m) fs (cond (CB vs fs bs) (CG st.lent c.S) c.S)=O S2):
  ∃ct:Ctx,ct.Z=z.Z/\ct.S=S2++bs/\Le c ct/\dv ct/\F2 (VRel ct) vs as/\uR (jJ a st.m) c ct:=by
 obtain⟨q1,q2,q3,q4⟩:=jI n;obtain⟨Sf,g⟩:=Ir (S:=c.S) (S1:=CG st.lent c.S) q1;obtain⟨ct,U,I,e3,e4,V,W,X,e8⟩:=We L h0 hE P M A E s v F hd he hf g
 have t: ∀q:Ctx,q.Z=ct.Z->(∀k,(ae q.S k).dim=(ae ct.S k).dim)->uR (jJ a st.m) c q:=by
  intro q J h2 k p D l;obtain⟨_,K,T,_⟩:=jI g;have hl:(CG st.lent c.S).length=c.S.length:=(uq st.lent c.S).1;refine⟨?_,λb hm=> ?_⟩
  .rw[h2,I,mK (by rw[K,hl];exact p),T k D,(uq st.lent c.S).dim];exact l
  .cases B:(ae c.S k).dim with
   |none=>exact(l B).elim
   |some d=>
    obtain⟨y,_,_,hy,_⟩:=L.block B hm;rw[hy,J];exact e8 k p D l b y hm hy
 cases r:CB vs fs bs with
 |true=>
  rw[r,zC,g]at n;injection n with n
  subst n;exact⟨ct,U,I,V,W,X,t ct rfl λ_=>rfl⟩
 |false=>
  rw[r,zD]at n;obtain⟨z1,z2⟩:=Qf he F;have f:=uq st.lent c.S
  obtain⟨r1,r2,r3⟩:=NM L V W X r z1 z2 f.1 rfl g n (uA s) (λj hj=>(lI E hj).1) I e4 (λk p D=>by
   rcases f.2 k with h|h
   .exact .inl ⟨h,λ_=>h⟩
   .exact .inr ⟨rfl,h⟩) (λk p D l=>e8 k p D (by rw[<-f.dim];exact l))
  refine⟨⟨ct.μ,S2++bs,ct.Z,ct.fb⟩,U,rfl,r1,r2,r3,t _ rfl λk=> ?_⟩;obtain⟨_,K,T,p4⟩:=jI g;rw[I];show(ae (S2++bs) k).dim=(ae (Sf++bs) k).dim;by_cases p:k<c.S.length
  .rw[mK (S:=S2) (by rw[q2,r];exact p),mK (S:=Sf) (by rw[K,f.1];exact p)];by_cases Q:k∈jJ a st.m
   .obtain⟨i,N,e⟩:=List.mem_iff_getElem.1 Q;have C:i<fs.length:=by rw[<-q1];exact N
    obtain⟨_,_,_,t4⟩:=jI n
    rw[t4 (uA s) i k _ (by rw[aB N,e]) (aB C) p,
     p4 (uA s) i k _ (by rw[aB N,e]) (aB C) (by rw[f.1];exact p)]
   .obtain⟨_,_,t3,_⟩:=jI n;rw[t3 k Q,T k Q,f.dim]
  .have J:k=c.S.length+(k-c.S.length):=by omega
   have g1:ae (S2++bs) k=ae bs (k-c.S.length):=by
    obtain⟨_,t2,_,_⟩:=jI n;rw[J,<-t2,rH]
    congr 1
    omega
   have g2:ae (Sf++bs) k=ae bs (k-c.S.length):=by
    rw[J,<-f.1,<-K,rH]
    congr 1
    omega
   rw[g1,g2]
theorem al2 {c1 f:Ctx}{fx mov:List Nat}{b:List VV}{st:DSt}(y:dv c)(q:dv f)(H:Within c c1 fx mov)(r:dv c1)(t:Le c1 f)
  (l:JG c.S fx=Za) (m:sk.noRo=Za) (z:mG f.S c.S.length fx sk b=O st) (A:pp id sk st.ls=O (vs,fs,bs)) (E:F2 (VRel f) b as) (d:vE fx fs (jA fx mov (CB vs fs bs) 0 c.S)=O S2):
  ∃ct:Ctx,ct.Z=f.Z/\ct.S=S2++bs/\Le c ct/\dv ct/\F2 (VRel ct) vs as:=by
 obtain⟨K,U,V,W⟩:=jI d;obtain⟨Sf,a⟩:=Ir (S:=c.S) (S1:=jA fx mov Za 0 c.S) K;obtain⟨ct,u,p,T,C,v,w,x,D⟩:=au8 y q H r t l (Ul m) z A E a;cases e:CB vs fs bs with
 |true=>
  rw[e,a]at d;injection d with d
  subst d;exact⟨ct,u,p,v,w,x⟩
 |false=>
  rw[e]at d;obtain⟨P,Q⟩:=Qf A m;obtain⟨o,_⟩:=po z;have i:=pj o;rw[List.nodup_append]at i;obtain⟨_,B,J,_⟩:=jI a;rw[lS]at B
  obtain⟨L,M,N⟩:=NM y v w x e P Q lS lS a d i.1 (λj F=>(lI l F).1) p C (λk g n=>by
   rw[lR g,lR g,Nat.zero_add,jB n];cases kB k mov with
   |true=>
    refine .inl ⟨rfl,λh=> ?_⟩;cases I:(ae c.S k).frozen with
    |true=>rfl
    |false=>rw[I]at h;exact(h rfl).elim
   |false=>exact .inr ⟨rfl,rfl⟩) (λk g n s=>(D k g n (by rw[p,mK (by rw[B];exact g),J k n];exact s)).2)
  exact⟨⟨ct.μ,S2++bs,ct.Z,ct.fb⟩,u,rfl,L,M,N⟩
end
section
open List renaming mem_cons_of_mem -> aB, mem_cons_self -> aD
open Nat renaming eq_of_beq_eq_true -> bB
def Xi (l:List Alt)(s:uk l):Option (Σ a:Alt,a.Ty):=Xh l s λa u=>O ⟨a,u⟩
theorem Oz {β:Type}: ∀(l:List Alt) (s:uk l) (k:(a:Alt)->a.Ty->Option β),Xh l s k=(Xi l s).bind λp=>k p.1 p.2
 |[],_,_=>rfl
 |[a],t,k=>rfl
 |a::b::r, .inl t,k=>rfl
 |a::b::r, .inr s,k=>Oz (b::r) s k
def FSum.spec (F:FSum):Ab.HE:=λf Z K=> ∃(c:Ctx) (d:List VV) (b:DSt) (t:Df F.ins.shs) (o:uk F.outs) (p:Σ a:Alt,a.Ty) (v:VV) (fs bs:List Blk) (S':ai),
 c.Z=Z/\dv c/\F2 (VRel c) d f/\mG c.S 0 [] F.ins d=O b/\PI F.ins.shs b.ls=O t/\Nv b.m=Za/\JG c.S (jJ F.objs b.m)=Za/\F.run t=O o/\Xi F.outs o=O p/\
 pp (vX b.m F.objs.length c.S.length) p.1.sk (RG p.1.sk.shs p.2)=O ([v],fs,bs)/\vE (jJ F.objs b.m) fs (cond (CB [v] fs bs) (CG b.lent c.S) c.S)=O S'/\
 ∀r Z',(∃e:Ctx,e.Z=Z'/\e.S=S'++bs/\Le c e/\dv e/\VRel e v r/\uR (jJ F.objs b.m) c e)->K r Z'
theorem FSum.mono (F:FSum):IH F.spec:=by
 rintro f Z K K' u ⟨c,a,w,t,o,p,v,fs,bs,S',g,i,j,k,l,m,n,q,s,b,d,e⟩;exact⟨c,a,w,t,o,p,v,fs,bs,S',g,i,j,k,l,m,n,q,s,b,d,λr Z' h=>u r Z' (e r Z' h)⟩
def Inl.spec (I:Inl):Ab.HE:=λb Z K=> ∃(β:Type) (y:β) (c:Ctx) (a:List VV) (k:VV->ai->Option β),c.Z=Z/\dv c/\F2 (VRel c) a b/\I.run β a c.S k=O y/\∀r Z',gx c (KG c.S.length) k y r Z'->K r Z'
theorem Inl.mono (I:Inl):IH I.spec:=by
 rintro b Z K K' j ⟨β,y,c,a,k,d,e,f,g,i⟩;exact⟨β,y,c,a,k,d,e,f,g,λr Z' h=>j r Z' (i r Z' h)⟩
def fA (tab:Tab):Ab.fM:=λf a Z K=>(∃F,F∈tab.fs/\F.f=f/\F.spec a Z K)∨∃I,I∈tab.is/\I.f=f/\I.spec a Z K
theorem br (tab:Tab):rk (fA tab):=by
 rintro f a Z K K' g (⟨F,b,d,e⟩|⟨F,b,d,e⟩)
 .exact .inl ⟨F,b,d,F.mono a Z K K' g e⟩
 .exact .inr ⟨F,b,d,F.mono a Z K K' g e⟩
def dw (P:Program)(F:FSum):Prop:=CA P F.f F.spec
def Sd (P:Program)(I:Inl):Prop:=CA P I.f I.spec
def eo (P:Program)(tab:List FSum):Prop:= ∀F,F∈tab->dw P F
def aa (P:Program)(a:List Inl):Prop:= ∀I,I∈a->Sd P I
theorem aa.nil (P:Program):aa P []:=λF h=>by cases h
theorem aa.cons {P:Program}{F:Inl}{tab:List Inl}(h:Sd P F)(a:aa P tab):aa P (F::tab):=λG hG=>by
 rcases List.mem_cons.1 hG with rfl|hG
 .exact h
 .exact a G hG
theorem eo.nil (P:Program):eo P []:=λF h=>by cases h
theorem eo.cons {P:Program}{F:FSum}{tab:List FSum}(h:dw P F)(a:eo P tab):eo P (F::tab):=λG hG=>by
 rcases List.mem_cons.1 hG with rfl|hG
 .exact h
 .exact a G hG
theorem eo.app {P:Program}{a b:List FSum}(h:eo P a)(k:eo P b):eo P (a++b):=λG hG=>by
 rcases List.mem_append.1 hG with hG|hG
 .exact h G hG
 .exact k G hG
theorem Ei {P:Program}(h:eo P tab.fs)(k:aa P tab.is)(f:FuncId):CA P f (fA tab f):=by
 rintro B μ Z w b a K (⟨F,d,e,g⟩|⟨F,d,e,g⟩) i j
 .subst e;exact h F d B μ Z w b a K g i j
 .subst e;exact k F d B μ Z w b a K g i j
theorem P7 {β:Type}{c:Ctx}{k:VV->ai->Option β}{y:β}{f:Nat}{a:List VV}{as:List Value}(x:dv c)(z:F2 (VRel c) a as): ∀{tab:List FSum},KR tab f a c.S k=O y->(λf a Z K=> ∃F,F∈tab/\F.f=f/\F.spec a Z K:Ab.fM) f as c.Z (gx c (um tab f a c.S) k y)
 |[],h=>by cases h
 |F::r,h=>by
  have next:KR r f a c.S k=O y->um (F::r) f a c.S=um r f a c.S->(λf a Z K=> ∃G,G∈F::r/\G.f=f/\G.spec a Z K:Ab.fM) f as c.Z (gx c (um (F::r) f a c.S) k y):=by
   intro i n;obtain⟨G,s,q,u⟩:=P7 x z i;rw[n];exact⟨G,aB _ s,q,u⟩
  simp only[KR]at h;cases e:Nat.beq F.f f with
  |false=>
   rw[e,zD]at h;exact next h (by simp only[um,e,zD])
  |true=>
   rw[e,zC]at h;cases g:mG (DX F.vals a c.S) 0 [] F.ins a with
   |none=>
    rw[g]at h;exact next h (by simp only[um,e,zC,g])
   |some w=>
    rw[g]at h;simp only at h;cases l:PI F.ins.shs w.ls with
    |none=>
     rw[l]at h;exact next h (by simp only[um,e,zC,g,l])
    |some t=>
     rw[l]at h;simp only at h;obtain⟨i,n⟩:=aw h;rw[Bool.and_eq_true]at i;have d:um (F::r) f a c.S=jJ F.objs w.m:=by simp only[um,e,zC,g,l]
     rw[d];unfold au5 at n;obtain⟨o,s,q⟩:=ah n;rw[Oz]at q;obtain⟨p,u,j⟩:=ah q;have b:=K8 F.vals a c.S;split at j
     .rename_i v fs bs L;split at j
      .rename_i S' J;refine⟨F,aD,bB e,⟨c.μ,DX F.vals a c.S,c.Z,c.fb⟩,a,w,t,o,p,v,fs,bs,S',rfl,b.rel x,VRel.frames b.le z,g,l,i.1,i.2,s,u,L,J, ?_⟩;rintro M Z' ⟨A,B,C,D,E,H,I⟩;exact⟨v,A,B,b.le.trans D,E,(b.calm _).trans I b.le,H,by rw[C];exact j⟩
      .cases j
     .cases j
theorem P8 {β:Type}{c:Ctx}{k:VV->ai->Option β}{y:β}{f:Nat}{a:List VV}{as:List Value}(d:dv c)(e:F2 (VRel c) a as): ∀{g:List Inl},TU g f a c.S k=O y->∃I,I∈g/\I.f=f/\I.spec as c.Z (gx c (KG c.S.length) k y)
 |[],h=>by cases h
 |I::r,h=>by
  simp only[TU]at h;cases b:Nat.beq I.f f with
  |false=>
   rw[b,zD]at h;obtain⟨J,i,j,l⟩:=P8 d e h;exact⟨J,aB _ i,j,l⟩
  |true=>
   rw[b,zC]at h;exact⟨I,aD,bB b,β,y,c,a,k,rfl,d,e,h,λr Z' h=>h⟩
theorem P9 {β:Type}{k:VV->ai->Option β}{y:β}{f:Nat}{a:List VV}(b:dv c)(e:F2 (VRel c) a as)(h:TV tab f a c.S k=O y):fA tab f as c.Z (gx c (ON tab f a c.S) k y):=by
 unfold TV at h;unfold ON;cases d:aj2 tab.is f with
 |false=>
  rw[d,zD]at h;rw[zD];exact .inl (P7 b e h)
 |true=>
  rw[d,zC]at h;rw[zC];exact .inr (P8 b e h)
theorem te {β:Type}{e:cm}{C:cf}{k:VV->ai->Option β}{y:β}(d:dv c)(g:au c e C){op:AOp}(h:HV tab op e c.S k=O y):bu (fA tab) op C c.Z (gx c (GI tab op e c.S) k y):=by
 cases op<;>simp only[HV]at h
 case move x=>exact am3 d g h
 case pick t a b=>
  split at h
  .rename_i p A;exact ao8 d g A h
  .cases h
 case alloc es z=>exact Xg d h
 case box es x=>exact az4 d g h
 case build z ps=>
  split at h
  .rename_i F w;exact Xw d g w h
  .cases h
 case buildSlice es ln z ps=>
  split at h
  .rename_i F w;exact MD d g w h
  .cases h
 case load x=>exact al4 d g h
 case loadN n x=>exact Ye d g h
 case store n a x=>exact aa3 d g (λq u=>HS _ u) h
 case nilCheck x=>exact QM d g h
 case bin op x z=>exact az1 d g h
 case eqv B neg x z=>
  split at h
  .rename_i p A;exact aA7 d g A h
  .cases h
 case eqCells neg ks x z=>
  split at h
  .rename_i a b j r;split at h
   .rename_i p A;exact SG d g j r A h
   .cases h
  .cases h
 case un op x=>exact aM9 d g h
 case conv B x=>
  split at h
  .rename_i n H;exact ag1 d g H h
  .cases h
 case mkFunc f a b=>exact Wg d g h
 case makeSlice es bytes z l m=>exact al9 d g h
 case slice es x lo hi=>exact Y8 d g h
 case sliceStr x lo hi=>exact RC d g h
 case sliceArr es n x lo hi=>exact RB d g h
 case off n x=>exact aD4 d g h
 case idx es x i=>exact aB5 d g h
 case idxA ln es x i=>exact aj8 d g h
 case fieldV o n agg x=>
  split at h
  .rename_i F w;exact VI d g w h
  .cases h
 case indexV ln es agg x i=>
  split at h
  .rename_i F B i j r;exact V0 d g j r h
  .cases h
 case indexS x i=>
  split at h
  .rename_i l B i j r;exact VZ d g j r h
  .cases h
 case extract x i=>
  split at h
  .rename_i vs w;exact SI d g w h
  .cases h
 case call f xs=>exact P9 d (JU g xs) h
 case callv x xs=>
  have v:=bv g x;split at h
  .rename_i f a b K;rw[K]at v
   have: ∃D E,C.ev x= .func (.func f) D E/\F2 (VRel c) a D.toList/\F2 (VRel c) b E.toList:=by
    generalize C.ev x=N at v;cases v;exact⟨_,_,rfl,by assumption,by assumption⟩
   obtain⟨D,E,j,r,L⟩:=this;have:=P9 d ((r.append (JU g xs)).append L) h;simp only[bu,j,GI,K];exact this
  .cases h
 case append es bytes s x=>exact Si d g (λq u=>HS _ u) h λh=>Vl d g (λq u=>HS _ u) h
 case stuck=>cases h
 case capN x=>
  split at h
  .rename_i v;exact af5 d g v h
  .cases h
 case sliceX x hi mx=>exact WG d g h
 case range x=>
  split at h
  .rename_i l v;exact YR d g v h
  .cases h
 case next x=>exact am5 d g (λq u=>HS _ u) h
 case newB=>exact am4 d h
 case encR x=>
  split at h
  .rename_i n v;exact ah3 d g v h
  .cases h
 case strOf x=>exact aa4 d g h
 case strOfR x=>exact ar5 d g h
 case runesOf x=>exact Y1 d g h
 case mark x=>exact am0 d g h
 case appendZ es bytes z s x=>exact Sj d g (λq u=>HS _ u) h
 case copy es s x=>exact ag2 d g (λq u=>HS _ u) h
 case len x=>
  split at h
  .cases h
  .rename_i I;split at h
   .rename_i n H;exact aC4 d g I H h
   .cases h
 case lenS x=>
  split at h
  .rename_i l M;exact al3 d g M h
  .cases h
 case lenC n=>exact bw rfl (gx.same d (.int _ _) h)
 case most x z=>
  split at h
  .rename_i B a J b j r;exact am2 d g j r h
  .cases h
 case least x z=>
  split at h
  .rename_i B a J b j r;exact X9 d g j r h
  .cases h
end
end Go.V
