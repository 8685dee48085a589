/- A part of the proof. No condition. -/
import Derived.Test.YtekbakifagogaaaGreatDoorA9
import Derived.Test.YtekbakifagogaaaGreatDoorA4
import Derived.IntWalk
import Derived.KernelRfl
import Derived.WideKeyArr2
import Derived.RowKit
import Derived.ProofKit
import Derived.OpenShut
import Derived.ChangeArms
import Derived.Below
set_option linter.unusedVariables false
set_option linter.unusedSimpArgs false
set_option linter.unusedSectionVars false
namespace Go.V
open Go.Ab
open Option renaming some->O,none->Y
open Bool renaming true->Za,false->Zb
open Decidable renaming decide->Zc
variable {w:World}{f:FuncId}{vals:List Sk}{rows:List Row}{c:Ctx}{fx:List Nat}{objs:List OSk}{outs:List Alt}{at':AT}{v:Value}{vs:List VV}{sk:uE}{tab:List FSum}{cargs:Array Value}{a:Int}
section
open Bool renaming and_eq_true -> aB
open List renaming mem_cons_self -> aD, mem_cons_of_mem -> cB, mem_of_getElem? -> cD
open Nat renaming beq -> bB, zero_add -> bD, eq_of_beq_eq_true -> cK
section
variable {tab:Tab}
theorem QT {e:cj}{d:cf}{t:Nat}{p:Bool}(g:au c e d)(j:kX e t= .bool p):au c (qj e t (.bool p)) d:=by
 have b:=g t;rw[j]at b;have b:=b.bool_inv;intro i;rw[vT];by_cases h:i=t
 .subst h;rw[zE rfl,b];exact .bool _
 .rw[zF h];exact g i
theorem FX {β:Type}{y:β}: ∀{A:List SItem} {c:Ctx} {e:cj} {b:cf} {g:Fs} {ach:List (Nat×(Hp->Prop))} {k:cj->ai->Option β},dn c->au c e b->ChkRel c ach g->tL tab A g e c.S k=O y->Px (fD tab) (pF c k y) A ach b c.Z
 |[],c,e,b,g,ach,k,B,q,E,h=>⟨e,c,rfl,Le.refl c,B,q,h⟩
 |it::r,c,e,b,g,ach,k,B,q,E,h=>by
  have i: ∀n,au c n b->HT tab it g n c.S (λl I S'=>tL tab r l I S' k)=O y->
    (if it.mover then bu (fD tab) it.o.op b c.Z (λv Z'=>xx it.chks Z' ach/\Px (fD tab) (pF c k y) r ach (b.putO it.o.dst v) Z')
    else match it.o.op.run b c.Z with
     |some (v,_)=>Px (fD tab) (pF c k y) r (if it.keep then(it.idx,λZ'=>it.o.op.run b Z'=O (v,Z'))::ach else ach) (b.putO it.o.dst v) c.Z
     |none=>False):=by
   intro n s D;refine Vx (Q:=λj z Z'=>Px (fD tab) (pF c k y) r j z Z') B s E D λU j l I z K L M N T=> ?_
   exact EG (bq tab) (λJ Z'' x=>x.of K) _ _ _ _ (FX L N M T)
  have skip: ∀n,au c n b->tL tab r g (putO n it.o.dst (.tup [])) c.S k=O y->Px (fD tab) (pF c k y) r ach (b.putO it.o.dst undef) c.Z:=λn s D=>FX B (s.putO (.tup .nil)) E D
  simp only[tL]at h;simp only[Px];split at h
  .rename_i C;have:wanted it.o b=Za:=by simp only[wanted,C]
   rw[zE this];exact i e q h
  .rename_i t w C;split at h
   .rename_i p x;have m:=q t;rw[x]at m;have m:=m.bool_inv;have F:wanted it.o b=(p==w):=by simp only[wanted,C,m]
    have d:=QT q x;rw[F];cases p<;>cases w<;>simp only[zC,zD]at h
    .rw[zE (by decide)];exact i _ d h
    .rw[zF (by decide)];exact skip _ d h
    .rw[zF (by decide)];exact skip _ d h
    .rw[zE (by decide)];exact i _ d h
   .rename_i x;have m:=q t;rw[x]at m
    have F:wanted it.o b=Zb:=by
     simp only[wanted,C];generalize b t=u at m;cases m;rfl
    rw[F,zF (by decide)];exact skip _ q h
   .cases h
def rU (as:List Nat)(e e':cf):Prop:= ∀t,t∉as->e' t=e t
theorem rU.refl (as:List Nat)(e:cf):rU as e e:=λ_ _=>rfl
theorem rU.put {as:List Nat}{e e':cf}{d:Option Nat}(h:rU as e e')(g: ∀t,t∈OH d->t∈as):rU as e (e'.putO d v):=by
 intro t b;cases d with
 |none=>exact h t b
 |some d=>
  have:t≠d:=by rintro rfl;exact b (g t (List.mem_singleton.2 rfl))
  simp only[cf.putO,cf.put,zF this];exact h t b
theorem Gg {T:Ab.fU}(g:rV T){Q:cf->Hp->Prop}{as:List Nat}{e0:cf}: ∀{b:List AOper} {e:cf} {Z:Hp},(∀o,o∈b->∀t,t∈OH o.dst->t∈as)->rU as e0 e->Ab.yO T Q b e Z->Ab.yO T (λe' Z'=>rU as e0 e'/\Q e' Z') b e Z
 |[],e,Z,_,d,h=>⟨d,h⟩
 |o::r,e,Z,i,d,h=>by
  simp only[Ab.yO]at h⊢;have k: ∀o,o∈r->∀t,t∈OH o.dst->t∈as:=λo l=>i o (cB _ l)
  split at h
  .rename_i j;rw[zE j];exact kA g (λv Z' m=>Gg g k (d.put (i o aD)) m) h
  .rename_i j;rw[zF j];exact Gg g k (d.put (i o aD)) h
theorem Hs {T:Ab.fU}(i:rV T){Q:cf->Hp->Prop}{as:List Nat}{e0:cf}: ∀{d:List SItem} {b:List (Nat×(Hp->Prop))} {e:cf} {Z:Hp},(∀o,o∈d->∀t,t∈OH o.o.dst->t∈as)->rU as e0 e->Px T Q d b e Z->Px T (λe' Z'=>rU as e0 e'/\Q e' Z') d b e Z
 |[],b,e,Z,_,g,h=>⟨g,h⟩
 |it::r,b,e,Z,j,g,h=>by
  simp only[Px]at h⊢;have l: ∀o,o∈r->∀t,t∈OH o.o.dst->t∈as:=λo p=>j o (cB _ p)
  split at h
  .rename_i m;rw[zE m];split at h
   .rename_i k;rw[zE k];exact kA i (λv Z' n=>⟨n.1,Hs i l (g.put (j it aD)) n.2⟩) h
   .rename_i k;rw[zF k];split at h
    .exact Hs i l (g.put (j it aD)) h
    .exact h.elim
  .rename_i m;rw[zF m];exact Hs i l (g.put (j it aD)) h
theorem PT {F G:Nat->Prop}(h: ∀m,F m->G m): ∀{l:List Nat},Ki F l->Ki G l
 |[],_=>trivial
 |[m],q=>h m q
 |m::b::r,q=>⟨h m q.1,PT h q.2⟩
theorem EE {T:Ab.fU}(s:rV T){Q:cf->Hp->Prop}{as:List Nat}{e0:cf}{b:List (AOper×List Nat)}(j: ∀o,o∈b->∀t,t∈OH o.1.dst->t∈as): ∀(f:Nat) {D:List Nat} {g:List (Nat×(Hp->Prop))} {e:cf} {Z:Hp},rU as e0 e->CB T Q b f D g e Z->CB T (λe' Z'=>rU as e0 e'/\Q e' Z') b f D g e Z
 |0,D,g,e,Z,n,h=>⟨n,h⟩
 |f+1,D,g,e,Z,n,h=>by
  simp only[CB]at h⊢;cases y:dq b D with
  |some i=>
   rw[y]at h;simp only at h⊢;cases q:b[i]? with
   |none=>rw[q]at h;exact h
   |some p=>
    obtain⟨o,x⟩:=p;rw[q]at h;have d:(o,x)∈b:=cD q;simp only at h⊢;split at h
    .rename_i r;rw[zE r];split at h
     .rename_i v Z' u;exact EE s j f (n.put (j _ d)) h
     .exact h.elim
    .rename_i r;rw[zF r];exact EE s j f (n.put (j _ d)) h
  |none=>
   rw[y]at h;simp only at h⊢;cases u:bn b D with
   |nil=>rw[u]at h;exact⟨n,h⟩
   |cons a l=>
    rw[u]at h;simp only at h⊢;refine PT (λm d=> ?_) h;cases q:b[m]? with
    |none=>rw[q]at d;exact d
    |some p=>
     obtain⟨o,x⟩:=p;rw[q]at d;have k:(o,x)∈b:=cD q;simp only at d⊢;split at d
     .rename_i r;rw[zE r];exact kA s (λv Z' z=>⟨z.1,EE s j f (n.put (j _ k)) z.2⟩) d
     .rename_i r;rw[zF r];exact EE s j f (n.put (j _ k)) d
theorem wd {T:Ab.fU}(m:rV T){as:List Nat}{e0:cf}: ∀(c:AC) {Q:AExit->cf->Hp->Prop} {e:cf} {Z:Hp},Ee c=Za->(∀t,t∈kt c->t∈as)->rU as e0 e->wg T c Q e Z->wg T c (λx e' Z'=>rU as e0 e'/\Q x e' Z') e Z
 | .skip,_,_,_,_,_,j,h=>⟨j,h⟩
 | .exit _,_,_,_,_,_,j,h=>⟨j,h⟩
 | .ret,_,_,_,_,_,j,h=>⟨j,h⟩
 | .region z,Q,e,Z,_,k,j,h=>Gg m (λo r t l=>k t (List.mem_flatMap.2 ⟨o,r,l⟩)) j h
 | .sched B,Q,e,Z,_,k,j,h=>Hs m (λo r t l=>k t (List.mem_flatMap.2 ⟨o,r,l⟩)) j h
 | .draw z,Q,e,Z,_,k,j,h=>EE m (λo r t l=>k t (List.mem_flatMap.2 ⟨o,r,l⟩)) _ j h
 | .seq a b,Q,e,Z,p,k,j,h=>by
  simp only[Ee,aB]at p;have q:=wd m a p.1 (λt l=>k t (List.mem_append.2 (.inl l))) j h;refine fB m a _ _ (λx e' Z' s=> ?_) e Z q;obtain⟨g,d⟩:=s;cases x with
  |normal=>exact wd m b p.2 (λt l=>k t (List.mem_append.2 (.inr l))) g d
  |exit i=>exact⟨g,d⟩
  |ret=>exact⟨g,d⟩
 | .cond c a b,Q,e,Z,p,k,j,h=>by
  simp only[Ee,aB]at p;simp only[wg]at h⊢;split at h
  .exact wd m a p.1 (λt l=>k t (List.mem_append.2 (.inl l))) j h
  .exact wd m b p.2 (λt l=>k t (List.mem_append.2 (.inr l))) j h
  .exact h.elim
 | .block id b,Q,e,Z,p,k,j,h=>by
  have q:=wd m b p k j h;refine fB m b _ _ (λx e' Z' s=> ?_) e Z q;obtain⟨g,d⟩:=s;cases x with
  |normal=>exact⟨g,d⟩
  |exit i=>
   simp only at d⊢;split at d
   .rename_i u;rw[zE u];exact⟨g,d⟩
   .rename_i u;rw[zF u];exact⟨g,d⟩
  |ret=>exact⟨g,d⟩
 | .loop b,Q,e,Z,p,k,j,h=>by
  obtain⟨n,y⟩:=h;refine⟨n, ?_⟩;induction n generalizing e Z with
  |zero=>exact y.elim
  |succ n A=>
   simp only[jd]at y⊢;have q:=wd m b p k j y;refine fB m b _ _ (λx e' Z' s=> ?_) e Z q;obtain⟨g,d⟩:=s;cases x with
   |normal=>exact A _ _ g d
   |exit i=>exact⟨g,d⟩
   |ret=>exact⟨g,d⟩
theorem HP {S:ai}{N:Nat}{vals:List VV}{t:Dq sk.shs}(h:KJ S N fx sk vals=O t):sk.noRo=Za/\∃st,mH S N fx sk vals=O st/\Ru sk.shs t=st.ls:=by
 unfold KJ at h;obtain⟨b,d⟩:=aw h;obtain⟨st,e,g⟩:=ah d;exact⟨b,st,e,E2 g⟩
theorem Xu {S:ai}{N:Nat}{vals:List VV}{t:Dq sk.shs}(h:TJ S N fx sk vals=O t):sk.fxRo=Za/\∃st,mH S N fx sk vals=O st/\Ru sk.shs t=st.ls:=by
 unfold TJ at h;obtain⟨b,d⟩:=aw h;obtain⟨st,e,g⟩:=ah d;exact⟨b,st,e,E2 g⟩
theorem EO {S:ai}{N:Nat}{fx:List Nat}{vals:List Nat->List VV}{d:XK->Bool}: ∀{l:List Alt} {s:uG l},wx S N fx vals d l=O s->∃p,W3 l s=O p/\d p.1.x=Za/\KJ S N fx p.1.sk (vals p.1.ts)=O p.2
 |[],s,h=>by cases h
 |[a],s,h=>by
  simp only[wx]at h;cases e:d a.x with
  |false=>rw[e]at h;cases h
  |true=>rw[e]at h;exact⟨⟨a,s⟩,rfl,e,h⟩
 |a::b::r,s,h=>by
  simp only[wx]at h;split at h
  .rename_i t g;injection h with h
   subst h;cases e:d a.x with
   |false=>rw[e]at g;cases g
   |true=>rw[e]at g;exact⟨⟨a,t⟩,rfl,e,g⟩
  .obtain⟨o,j,i⟩:=ah h;injection i with i
   subst i;obtain⟨p,k,m,n⟩:=EO j;exact⟨p,k,m,n⟩
theorem XK.is_out {x:XK}{y:AExit}(h:x.is y=Za):x.out=y:=by
 cases x<;>cases y<;>simp only[XK.is]at h<;>first|rfl|(cases h;done)|skip
 rename_i i j;rw[show(XK.exit i).out=AExit.exit i from rfl,cK h]
theorem G8 {c:Ctx}: ∀{ts:List Nat} {e:cj} {b:cf} {vs:List VV},au c e b->F2 (VRel c) vs (ts.map b)->au c (QU e ts vs) b
 |[],e,b,vs,d,g=>by
  cases g;exact d
 |t::ts,e,b,vs,d,g=>by
  cases g with
  |cons j k=>
   have:=G8 d k;intro i;simp only[QU,vT];by_cases h:i=t
   .subst h;rw[zE rfl];exact j
   .rw[zF h];exact this i
theorem EM {as:List Nat}{e:cj}{d b:cf}(j:au c e d)(k:rU as d b):au c (qE e as) b:=by
 intro t;rcases xC (ts:=as) (e:=e) (t:=t)with h|⟨g,i⟩
 .rw[h];exact .undef _
 .rw[i,k t g];exact j t
theorem JM {c:Ctx}{e:cj}{b:cf}(d:au c e b): ∀ts:List Nat,F2 (VRel c) (ts.map (kX e)) (ts.map b)
 |[]=> .nil
 |t::ts=> .cons (d t) (JM d ts)
theorem OP {β:Type}{c1 g:Ctx}{e0:cj}{i d:cf}{mov e:List Nat}{b:List Alt}{s:uG b}{k:AExit->cj->ai->Option β}{y:β}{e':cj}{x:AExit}(U:dn c)(r:au c e0 i)(j:dn g)(W:Within c c1 fx mov)(l:dn c1)(u:Le c1 g)(z:Ju c.S fx=Za)
  (t:rU e i d) (o:au g e' d) (V:wx g.S c.S.length fx (λts=>ts.map (kX e')) (λy=>y.is x) b=O s) (h:ah3 e0 c.S fx mov e b s k=O y):qT c k y x d g.Z:=by
 obtain⟨p,L,M,N⟩:=EO V;obtain⟨A,X,Q,T⟩:=HP N;unfold ah3 at h;rw[Oo,L]at h;simp only[zG]at h;rw[XK.is_out M]at h;unfold En at h;rw[T]at h;cases n:pP id p.1.sk X.ls with
 |none=>rw[n]at h;cases h
 |some q=>
  obtain⟨vs,B,D⟩:=q;rw[n]at h;simp only[Bool.false_or]at h;cases m:vZ fx B (jy fx mov (CL vs B D) 0 c.S)with
  |none=>rw[m]at h;cases h
  |some S2=>
   rw[m]at h;obtain⟨E,F,I,C,J,K⟩:=ai4 U j W l u z A Q n (JM o _) m;refine⟨_,E,F,C,J,G8 (EM (r.frame C) t) K, ?_⟩;rw[I];exact h
theorem R4 {S:ai}:tV S (jy fx [] Za 0 S):=by
 refine⟨lQ,λk=> ?_⟩;by_cases b:k<S.length
 .rw[lP b];simp only[kw,zD,bD];cases kw k fx with
  |true=>exact .inl rfl
  |false=>exact .inr rfl
 .rw[vX (by rw[lQ];omega),vX (by omega)];exact .inl rfl
def aS6 (c:Ctx)(e0:cj)(e:cf)(fx mov b:List Nat)(ts:List Nat)(sk:uE)(t:Dq sk.shs)(h:cf)(Z:Hp):Prop:=
 ∃d g,d.Z=Z/\En e0 c.S fx mov b Za ts sk t=O (g,d.S)/\dn d/\au d g h/\Within c d fx mov/\rU b e h
theorem LI {e0 e1:cj}{S S1:ai}{mov b ts:List Nat}{t:Dq sk.shs}(h:En e0 S fx mov b Za ts sk t=O (e1,S1)): ∃vs d bs S',pP id sk (Ru sk.shs t)=O (vs,d,bs)/\vZ fx d (jy fx mov Za 0 S)=O S'/\e1=QU (qE e0 b) ts vs/\S1=S'++bs:=by
 unfold En at h;split at h
 .rename_i vs d bs j;simp only[Bool.true_or]at h;split at h
  .rename_i S' i;injection h with h
   injection h with e g
   exact⟨vs,d,bs,S',j,i,e.symm,g.symm⟩
  .cases h
 .cases h
theorem IP {b:List (AOper×List Nat)}: ∀{r:List LItem} {d:LItem} {t:Nat},d∈r->bB d.kind 2=Za->(az b d.i).dst=O t->t∈EU b r
 |a::r,d,t,h,e,g=>by
  simp only[EU];rcases List.mem_cons.1 h with rfl|h
  .rw[e,zC,g];exact aD
  .have:=IP h e g;cases bB a.kind 2 with
   |false=>exact this
   |true=>exact List.mem_append.2 (.inr this)
theorem bj {α γ:Type}(f:α->Option (α⊕γ))(n:Nat)(a:α):aq f (n+1) a=(f a).bind λs=>bc s (aq f n) O:=rfl
theorem Iu {f:(AExit->cf->Hp->Prop)->cf->Hp->Prop}(g: ∀(Q Q':AExit->cf->Hp->Prop),(∀x e Z,Q x e Z->Q' x e Z)->∀e Z,f Q e Z->f Q' e Z){Q:AExit->cf->Hp->Prop}:
  ∀(n m:Nat) (e:cf) (Z:Hp),n<=m->jd f Q n e Z->jd f Q m e Z
 |0,_,_,_,_,h=>h.elim
 |n+1,0,_,_,b,_=>absurd b (Nat.not_succ_le_zero _)
 |n+1,m+1,e,Z,b,h=>by
  simp only[jd]at h⊢;refine g _ _ (λx i Z' d=> ?_) e Z h;cases x with
  |normal=>exact Iu g n m i Z' (Nat.le_of_succ_le_succ b) d
  |exit id=>exact d
  |ret=>exact d
theorem GX {b:AC}(o: ∀(at':AT) {β:Type} {y:β} {c:Ctx} {e:cj} {d:cf} {k:AExit->cj->ai->Option β},dn c->au c e d->eval tab b at' β e c.S k=O y->wg (fD tab) b (qT c k y) d c.Z):
  ∀(at':AT) {β:Type} {y:β} {c:Ctx} {e:cj} {d:cf} {k:AExit->cj->ai->Option β},dn c->au c e d->K8 (eval tab b) at' β e c.S k=O y->jd (wg (fD tab) b) (qT c k y) at'.rounds d c.Z
 | .n l r,β,y,c,e,d,k,g,j,h=>by
  simp only[K8]at h;have D:=o l g j h;simp only[AT.rounds,jd];refine fB (bq tab) b _ _ (λx C Z' I=> ?_) d c.Z D;obtain⟨z,u,E,p,q,s,t⟩:=I;subst E;cases x with
  |normal=>exact zR (fB (bq tab) b) (λx A Z'' F=>pF.of p F) _ _ _ (GX o r q s t)
  |exit i=>exact⟨z,u,rfl,p,q,s,t⟩
  |ret=>exact⟨z,u,rfl,p,q,s,t⟩
 | .sz m l r,β,y,c,e,d,k,g,j,h=>by
  simp only[K8]at h;simp only[AT.rounds];cases B:bB m c.S.length with
  |true=>
   rw[B]at h;exact Iu (fB (bq tab) b) _ _ _ _ (Nat.le_add_right _ _) (GX o l g j h)
  |false=>
   rw[B]at h;exact Iu (fB (bq tab) b) _ _ _ _ (Nat.le_add_left _ _) (GX o r g j h)
 | .no,_,_,_,_,_,_,_,_,h=>by cases h
 | .lp _ _ _ _,_,_,_,_,_,_,_,_,h=>by cases h
 | .jn _ _ _ _ _,_,_,_,_,_,_,_,_,h=>by cases h
 | .dr _,_,_,_,_,_,_,_,_,h=>by cases h
 | .all,_,_,_,_,_,_,_,_,h=>by cases h
theorem Qt {b:AC}(r: ∀{β:Type} {y:β} {c:Ctx} {e:cj} {d:cf} {k:AExit->cj->ai->Option β},dn c->au c e d->eval tab b .all β e c.S k=O y->wg (fD tab) b (qT c k y) d c.Z):
  ∀(n:Nat) {β:Type} {y:β} {c:Ctx} {e:cj} {d:cf} {k:AExit->cj->ai->Option β},dn c->au c e d->XZ (eval tab b .all) n β e c.S k=O y->jd (wg (fD tab) b) (qT c k y) n d c.Z
 |0,_,_,_,_,_,_,_,_,h=>by cases h
 |n+1,β,y,c,e,d,k,z,A,h=>by
  have t:=r z A (show eval tab b .all β e c.S (λx g S'=>match x with
   | .normal=>XZ (eval tab b .all) n β g S' k
   |x=>k x g S')=O y from h)
  simp only[jd];refine fB (bq tab) b _ _ (λx s Z' C=> ?_) d c.Z t;obtain⟨g,p,u,j,l,m,o⟩:=C;subst u;cases x with
  |normal=>exact zR (fB (bq tab) b) (λx q Z'' B=>pF.of j B) _ _ _ (Qt r n l m o)
  |exit i=>exact⟨g,p,rfl,j,l,m,o⟩
  |ret=>exact⟨g,p,rfl,j,l,m,o⟩
theorem qh : ∀(ac:AC) (at':AT) {β:Type} {y:β} {c:Ctx} {e:cj} {o:cf} {k:AExit->cj->ai->Option β},dn c->au c e o->eval tab ac at' β e c.S k=O y->wg (fD tab) ac (qT c k y) o c.Z
 | .skip,_,_,_,c,e,o,k,g,d,h=>⟨e,c,rfl,Le.refl c,g,d,h⟩
 | .exit i,_,_,_,c,e,o,k,g,d,h=>⟨e,c,rfl,Le.refl c,g,d,h⟩
 | .ret,_,_,_,c,e,o,k,g,d,h=>⟨e,c,rfl,Le.refl c,g,d,h⟩
 | .region ops,_,_,_,c,e,o,k,g,d,h=>KP g d h
 | .sched its,_,_,_,c,e,o,k,g,d,h=>FX g d .nil h
 | .draw ops,at',_,y,c,e,o,k,g,d,h=>by
  simp only[eval]at h;split at h
  .rename_i L _;obtain⟨W,h⟩:=aw h;rw[aB]at W;refine KO g ops.length (pd:=λ_=>0) W.1 ⟨Le.refl c,g,EM d (rU.refl _ o), .nil,rfl,rfl,λb=>⟨.inl,λh=> ?_⟩,List.nodup_nil,(λ_ _ h=>by cases h),(λ_ h=>by cases h),(λ_ h=>by cases h),λit hit hk t X=> ?_,W.2⟩ h
   .rcases h with h|⟨_,h,_⟩
    .exact h
    .cases h
   .rcases @xC (EU ops (zL ops L L [])) e t with h1|⟨h1,_⟩
    .exact h1
    .exact(h1 (IP hit hk X)).elim
  .cases h
 | .seq a b,at',β,y,c,e,o,k,g,d,h=>by
  have T: ∀l r,(eval tab a l β e c.S λx D S'=>match x with
    | .normal=>eval tab b r β D S' k
    |x=>k x D S')=O y->wg (fD tab) (.seq a b) (qT c k y) o c.Z:=by
   intro l r h1;refine fB (bq tab) a _ _ (λx ea' Z' hx=> ?_) o c.Z (qh a l g d h1);obtain⟨D,U,h2,C,J,K,B⟩:=hx;subst h2;cases x with
   |normal=>exact fB (bq tab) b _ _ (λx ea'' Z'' hp=>pF.of C hp) _ _ (qh b r J K B)
   |exit i=>exact⟨D,U,rfl,C,J,K,B⟩
   |ret=>exact⟨D,U,rfl,C,J,K,B⟩
  simp only[eval]at h;split at h
  .rename_i fx F E l r _;obtain⟨W,h⟩:=aw h;rw[aB]at W;obtain⟨s,h1,h2⟩:=ah h;have hfz:tV c.S (jy (fx++F) [] Za 0 c.S):=R4;have hR1:dn ⟨c.μ,jy (fx++F) [] Za 0 c.S,c.Z,c.fb⟩:=hfz.rel g
   have hw:Within c ⟨c.μ,jy (fx++F) [] Za 0 c.S,c.Z,c.fb⟩ fx F:=by
    refine⟨hfz.le,λq hq hn hm=> ?_,λ_ _ _ _ _ _ _ _ hy=>hy⟩;show ae (jy (fx++F) [] Za 0 c.S) q=_;rw[lP hq];simp only[kw,zD,bD];rcases hm with hm|hz
    .rw[jz (by simp[hn,hm])];rfl
    .cases kw q (fx++F)with
     |true=>exact(A9 hz).symm
     |false=>rfl
   have C:=wd (bq tab) (as:=kt a) (e0:=o) a W.2 (λt X=>X) (rU.refl _ o) (qh a l (c:=⟨c.μ,jy (fx++F) [] Za 0 c.S,c.Z,c.fb⟩) hR1 (d.frame hfz.le) h1);refine fB (bq tab) a _ _ (λx ea' Z' hx=> ?_) o c.Z C;obtain⟨hk,D,U,J,K,B,h7,h8⟩:=hx;subst J;have V:=OP g d B hw hR1 K W.1 hk h7 h8 h2;cases x with
   |normal=>
    obtain⟨I,c2,g1,g2,g3,g4,g5⟩:=V;rw[<-g1];exact fB (bq tab) b _ _ (λx ea'' Z'' hp=>pF.of g2 hp) _ _ (qh b r g3 g4 g5)
   |exit i=>exact V
   |ret=>exact V
  .exact T _ _ h
  .exact T _ _ h
 | .cond t a b,at',β,y,c,e,o,k,g,d,h=>by
  simp only[eval]at h;split at h
  .rename_i p hp;have X:=bv d t;rw[hp]at X;have X:=X.bool_inv
   have key: ∀(e1 I:cj) (l r:AT),au c e1 o∨p=Zb->au c I o∨p=Za->cond p (eval tab a l β e1 c.S k) (eval tab b r β I c.S k)=O y->wg (fD tab) (.cond t a b) (qT c k y) o c.Z:=by
    intro e1 I l r h1 h2 C;simp only[wg,X];cases p with
    |true=>
     rcases h1 with h1|h1
     .exact qh a l g h1 C
     .cases h1
    |false=>
     rcases h2 with h2|h2
     .exact qh b r g h2 C
     .cases h2
   have pb: ∀(i:Nat),t= .tmp i->(au c (qj e i (.bool Za)) o∨p=Zb)/\(au c (qj e i (.bool Zb)) o∨p=Za):=by
    intro i hi;subst hi;have:=QT d hp;cases p with
    |true=>exact⟨.inl this, .inr rfl⟩
    |false=>exact⟨.inr rfl, .inl this⟩
   split at h
   .exact key _ _ _ _ (pb _ rfl).1 (pb _ rfl).2 h
   .exact key _ _ _ _ (pb _ rfl).1 (pb _ rfl).2 h
   .exact key _ _ _ _ (.inl d) (.inl d) h
   .exact key _ _ _ _ (.inl d) (.inl d) h
  .cases h
 | .block id b,at',β,y,c,e,o,k,g,d,h=>by
  simp only[eval]at h;refine fB (bq tab) b _ _ (λx ea' Z' hx=> ?_) o c.Z (qh b _ g d h);obtain⟨D,U,h2,C,J,K,B⟩:=hx;cases x with
  |normal=>exact⟨D,U,h2,C,J,K,B⟩
  |ret=>exact⟨D,U,h2,C,J,K,B⟩
  |exit i=>
   simp only at B⊢;cases hi:bB i id with
   |true=>
    rw[hi]at B;rw[zE (cK hi)];exact⟨D,U,h2,C,J,K,B⟩
   |false=>
    rw[hi]at B;rw[zF (λe=>by rw[e,Nat.beq_refl]at hi;cases hi)];exact⟨D,U,h2,C,J,K,B⟩
 | .loop b,at',β,y,c,e,o,k,g,d,h=>by
  simp only[eval]at h;split at h
  .rename_i fx head E l _;obtain⟨W,h⟩:=aw h;rw[aB,aB]at W;obtain⟨⟨g1,g2⟩,g3⟩:=W;split at h
   .rename_i st hd;obtain⟨t0,h1,h⟩:=ah h;obtain⟨s,h2,C⟩:=ah h
    have round: ∀(n:Nat) (t:Dq head.sk.shs) (M:cf) (Z1:Hp),aS6 c e o fx (oj st.m) (kt b) head.ts head.sk t M Z1->aq (λt=>match En e c.S fx (oj st.m) (kt b) Za head.ts head.sk t with
      |some (e1,S1)=>eval tab b l (Dq head.sk.shs⊕uG E) e1 S1 λx D S'=>(match x with
       | .normal=>(TJ S' c.S.length fx head.sk (head.ts.map (kX D))).bind λt=>O (.inl t)
       |x=>(wx S' c.S.length fx (λts=>ts.map (kX D)) (λy=>y.is x) E).bind λs=>O (.inr s))
      |none=>Y) n t=O s->jd (wg (fD tab) b) (qT c k y) n M Z1:=by
     intro n;induction n with
     |zero=>intro t M Z1 _ hl;cases hl
     |succ n ih=>
      intro t M Z1 hH hl;rw[bj]at hl;obtain⟨z,hl1,u⟩:=ah hl;obtain⟨c1,e1,q1,q2,q3,q4,q5,q6⟩:=hH;subst q1;rw[q2]at hl1;simp only at hl1;have J:=wd (bq tab) (as:=kt b) (e0:=o) b g3 (λt X=>X) q6 (qh b l q3 q4 hl1);simp only[jd];refine fB (bq tab) b _ _ (λx ea' Z' hx=> ?_) M c1.Z J;obtain⟨hk,D,U,K,B,h7,h8,V⟩:=hx;subst K;cases x with
      |normal=>
       simp only at V⊢;obtain⟨t',N,A⟩:=ah V;injection A with A
       subst A;simp only[bc]at u;refine ih t' ea' U.Z ?_ u;obtain⟨hro,st',h12,h13⟩:=Xu N
       have j: ∃I S2,En e c.S fx (oj st.m) (kt b) Za head.ts head.sk t'=O (I,S2):=by
        cases n with
        |zero=>cases u
        |succ n=>
         rw[bj]at u;obtain⟨z',Q,_⟩:=ah u;cases hz:En e c.S fx (oj st.m) (kt b) Za head.ts head.sk t' with
         |none=>rw[hz]at Q;cases Q
         |some q=>exact⟨q.1,q.2,rfl⟩
       obtain⟨I,S2,j⟩:=j;obtain⟨vs,fs,bs,S3,r1,r2,r3,r4⟩:=LI j;rw[h13]at r1;obtain⟨ct,u1,u2,u3,u4,u5,u6,u7,u8⟩:=at3 g h7 q5 q3 B g2 hro h12 r1 (JM h8 _) r2;refine⟨ct,I,u1,by rw[j,r4,u2],u6, ?_,ND u5 r2 u2 λq hq hn hm hdm b' y' hb hy=> ?_,hk⟩
       .rw[r3];exact G8 (EM (d.frame u5) hk) u7
       .refine(u8 q hq hn ?_).2 b' y' hb hy;obtain⟨v1,v2,v3,_⟩:=jH r2;rw[lQ]at v2;rw[u2,mL (by rw[v2];exact hq),v3 q hn,lP hq,bD,jz hn];rcases hm with hm|hz
        .rw[jz hm,zD,zD,zC,fK];exact hdm
        .rw[hz];cases kw q (oj st.m)with
         |true=>exact hdm
         |false=>rw[zD,zD,zC,fK];exact hdm
      |exit i=>
       simp only at V⊢;obtain⟨s',N,A⟩:=ah V;injection A with A
       subst A;simp only[bc]at u;injection u with u
       subst u;exact OP g d h7 q5 q3 B g2 hk h8 N C
      |ret=>
       simp only at V⊢;obtain⟨s',N,A⟩:=ah V;injection A with A
       subst A;simp only[bc]at u;injection u with u
       subst u;exact OP g d h7 q5 q3 B g2 hk h8 N C
    refine⟨cx,round cx t0 o c.Z ?_ h2⟩
    have j: ∃I S2,En e c.S fx (oj st.m) (kt b) Za head.ts head.sk t0=O (I,S2):=by
     have hb:cx=(cx-1)+1:=rfl;rw[hb,bj]at h2;obtain⟨z',Q,_⟩:=ah h2;cases hz:En e c.S fx (oj st.m) (kt b) Za head.ts head.sk t0 with
     |none=>rw[hz]at Q;cases Q
     |some q=>exact⟨q.1,q.2,rfl⟩
    obtain⟨I,S2,j⟩:=j;obtain⟨vs,fs,bs,S3,r1,r2,r3,r4⟩:=LI j;rw[E2 h1]at r1;obtain⟨ct,u1,u2,u3,u4,u5,u6,u7⟩:=Vv g g2 g1 hd r1 (JM d _) r2;refine⟨ct,I,u1,by rw[j,r4,u2],u6, ?_,ND u5 r2 u2 λq hq hn hm hdm b' y' hb hy=>by rw[u1];exact hy,rU.refl _ _⟩;rw[r3];exact G8 (EM (d.frame u5) (rU.refl _ _)) u7
   .cases h
  .exact⟨_,Qt (λg d h=>qh b .all g d h) _ g d h⟩
  .exact⟨_,GX (λat'' {β y c e o k} g d h=>qh b at'' g d h) at' g d h⟩
end
end
section
open Nat renaming le_of_ble_eq_true -> aB, zero_add -> aD
theorem JN {c:Ctx}{e:cj}{A:cf}(C:dn c)(s:au c e A): ∀{L:List ARes} {vs:List VV},He e c.S L=O vs->∃x,If A c.Z L=O x/\F2 (VRel c) vs x
 |[],vs,h=>by injection h with h;subst h;exact⟨[],rfl, .nil⟩
 |r::L,vs,h=>by
  simp only[He]at h;obtain⟨v,d,h⟩:=ah h;obtain⟨W,Q,h⟩:=ah h;injection h with h
  subst h;obtain⟨x,T,U⟩:=JN C s Q
  have K: ∃u,Lq A c.Z r=O u/\VRel c v u:=by
   cases r with
   |tmp t=>
    simp only[an6]at d;injection d with d
    subst d;exact⟨_,rfl,s t⟩
   |cell t=>
    simp only[an6]at d;split at d
    .rename_i b o J;split at d
     .rename_i B z l k;have p:=s t;rw[J]at p;cases p with
      |ptr V _ F=>
       have g:(ae c.S b).dim=O (B,l.length):=by rw[k];rfl
       obtain⟨N,I,D⟩:=F _ g;have m:=C.stands g I;rw[k]at m;obtain⟨y,a,j,i,q⟩:=m.get d;refine⟨a, ?_,q⟩;rw[aD]at i;simp only[Lq,D,j,zG,i]
     .cases d
    .cases d
   |cellN t n=>
    simp only[an6]at d;split at d
    .rename_i b o J;split at d
     .rename_i B z l k;cases E:Nat.ble (o+n) l.length with
      |false=>rw[E]at d;cases d
      |true=>
       rw[E]at d;injection d with d
       subst d;have p:=s t;rw[J]at p;cases p with
       |ptr V _ F=>
        have g:(ae c.S b).dim=O (B,l.length):=by rw[k];rfl
        obtain⟨N,I,D⟩:=F _ g;have m:=C.stands g I;rw[k]at m;obtain⟨y,M,j,i,q⟩:=m.read (aB E);rw[aD]at i;refine⟨.agg M.toArray, ?_, .agg (by simp only[Blk.vals]at q;simpa using q)⟩;simp only[Lq,D,j,zG,i,Option.map_some]
     .cases d
    .cases d
  obtain⟨u,j,i⟩:=K;exact⟨u::x,by simp only[If,j,T], .cons i U⟩
theorem Pu {e:List Value}(h:F2 (VRel c) vs e):VRel c (Rz vs) (zQ e):=by
 cases h with
 |nil=>exact .tup .nil
 |cons d b=>
  cases b with
  |nil=>exact d
  |cons b g=>exact .tup (by simpa using F2.cons d (F2.cons b g))
theorem Kn {as:List Value}(h:F2 (VRel c) vs as):au c vs (cf.of as):=by
 intro t
 have e: ∀(l:List VV) (i:Nat),kX l i=(l[i]?).getD .undef:=by
  intro l;induction l with
  |nil=>intro i;simp[kX]
  |cons a l j=>intro i;cases i with
   |zero=>simp[kX]
   |succ i=>simp[kX,j]
 rw[e];unfold cf.of;cases g:vs[t]? with
 |none=>exact .undef _
 |some v=>
  obtain⟨a,b,d⟩:=h.get t v g;rw[b];exact d
theorem Ku : ∀{n q:Nat},q<n->q∈Kt n
 |n+1,q,h=>by
  by_cases e:q=n
  .subst e;exact List.mem_cons_self
  .exact List.mem_cons_of_mem _ (Ku (by omega))
theorem YG {P:Program}{tab:Tab}{run:Dq (uE.shs ⟨vals,[],objs⟩)->Option (uG outs)}(ht:ei P tab.fs)(hi:aa P tab.is)
  (he: ∀t o,run t=O o->HV P f tab vals objs outs at' t=O o):dp P ⟨f,vals,objs,outs,run⟩:=by
 intro B μ Z w h cargs K hs N ha;obtain⟨c,X,D,t,o,p,v,fs,bs,S',h1,hR,hf,b,hl,j,A,C,hp,e,hS,hK⟩:=hs;subst h1;have d:=he t o C;unfold HV at d;split at d
 .rename_i q vs fs0 S0 V s;obtain⟨hg,d⟩:=aw d;refine TL V (bq tab) (Ew ht hi) B μ c.Z w h cargs K ?_ N ha;have U:Ru (uE.shs ⟨vals,[],objs⟩) t=D.ls:=E2 hl;rw[U]at s;obtain⟨M,u⟩:=enter hR rfl b s hf;have y:h.length<=q.ntmps:=by rw[<-u.length];exact aB hg
  refine⟨y, ?_⟩;obtain⟨l1,l2⟩:=M.len;have l:=qh q.body at' (c:=lD c D S0) M.rel (Kn u) d;refine fB (bq tab) q.body _ _ (λx ea Z' hx=> ?_) _ _ l;obtain⟨e',E,h2,h3,h4,h5,J⟩:=hx;subst h2
  have r:(match He e' E.S q.results with
    |some rs=>wx E.S S0.length (tO objs 0) (λ_=>[Rz rs]) (λ_=>Za) outs
    |none=>Y)=O o->(match If ea E.Z q.results with
    |some vs=>K (zQ vs) E.Z
    |none=>False):=by
   intro L;split at L
   .rename_i rs T;obtain⟨us,h8,h9⟩:=JN h4 h5 T;rw[h8];simp only;obtain⟨p',F,_,q3⟩:=EO L;simp only at hp;rw[hp]at F;injection F with F
    subst F;obtain⟨Q,st',q4,q5⟩:=HP q3;obtain⟨I,_⟩:=pO b;have z:=pM I;rw[List.nil_append]at z;simp only at e hS j A;rw[q5]at e
    have n: ∀(i:Nat) (o:OSk) (x:Src),objs[i]?=O o->o.ro=Za->D.m[i]?=O (O x)->x.k∈D.lent:=by
     intro i o x g1 g2 g3;unfold mH at b;obtain⟨st1,d1,b⟩:=ah b;obtain⟨st2,d2,b⟩:=ah b;obtain⟨g,d3,b⟩:=ah b
     have:g=D:=by
      cases hb:(FE ([]++oj g.m)&&Ca ([]++jI (FSum.ins ⟨f,vals,objs,outs,run⟩).free g.m) g.lent)with
      |false=>rw[hb]at b;cases b
      |true=>rw[hb]at b;injection b
     subst this;exact Pf d3 i o x g1 g2 (by rw[aD];exact g3)
    obtain⟨ct,r1,r2,r3,r4,W,r6⟩:=Lr hR rfl M h3 h4 j A z n Q (by rw[<-l1];exact q4) e (.cons (Pu h9) .nil) hS;cases W with
    |cons W _=>exact hK _ _ ⟨ct,r1,r2,r3,r4,W,r6⟩
   .cases L
  cases x with
  |exit i=>cases J
  |normal=>exact r J
  |ret=>exact r J
 .cases d
theorem Nq {P:Program}{b:List Inl}{run:Dq (uE.shs ⟨vals,[],objs⟩)->Option (uG outs)}(g:ei P tab)(e:aa P b)
  (d: ∀t,HV P f ⟨tab,b⟩ vals objs outs at' t=run t):dp P ⟨f,vals,objs,outs,run⟩:=YG (tab:=⟨tab,b⟩) g e λt o h=>(d t).trans h
theorem YF {P:Program}{run:Dq (uE.shs ⟨vals,[],objs⟩)->Option (uG outs)}(d:ei P tab)
  (b: ∀t,HV P f ⟨tab,[]⟩ vals objs outs at' t=run t):dp P ⟨f,vals,objs,outs,run⟩:=Nq d (aa.nil P) b
theorem ap {P:Program}{d:List Inl}(ht:ei P tab)(U:aa P d):RW P ⟨f,bi P f ⟨tab,d⟩ at'⟩:=by
 intro B μ Z w e cargs K X p Q;obtain⟨β,y,c,vals,k,D,N,z,b,M⟩:=X;subst D;simp only[bi]at b;split at b
 .rename_i h s;obtain⟨T,b⟩:=aw b;refine TL s (bq ⟨tab,d⟩) (Ew (tab:=⟨tab,d⟩) ht U) B μ c.Z w e cargs K ?_ p Q;have m:e.length<=h.ntmps:=by rw[<-z.length];exact aB T
  refine⟨m, ?_⟩;have g:=qh h.body at' (c:=c) N (Kn z) b;refine fB (bq ⟨tab,d⟩) h.body _ _ (λx C Z' hx=> ?_) _ _ g;obtain⟨A,j,E,F,u,I,n⟩:=hx;subst E
  have l:(match He A j.S h.results with
    |some t=>k (Rz t) j.S
    |none=>Y)=O y->(match If C j.Z h.results with
    |some vs=>K (zQ vs) j.Z
    |none=>False):=by
   intro o;split at o
   .rename_i t r;obtain⟨us,J,L⟩:=JN u I r;rw[J];exact M _ _ ⟨Rz t,j,rfl,F,u,λq W V=>(V (Ku W)).elim,Pu L,o⟩
   .cases o
  cases x with
  |exit i=>cases n
  |normal=>exact l n
  |ret=>exact l n
 .cases b
def F0 :List Alt:=[⟨.ret,[],⟨[.leaf .bool],[],[]⟩⟩]
def uK (Z:Hp):Ctx:=⟨λ_=>Y,[],Z,λ_=>False⟩
theorem SA {Z:Hp}(h:Z.Ok):dn (uK Z):=
 ⟨h,λk j b i _ _ _=>(by cases i),λk d e=>(by cases e),λk b e=>(e rfl).elim,λb g=>g.elim⟩
theorem FZ {Z:Hp}(b:Nat): ¬(uK Z).mut b:=by
 rintro(⟨k,h,_⟩|h)
 .cases h
 .exact h
theorem XO {P:Program}{run:Dq (uE.shs ⟨vals,[],[]⟩)->Option (uG F0)}(h:dp P ⟨f,vals,[],F0,run⟩)(u:PP P w){g:List Value}{st:DSt}{t:Dq (uE.shs ⟨vals,[],[]⟩)}
  (l: ∀r∈rows,∀(i:Nat) (v:Value),r.cells[i]?=O v->∃v',w.cell? ⟨r.c,r.o+i,Y⟩=O v'/\VR (mJ rows) v v') (k:F2 (VR (mJ rows)) g cargs.toList)
  (z:F2 (VRel (uK (lT w.heap.size rows))) vs g) (b:mH [] 0 [] ⟨vals,[],[]⟩ vs=O st) (x:PB _ st.ls=O t) (y:run t=O Za):
  Calls P f cargs w λe w'=>e= .returned (.bool Za)/\Go.RowKit.Below w.heap.size w w':=by
 have q:st.m=[]:=by
  unfold mH at b;obtain⟨A,C,b⟩:=ah b;obtain⟨s,D,b⟩:=ah b;obtain⟨d,j,b⟩:=ah b
  have:d=st:=by
   cases n:(FE ([]++oj d.m)&&Ca ([]++jI ([]:List OSk) d.m) d.lent)with
   |false=>rw[n]at b;cases b
   |true=>rw[n]at b;injection b
  subst this;simp only[tJ]at j;cases n:Nat.beq 0 s.m.length with
  |false=>rw[n]at j;cases j
  |true=>
   rw[n]at j;injection j with j
   subst j;exact List.length_eq_zero_iff.1 (Nat.eq_of_beq_eq_true n).symm
 refine aB6 (S:=(FSum.mk f vals [] F0 run).spec) h u l k ?_;refine⟨uK (lT w.heap.size rows),vs,st,t,Za,⟨⟨.ret,[],⟨[.leaf .bool],[],[]⟩⟩,Za⟩, .bool Za,[],[],cond (CL [.bool Za] [] []) (CP st.lent []) [],rfl,SA ao0,z,b,x,by rw[q];rfl,by rw[q];rfl,y,rfl,rfl,by rw[q];rfl, ?_⟩;rintro r Z' ⟨B,_,_,_,_,p,_⟩;exact p.bool_inv
end
section
theorem VW {α γ:Type}{f:α->Option (α⊕γ)}(I:α->Prop)(m:α->Nat)(Q:γ->Prop)(h: ∀a,I a->(∃b,f a=O (.inl b)/\I b/\m b<m a)∨∃c,f a=O (.inr c)/\Q c): ∀(n:Nat) (a:α),I a->m a<n->∃c,aq f n a=O c/\Q c:=by
 intro n;induction n with
 |zero=>intro a _ d;omega
 |succ n k=>
  intro a j o;rcases h a j with⟨b,d,e,l⟩|⟨c,d,e⟩
  .obtain⟨c,g,i⟩:=k b e (by omega);exact⟨c,by rw[bj,d];exact g,i⟩
  .exact⟨c,by rw[bj,d];rfl,e⟩
theorem re {α γ:Type}{f:α->Option (α⊕γ)}{a:α}(I:α->Prop)(m:α->Nat)(Q:γ->Prop)(d:I a)(e:m a<18446744073709551616)(h: ∀a,I a->(∃b,f a=O (.inl b)/\I b/\m b<m a)∨∃c,f a=O (.inr c)/\Q c): ∃c,aq f cx a=O c/\Q c:=
 VW I m Q h cx a d e
theorem OW {α γ:Type}{f:α->Option (α⊕γ)}{a:α}{c:γ}(I:α->Prop)(m:α->Nat)(d:I a)(j:m a<18446744073709551616)(h: ∀a,I a->(∃b,f a=O (.inl b)/\I b/\m b<m a)∨f a=O (.inr c)):aq f cx a=O c:=by
 obtain⟨k,e,g⟩:=re I m (· =c) d j λa i=>by
  rcases h a i with h|h
  .exact .inl h
  .exact .inr ⟨c,h,rfl⟩
 rw[e,g]
theorem ag {α:Type}{p:Prop}[Decidable p]{x y:α}:cond (decide p) x y=if p then x else y:=by by_cases h:p<;>simp[h]
theorem bz {β:Type}{x:Option β}:gd Za x=x:=rfl
theorem aA7 {β:Type}{p:Prop}[Decidable p]{x:Option β}(h:p):gd (decide p) x=x:=by rw[zB h];rfl
theorem bt {β:Type}{n b:Nat}{x:Option β}(h:n*b<=140737488355328)(d:1<=b):gd (fV n b) x=x:=by
 have:fV n b=Za:=by
  unfold fV;rw[zB h,Bool.true_and];exact Nat.ble_eq_true_of_le d
 rw[this];rfl
theorem cn {α:Type}{l:List α}{i:Nat}(h:i<l.length):rd l (i:Int)=O l[i]:=by
 unfold rd;rw[Zf,zC,Int.toNat_natCast,List.getElem?_eq_getElem h]
theorem ad {n:Int}(h: -9223372036854775808<=n/\n<=9223372036854775807):IntKind.i64.wrap n=n:=IntWalk.i64_in _ h
theorem Zi {n:Int}(h: -9223372036854775808<=n/\n<=9223372036854775807:=by omega):IntKind.i64.wrap n=n:=ad h
theorem gH {α γ β:Type}{a:α}{f:α->Option β}{g:γ->Option β}:bc (.inl a) f g=f a:=rfl
theorem cb {α γ β:Type}{a:γ}{f:α->Option β}{g:γ->Option β}:bc (.inr a) f g=g a:=rfl
theorem Iy.lst {k:IntKind}{a:Option Addr}{b d:Nat}{e:Zd}{j:Nat}(h:Iy k w a b d e)(t:rows[j]?=O (Hf k a d e)):
  VRel (uK (lT w.heap.size rows)) (.lst (.int k) (e.take b)) (YH j a b d):=by
 rcases h with⟨rfl,rfl,rfl,rfl⟩|⟨x,rfl,s,q,g,p,y⟩
 .exact .lstn λz g=>by cases g
 .by_cases r:d=0
  .have:b=0:=by omega
   subst r;subst this;have:e.take 0=([]:Zd):=rfl;rw[this];exact .lstn λz g=>by injection g with g;rw[<-g]
  .have i:0<e.length:=by omega
   have o:x.block<w.heap.size:=Ov (x:=⟨x.block,x.off+0,Y⟩) (yx (E9 (p 0 i)) (p 0 i))
   have q:(lT w.heap.size rows).m j=O ⟨e.map (Value.int k),Zb,1⟩:=by
    simp only[lT,t,zG,Hf,zE o]
   refine .lst (FZ j) q rfl (by rw[List.length_take];omega) s ?_ ?_
   .simp only[List.length_map,Nat.zero_add];show b*1<=e.length;omega
   .rw[List.drop_zero];show F2 _ _ ((e.map (Value.int k)).take (b*1));rw[Nat.mul_one,<-List.map_take];generalize e.take b=l;induction l with
    |nil=>exact .nil
    |cons n l u=>exact .cons (.int _ _) u
end
section
def D6 (a:AFn)(tab:Tab)(vals:List Sk)(objs:List OSk)(outs:List Alt)(at':AT)(t:Dq (uE.shs ⟨vals,[],objs⟩)):Option (uG outs):=
 match pP id ⟨vals,[],objs⟩ (Ru _ t)with
 |some (vs,_,S)=>gd (Nat.ble vs.length a.ntmps) (eval tab a.body at' (uG outs) vs S λx e S'=>match x with
  | .exit _=>Y
  |_=>(match He e S' a.results with
   |some b=>wx S' S.length (tO objs 0) (λ_=>[Rz b]) (λ_=>Za) outs
   |none=>Y))
 |_=>Y
theorem ME {P:Program}{u:AFn}{tab:Tab}{run:Dq (uE.shs ⟨vals,[],objs⟩)->Option (uG outs)}(ht:ei P tab.fs)(hi:aa P tab.is)(htr:Rx P f=O u)(D: ∀t:Dq (uE.shs ⟨vals,[],objs⟩),∃r,pP id ⟨vals,[],objs⟩ (Ru _ t)=O r)
  (he: ∀t o vs fs S,run t=O o->pP id ⟨vals,[],objs⟩ (Ru _ t)=O (vs,fs,S)->∀(c:Ctx) d,F2 (VRel c) vs d->
   ∃b,D6 ⟨u.ntmps,u.results,b⟩ tab vals objs outs at' t=O o/\∀T (_:rV T) Q Z,wg T b Q (cf.of d) Z->wg T u.body Q (cf.of d) Z):dp P ⟨f,vals,objs,outs,run⟩:=by
 intro B μ Z w d cargs K hs hR0 ha;obtain⟨c,vals',M,t,o,p,v,fs,bs,S',h1,hR,hf,e,hl,n,J,L,hp,g,hS,hK⟩:=hs;subst h1;have htl:Ru (uE.shs ⟨vals,[],objs⟩) t=M.ls:=E2 hl;cases j:pP id ⟨vals,[],objs⟩ (Ru (uE.shs ⟨vals,[],objs⟩) t)with
 |none=>
  obtain⟨r,q⟩:=D t;rw[j]at q;cases q
 |some tr=>
 obtain⟨vs,W,S0⟩:=tr;refine TL htr (bq tab) (Ew ht hi) B μ c.Z w d cargs K ?_ hR0 ha;have s:=j;rw[htl]at j;obtain⟨hE,z⟩:=enter hR rfl e j hf;obtain⟨bd,h,E⟩:=he t o vs W S0 L s _ _ z;unfold D6 at h;rw[s]at h;obtain⟨hg,h⟩:=aw h;have F:d.length<=u.ntmps:=by rw[<-z.length];exact Nat.le_of_ble_eq_true hg
 refine⟨F,E _ (bq tab) _ _ ?_⟩;obtain⟨l1,l2⟩:=hE.len;have y:=qh bd at' (c:=lD c M S0) hE.rel (Kn z) h;refine fB (bq tab) bd _ _ (λx ea Z' hx=> ?_) _ _ y;obtain⟨e',N,h2,h3,h4,h5,X⟩:=hx;subst h2
 have C:(match He e' N.S u.results with
   |some rs=>wx N.S S0.length (tO objs 0) (λ_=>[Rz rs]) (λ_=>Za) outs
   |none=>Y)=O o->(match If ea N.Z u.results with
   |some vs=>K (zQ vs) N.Z
   |none=>False):=by
  intro h7;split at h7
  .rename_i rs hrs;obtain⟨us,h8,h9⟩:=JN h4 h5 hrs;rw[h8];simp only;obtain⟨p',U,_,q3⟩:=EO h7;simp only at hp;rw[hp]at U;injection U with U
   subst U;obtain⟨hro,st',q4,q5⟩:=HP q3;obtain⟨V,_⟩:=pO e;have I:=pM V;rw[List.nil_append]at I;simp only at g hS n J;rw[q5]at g
   have A: ∀(i:Nat) (o:OSk) (x:Src),objs[i]?=O o->o.ro=Za->M.m[i]?=O (O x)->x.k∈M.lent:=by
    intro i o x g1 g2 g3;unfold mH at e;obtain⟨st1,d1,e⟩:=ah e;obtain⟨st2,d2,e⟩:=ah e;obtain⟨l,d3,e⟩:=ah e
    have:l=M:=by
     cases hb:(FE ([]++oj l.m)&&Ca ([]++jI (FSum.ins ⟨f,vals,objs,outs,run⟩).free l.m) l.lent)with
     |false=>rw[hb]at e;cases e
     |true=>rw[hb]at e;injection e
    subst this;exact Pf d3 i o x g1 g2 (by rw[Nat.zero_add];exact g3)
   obtain⟨ct,r1,r2,r3,r4,r5,r6⟩:=Lr hR rfl hE h3 h4 n J I A hro (by rw[<-l1];exact q4) g (.cons (Pu h9) .nil) hS;cases r5 with
   |cons r5 _=>exact hK _ _ ⟨ct,r1,r2,r3,r4,r5,r6⟩
  .cases h7
 cases x with
 |exit i=>cases X
 |normal=>exact C X
 |ret=>exact C X
def Sm (es bytes:Nat)(z:List Value)(c:AOp)(n:AOp):AC:=
 .seq (.region [⟨O 2, .move (.const (.slice Y 0 0)),Y⟩]) (.seq (.seq (.region [⟨O 3, .move (.tmp 0),Y⟩,⟨O 4,c,Y⟩]) (.cond (.tmp 4) (.seq (.region [⟨O 2,n,Y⟩]) .ret) .skip))
  (.seq (.region [⟨O 5, .buildSlice es 0 z [],Y⟩,⟨O 6, .move (.tmp 0),Y⟩,⟨O 7, .append es bytes (.tmp 5) (.tmp 6),Y⟩,⟨O 2, .move (.tmp 7),Y⟩]) .ret))
def OA (es bytes:Nat)(z:List Value):AFn:=⟨8,[.tmp 2],Sm es bytes z (.eqv 2 Zb (.tmp 3) (.const (.slice Y 0 0))) (.move (.const (.slice Y 0 0)))⟩
def ae5 (es bytes:Nat)(z:List Value):AFn:=⟨8,[.tmp 2],Sm es bytes z (.move (.const (.bool Zb))) (.move (.const (.slice Y 0 0)))⟩
def Xm (es bytes:Nat)(z:List Value):AFn:=⟨8,[.tmp 2],Sm es bytes z (.move (.const (.bool Za))) (.append es bytes (.const (.slice Y 0 0)) (.tmp 0))⟩
def yy (s:Sh):List Alt:=[⟨.ret,[],⟨[.full 0],[],[.arr Zb s]⟩⟩]
theorem D0 {P:Program}{es bytes:Nat}{z:List Value}{s:Sh}(k:Rx P f=O (OA es bytes z))
  (r: ∀t:Dq (uE.shs ⟨[.leaf (.list s)],[],[]⟩),pP id ⟨[.leaf (.list s)],[],[]⟩ (Ru _ t)=O ([.lst s t],[],[]))
  (u: ∀l:List (El s),D6 (ae5 es bytes z) ⟨[],[]⟩ [.leaf (.list s)] [] (yy s) .no l=gd (fV (0+l.length) bytes) (O l))
  (x:D6 (Xm es bytes z) ⟨[],[]⟩ [.leaf (.list s)] [] (yy s) .no ([]:List (El s))=gd (fV (0+0) bytes) (O ([]:List (El s)))):
  dp P ⟨f,[.leaf (.list s)],[],yy s,λl:List (El s)=>gd (fV (0+l.length) bytes) (O l)⟩:=by
 refine ME (at':= .no) (tab:=⟨[],[]⟩) (ei.nil P) (aa.nil P) k (λt=>⟨_,r t⟩) λt o vs C S g e c d j=> ?_
 have m:vs=[.lst s t]:=by
  rw[r t]at e;injection e with e
  injection e with e
  exact e.symm
 subst m;cases j with
 |cons j B=>
 cases B
 have no: ∀q n i (d:List Value),d=[.slice (O q) n i]->∃b,D6 ⟨(OA es bytes z).ntmps,(OA es bytes z).results,b⟩ ⟨[],[]⟩ [.leaf (.list s)] [] (yy s) .no t=O o/\
   ∀T (_:rV T) Q Z,wg T b Q (cf.of d) Z->wg T (OA es bytes z).body Q (cf.of d) Z:=by
  rintro q n i d rfl;exact⟨_,(u t).trans g,λT _ Q Z h=>h⟩
 cases j with
 | @lst s l b p n i y A D E F I J K=>exact no _ _ _ _ rfl
 | @lstn s q A=>
  cases q with
  |some q=>exact no _ _ _ _ rfl
  |none=>exact⟨_,x.trans g,λT _ Q Z h=>h⟩
theorem Lw {P:Program}{run:Dq (uE.shs ⟨vals,[],objs⟩)->Option (uG outs)}(h: ∀t,run t=Y):dp P ⟨f,vals,objs,outs,run⟩:=by
 intro B μ Z w e cargs K j;obtain⟨c,d,u,t,o,p,v,l,k,S',m,n,r,q,s,g,i,b,_⟩:=j;have b:run t=O o:=b;rw[h t]at b;cases b
end
open Go.Ab Go.ChangeShapes Go.WideShapes
section
theorem VT {P:Program}{run:Dq (uE.shs ⟨vals,[],[]⟩)->Option (uG F0)}(h:dp P ⟨f,vals,[],F0,run⟩)(l:PP P w){b:List Value}(t:Dq (uE.shs ⟨vals,[],[]⟩))
  (g: ∀r∈rows,∀(i:Nat) (v:Value),r.cells[i]?=O v->∃v',w.cell? ⟨r.c,r.o+i,Y⟩=O v'/\VR (mJ rows) v v') (d:F2 (VR (mJ rows)) b cargs.toList)
  (p:F2 (VRel (uK (lT w.heap.size rows))) vs b) (m:((mH [] 0 [] ⟨vals,[],[]⟩ vs).bind λst=>PB _ st.ls)=O t) (n:run t=O Za):
  Calls P f cargs w λe w'=>e= .returned (.bool Za)/\Go.RowKit.Below w.heap.size w w':=by
 obtain⟨st,j,k⟩:=ah m;exact XO h l g d p j k n
end
section
open Int renaming tmod -> aB, tmod_lt_of_pos -> aD
theorem F1 {α δ:Type}{f:α->Option (α⊕δ)}{n:Nat}(F:Nat->α){c:δ}(o:n<9223372036854775808)(j: ∀i,i<n->f (F i)=O (.inl (F (i+1))))(h:f (F n)=O (.inr c)):aq f cx (F 0)=O c:=by
 have b: ∀k i m,i+k=n->k<m->aq f m (F i)=O c:=by
  intro k;induction k with
  |zero=>
   intro i m e g;obtain⟨m,rfl⟩: ∃d,m=d+1:=⟨m-1,by omega⟩
   have:i=n:=by omega
   subst this;show(f (F i)).bind _=_;rw[h];rfl
  |succ k l=>
   intro i m e g;obtain⟨m,rfl⟩: ∃d,m=d+1:=⟨m-1,by omega⟩
   show(f (F i)).bind _=_;rw[j i (by omega)];exact l (i+1) m (by omega) (by omega)
 exact b n 0 cx (by omega) (by unfold cx;omega)
theorem fP {γ δ:Type}{f:(Int×γ)->Option ((Int×γ)⊕δ)}{n:Nat}(F:Nat->γ){c:δ}(d:n<9223372036854775808)(e: ∀i,i<n->f ((i:Int),F i)=O (.inl (((i+1:Nat):Int),F (i+1))))(b:f ((n:Int),F n)=O (.inr c)):aq f cx (0,F 0)=O c:=
 F1 (λi=>((i:Int),F i)) d e b
theorem sq {δ:Type}{f:Int->Option (Int⊕δ)}{n:Nat}{c:δ}(d:n<9223372036854775808)(e: ∀i:Nat,i<n->f (i:Int)=O (.inl ((i+1:Nat):Int)))(b:f (n:Int)=O (.inr c)):aq f cx 0=O c:=
 F1 (λi=>(i:Int)) d e b
theorem H7 {α γ δ:Type}{f:(Int×γ)->Option ((Int×γ)⊕δ)}{l:List α}(g:γ->α->γ)(s:γ){c:γ->δ}(j:l.length<9223372036854775807)
  (e: ∀(i:Nat) (h:i<l.length) s,f ((i:Int),s)=O (.inl (((i+1:Nat):Int),g s l[i]))) (d: ∀s,f ((l.length:Int),s)=O (.inr (c s))):aq f cx (0,s)=O (c (l.foldl g s)):=by
 have h:=fP (f:=f) (n:=l.length) (λi=>(l.take i).foldl g s) (c:=c (l.foldl g s)) (by omega) ?_ ?_
 .exact h
 .intro i b;rw[e i b,List.take_succ_eq_append_getElem b,List.foldl_append];rfl
 .rw[d,List.take_length]
theorem UJ (n:Int):IntKind.u64.wrap n=n % 18446744073709551616:=by rfl
theorem xP {n:Nat}(h:n<9223372036854775808):IntKind.u64.wrap (n:Int)=n:=by
 rw[UJ];omega
theorem cd {n:Int}(h:0<=n/\n<18446744073709551616):IntKind.u64.wrap n=n:=by
 rw[UJ];omega
theorem Zj {n:Int}(h:0<=n/\n<18446744073709551616:=by omega):IntKind.u64.wrap n=n:=cd h
theorem qk {l:Zd}{i:Nat}(h:i<l.length):rd l (i:Int)=O (l.getD i 0):=by
 rw[cn h,List.getD_eq_getElem?_getD,List.getElem?_eq_getElem h];rfl
theorem bp {k n:Nat}(h:k<n):ix (k:Int) n=O k:=by
 unfold ix;rw[zB (show(0:Int)<=k by omega),zB (show(k:Int)<n by omega)];rfl
theorem eo {b:Int}{n:Nat}(h:0<=a/\a<=b/\b<=n):ej a b n=Za:=by
 unfold ej;rw[zB h.1,zB h.2.1,zB h.2.2];rfl
theorem Zk {b:Int}{n:Nat}(h:0<=a/\a<=b/\b<=n:=by omega):ej a b n=Za:=eo h
theorem UF {b:Int}(h:0<=a):Int.tdiv a b=a / b:=Int.tdiv_eq_ediv_of_nonneg h
theorem spot {L:Nat}(d:0<L)(j:L<=1000000)(l: -9223372036854775808<=a/\a<=9223372036854775807): ∃k:Nat,k<L/\aB (IntKind.i64.wrap (aB a (L:Int)+(L:Int))) (L:Int)=(k:Int):=by
 have b:(0:Int)<(L:Int):=by omega
 have e:=aD a b;have g:=Int.lt_tmod_of_pos a b;rw[Zi];have h:=Int.tmod_nonneg (L:Int) (show 0<=aB a (L:Int)+(L:Int)by omega);have i:=aD (aB a (L:Int)+(L:Int)) b;exact⟨(aB (aB a (L:Int)+(L:Int)) (L:Int)).toNat,by omega,by omega⟩
end
section
open List renaming append_nil -> aD, append_assoc -> bB, getElem?_eq_getElem -> bD, getElem?_append_left -> cD, length_append -> cK, drop_zero -> cL, getElem?_append_right -> cM, length_cons -> cR, length_take -> cS, take_of_length_le -> cT
open Nat renaming beq -> aB, eq_of_beq_eq_true -> cB, le_refl -> cN, not_lt_zero -> cO, zero_add -> cP, zero_mul -> cQ, eq_zero_or_pos -> cU
open Option renaming map_some -> cV
def gZ (w:World):(s:Sh)->List Value->El s->Prop
 | .int k,d,n=>d=[.int k n]/\(Lit.int k n).wf=Za
 | .bool,d,b=>d=[.bool b]
 | .str,d,l=> ∃s:ByteArray,d=[.string s]/\cu s=l/\s.size<=maxLen
 | .list s,d,l=>(d=[.slice Y 0 0]/\l=[])∨∃(a:Addr) (g e:Nat) (h:List (El s)),d=[.slice (O a) g e]/\g<=e/\e<=maxLen/\h.length=e/\l=h.take g/\
   ∀i y,h[i]?=O y->∃p,(∀j z,p[j]?=O z->w.cell? (a.add (i*s.w+j))=O z)/\gZ w s p y
 | .pair a b,d,x=> ∃m o,d=m++o/\gZ w a m x.1/\gZ w b o x.2
theorem gZ.len : ∀{s:Sh} {cs:List Value} {x:El s},gZ w s cs x->cs.length=s.w
 | .int k,_,_,⟨h,_⟩=>by subst h;rfl
 | .bool,_,_,h=>by
  have h:_=[Value.bool _]:=h;subst h;rfl
 | .str,_,_,⟨s,h,_⟩=>by subst h;rfl
 | .list s,_,_,h=>by
  rcases h with⟨h,_⟩|⟨a,len,d,l,h,_⟩<;>subst h<;>rfl
 | .pair a b,_,_,⟨i,j,h,e,g⟩=>by
  subst h;rw[cK,e.len,g.len];rfl
def yu (w:World)(rows:List Row):Prop:= ∀r∈rows,∀(i:Nat) (v:Value),r.cells[i]?=O v->∃b,w.cell? ⟨r.c,r.o+i,Y⟩=O b/\VR (mJ rows) v b
theorem Pg (rows d:List Row):(mJ rows).le (mJ (rows++d)):=by
 intro b g h;simp only[mJ]at h⊢;cases e:rows[b]? with
 |none=>rw[e]at h;cases h
 |some r=>
  rw[e]at h;obtain⟨i,j⟩:=List.getElem?_eq_some_iff.1 e;rw[cD i,e];exact h
theorem Ux (g:Nat)(rows e:List Row):Le (uK (lT g rows)) (uK (lT g (rows++e))):=by
 have m: ∀k,ae ([]:ai) k= .dead:=λk=>by cases k<;>rfl
 refine⟨cN _,λk d h=>(cO _ h).elim,λk _ h=> ?_,λk d b y h=>(cO _ h).elim,λb y h _=> ?_,λb y _ _ h=>(FZ b (.inl h)).elim, ?_,rfl⟩
 .rfl
 .simp only[uK,lT]at h⊢;cases i:rows[b]? with
  |none=>rw[i]at h;cases h
  |some r=>
   rw[i]at h;obtain⟨j,l⟩:=List.getElem?_eq_some_iff.1 i;rw[cD j,i];exact h
 .show rows.length<=(rows++e).length;rw[cK];omega
theorem WR {μ b:Mu}(h:μ.le b){l m:List Value}(d:F2 (VR μ) l m):F2 (VR b) l m:=d.imp λ_ _ e=>e.mono h
theorem yu.app {b:List Row}(h:yu w rows)(j: ∀r∈b,∀(i:Nat) (v:Value),r.cells[i]?=O v->∃v',w.cell? ⟨r.c,r.o+i,Y⟩=O v'/\VR (mJ (rows++b)) v v'):yu w (rows++b):=by
 intro r hr i v d;rcases List.mem_append.1 hr with hr|hr
 .obtain⟨v',e,g⟩:=h r hr i v d;exact⟨v',e,g.mono (Pg _ _)⟩
 .exact j r hr i v d
theorem ad3 (a:Addr)(i j:Nat):(a.add i).add j=a.add (i+j):=by
 unfold Addr.add;by_cases d:j=0
 .subst d;simp
 .by_cases b:i=0
  .subst b;simp
  .simp[b,d,Nat.add_assoc]
structure Built (w:World)(rows more:List Row)(acs cs:List Value)(vs:List VV):Prop where
 ok:yu w (rows++more)
 vr:F2 (VR (mJ (rows++more))) acs cs
 vv:F2 (VRel (uK (lT w.heap.size (rows++more)))) vs acs
theorem Built.app {d g:List Row}{a1 a2 c1 c2:List Value}{h i:List VV}(e:Built w rows d a1 c1 h)(b:Built w (rows++d) g a2 c2 i):Built w rows (d++g) (a1++a2) (c1++c2) (h++i):=by
 refine⟨?_, ?_, ?_⟩
 .rw[<-bB];exact b.ok
 .rw[<-bB];exact(WR (Pg _ _) e.vr).append b.vr
 .rw[<-bB];exact(VRel.frames (Ux _ _ _) e.vv).append b.vv
theorem Built.nil (h:yu w rows):Built w rows [] [] [] []:=⟨by rw[aD];exact h, .nil, .nil⟩
theorem Xg {w:World}{s:Sh}(t: ∀{cs:List Value} {x:El s},gZ w s cs x->∀{rows:List Row},yu w rows->∃b e,Built w rows b e cs (dk s x))(a:Addr): ∀(m:List (El s)) (k:Nat),
  (∀i y,m[i]?=O y->∃l,(∀j z,l[j]?=O z->w.cell? (a.add ((k+i)*s.w+j))=O z)/\gZ w s l y)->∀{rows:List Row},yu w rows->
  ∃b e g,Built w rows b e g (fh s m)/\g.length=m.length*s.w/\∀i z,g[i]?=O z->w.cell? (a.add (k*s.w+i))=O z
 |[],k,_,rows,h=>⟨[],[],[], .nil h,by simp,λi z d=>by simp at d⟩
 |y::m,k,r,rows,h=>by
  obtain⟨l,C,n⟩:=r 0 y rfl;obtain⟨L,u,q⟩:=t n h
  obtain⟨M,A,B,D,E,F⟩:=Xg t a m (k+1) (λi N o=>by
   obtain⟨p,I,J⟩:=r (i+1) N (by simpa using o)
   exact⟨p,λj z d=>by rw[show k+1+i=k+(i+1)by omega];exact I j z d,J⟩) q.ok
  refine⟨L++M,u++A,l++B, ?_, ?_,λi z d=> ?_⟩
  .have:=q.app D;rw[gk];exact this
  .rw[cK,E,n.len,cR,Nat.succ_mul];omega
  .have Q:=n.len;by_cases K:i<l.length
   .rw[cD K]at d;have:=C i z d
    rwa [Nat.add_zero]at this
   .rw[cM (by omega)]at d;have:=F _ z d;rw[show(k+1)*s.w+(i-l.length)=k*s.w+i by rw[Nat.succ_mul];omega]at this;exact this
theorem build {w:World}: ∀(s:Sh) {cs:List Value} {x:El s},gZ w s cs x->∀{rows:List Row},yu w rows->∃S V,Built w rows S V cs (dk s x)
 | .int k,_,n,⟨h,_⟩,rows,A=>by
  subst h;exact⟨[],_,by rw[aD];exact A, .cons (.int _ _) .nil, .cons (.int _ _) .nil⟩
 | .bool,_,b,h,rows,A=>by
  have h:_=[Value.bool _]:=h;subst h;exact⟨[],_,by rw[aD];exact A, .cons (.bool _) .nil, .cons (.bool _) .nil⟩
 | .str,_,l,⟨s,h,C,_⟩,rows,A=>by
  subst h;exact⟨[],_,by rw[aD];exact A, .cons (.string _) .nil, .cons (.str C) .nil⟩
 | .pair a b,_,x,⟨c1,c2,h,I,C⟩,rows,A=>by
  subst h;obtain⟨q,B,J⟩:=build a I A;obtain⟨m2,a2,h4⟩:=build b C J.ok;exact⟨q++m2,B++a2,J.app h4⟩
 | .list s,_,l,h,rows,A=>by
  rcases h with⟨h,C⟩|⟨a,j,d,U,h,E,hcm,hyl,W,hy⟩
  .subst h;subst C;exact⟨[],_,by rw[aD];exact A, .cons .nils .nil, .cons (.lstn λz Q=>by cases Q) .nil⟩
  .subst h;obtain⟨q,B,c1,I,C,J⟩:=Xg (λu=>build s u) a U 0 (λi y h=>by rw[cP];exact hy i y h) A;have hw:=mO s;rw[hyl]at C;have K:B.length=d*s.w:=by rw[I.vr.length,C]
   let g:Row:=⟨a.block,a.off,d*s.w,s.w,B⟩
   have p:0<d->a.spot=Y/\a.block<w.heap.size:=by
    intro u;have F:0<c1.length:=by rw[C];exact Nat.mul_pos u hw
    have:=J 0 _ (bD F);rw[cQ,Nat.add_zero]at this;have t:=E9 this;exact⟨t,Ov (x:=⟨a.block,a.off+0,Y⟩) (yx t this)⟩
   have D: ∀(rs:List Row),(rows++(q++[g])++rs)[(rows++q).length]?=O g:=by
    intro rs;rw[<-bB,bB _ [g],cM (cN _),Nat.sub_self];rfl
   have N:(mJ (rows++(q++[g]))).at (rows++q).length ⟨a.block,a.off,d*s.w,s.w,0,Y⟩:=by
    have:=D [];rw[aD]at this;refine⟨?_,rfl⟩;simp only[mJ,this];rfl
   have X:yu w (rows++(q++[g])):=by
    rw[<-bB];refine I.ok.app λr hr' i v T=> ?_
    have:r=g:=by simpa using hr'
    subst this;obtain⟨v',q1,q2⟩:=I.vr.get i v T;have u:=J i v' q1;rw[cQ,cP]at u
    have L:0<d:=by
     rcases cU d with e|e
     .have T:B[i]?=O v:=T;obtain⟨hi,_⟩:=List.getElem?_eq_some_iff.1 T;rw[K,e,cQ]at hi;exact(cO _ hi).elim
     .exact e
    exact⟨v',yx (p L).1 u,q2.mono (Pg _ _)⟩
   refine⟨q++[g],[.slice (O ⟨(rows++q).length,0,Y⟩) j d],X, ?_, ?_⟩
   .refine .cons ?_ .nil;by_cases u:d=0
    .have:j=0:=by omega
     subst u;subst this;exact .slice0 _ N
    .have t:=(p (by omega)).1;obtain⟨b,o,sp⟩:=a;simp only at t;subst t;exact .slice (o:=0) N E (cN _) (by simp)
   .refine .cons ?_ .nil;by_cases u:d=0
    .have e:j=0:=by omega
     subst u;subst e;rw[W,List.take_zero];exact .lstn λz Q=>by injection Q with Q;rw[<-Q]
    .have F:=(p (by omega)).2
     have hm:(uK (lT w.heap.size (rows++(q++[g])))).Z.m (rows++q).length=O ⟨B,Zb,s.w⟩:=by
      have:=D [];rw[aD]at this;simp only[uK,lT,this,zG];exact zE F
     have M:l.length=j:=by rw[W,cS];omega
     refine .lst (FZ _) hm rfl M.symm E ?_ ?_
     .show 0+j*s.w<=B.length;rw[K,cP];exact Nat.mul_le_mul_right _ E
     .show F2 _ _ ((B.drop 0).take (j*s.w));rw[cL,W]
      have h5:F2 (VRel (uK (lT w.heap.size (rows++(q++[g]))))) (fh s U) B:=by
       rw[<-bB];exact VRel.frames (Ux _ _ _) I.vv
      have h6:fh s (U.take j)=(fh s U).take (j*s.w):=kv;rw[h6];exact h5.take _
def Cg :List Sh->Sh
 |[]=> .bool
 |[a]=>a
 |a::b::r=> .pair a (Cg (b::r))
theorem Qz {w:World}: ∀{l1 d:List Sh} {c1 c2:List Value},l1≠[]->d≠[]->(∃x,gZ w (Cg l1) c1 x)->(∃x,gZ w (Cg d) c2 x)->∃x,gZ w (Cg (l1++d)) (c1++c2) x
 |[a],b::r,c1,c2,_,_,⟨x,e⟩,⟨y,g⟩=>⟨(x,y),c1,c2,rfl,e,g⟩
 |a::b::r,d,c1,c2,_,m,⟨x,h,i,j,e,g⟩,k=>by
  subst j;obtain⟨z,l⟩:=Qz (l1:=b::r) (by simp) m ⟨x.2,g⟩ k;exact⟨(x.1,z),h,i++c2,by rw[bB],e,l⟩
def GO {α:Type}(P:Program)(r:TypeId->Option (List Sh))(e:α->TypeId)(b:α->Nat):List α->Nat->Option (List Sh)
 |[],_=>O []
 |f::l,o=>cond (aB (b f) o) (match r (e f)with
  |some (s::d)=>cond (aB (s::d).length (P.cellsOf (e f))) ((GO P r e b l (o+(s::d).length)).map ((s::d)++ ·)) Y
  |_=>Y) Y
def ut (P:Program):Nat->TypeId->Option (List Sh)
 |0,_=>Y
 |n+1,t=>match P.underlying t with
  |some (.int k)=>O [.int k]
  |some .bool=>O [.bool]
  |some .string=>O [.str]
  |some (.slice e)=>(match ut P n e with
   |some (s::b)=>cond (aB (s::b).length (P.cellsOf e)) (O [.list (Cg (s::b))]) Y
   |_=>Y)
  |some (.struct d)=>(match GO P (ut P n) Field.type Field.offset d.toList 0 with
   |some L=>cond (aB L.length (P.cellsOf t)) (O L) Y
   |none=>Y)
  |some (.array m e)=>(match GO P (ut P n) (λ_=>e) (λi=>i*P.cellsOf e) (List.range m) 0 with
   |some L=>cond (aB L.length (P.cellsOf t)) (O L) Y
   |none=>Y)
  |_=>Y
section
variable {H:Type} {enc:TypeId×Value->H} {P:Program} {w:World} {base:Nat} {held:Bool}
theorem Ef {α:Type}{n m:Nat}{d:α->TypeId}{b:α->Nat}(B: ∀{t:TypeId} {l:List Sh} {cs:List Value} {x:DataW H×List MemPlace},ut P n t=O l->l≠[]->DataW.trod enc P w base (λ_=>Za) held m t cs=O x->∃y,gZ w (Cg l) cs y){cs:List Value}:
  ∀(e:List α) (o:Nat) (L:List Sh),GO P (ut P n) d b e o=O L->L≠[]->(∀(i:Nat) (f:α),e[i]?=O f->∃x,DataW.trod enc P w base (λ_=>Za) held m (d f) ((cs.drop (b f)).take (P.cellsOf (d f)))=O x)->
   ∃y,gZ w (Cg L) ((cs.drop o).take L.length) y
 |[],o,L,h,k,_=>by
  injection h with h
  exact(k h.symm).elim
 |f::e,o,L,h,k,z=>by
  obtain⟨y,A⟩:=z 0 f rfl;simp only[GO]at h;cases p:aB (b f) o with
  |false=>rw[p]at h;cases h
  |true=>
   have p:=cB p;subst p;rw[Nat.beq_refl,zC]at h;cases r:ut P n (d f)with
   |none=>rw[r]at h;cases h
   |some l=>
    rw[r]at h;cases l with
    |nil=>cases h
    |cons s C=>
     simp only at h;cases j:aB (s::C).length (P.cellsOf (d f))with
     |false=>rw[j]at h;cases h
     |true=>
      rw[j,zC]at h;have j:=cB j;rw[<-j]at A;have u:=B r (by simp) A;cases q:GO P (ut P n) d b e (b f+(s::C).length)with
      |none=>rw[q]at h;cases h
      |some L2=>
       rw[q,cV]at h;injection h with h
       subst h;rw[cK,List.take_add,List.drop_drop];cases L2 with
       |nil=>
        rw[List.length_nil,List.take_zero,aD,aD];exact u
       |cons F E=>exact Qz (by simp) (by simp) u (Ef B e _ _ q (by simp) λi g D=>z (i+1) g (by simpa using D))
theorem Nn {β:Type}{p:Nat->β->Prop}: ∀(n:Nat),(∀i,i<n->∃y,p i y)->∃d:List β,d.length=n/\∀i y,d[i]?=O y->p i y
 |0,_=>⟨[],rfl,λi y h=>by simp at h⟩
 |n+1,h=>by
  obtain⟨d,j,k⟩:=Nn n λi g=>h i (by omega)
  obtain⟨y,l⟩:=h n (by omega);refine⟨d++[y],by simp[j],λi z b=> ?_⟩;by_cases g:i<d.length
  .rw[cD g]at b;exact k i z b
  .rw[cM (by omega)]at b
   have:i-d.length=0:=by
    rcases cU (i-d.length)with e|e
    .exact e
    .rw[List.getElem?_eq_none (by simp;omega)]at b;cases b
   rw[this]at b;injection b with b
   subst b;have:i=n:=by omega
   subst this;exact l
theorem Vm {a:Addr}{c:Nat}{b:List Value}(h:w.cells? base a c=O b):b.length=c/\∀j z,b[j]?=O z->w.cell? (a.add j)=O z:=by
 unfold World.cells? at h;split at h
 .have e:=mapM_some_length h;rw[List.length_range]at e;refine⟨e,λj z g=> ?_⟩
  have d:j<c:=by
   obtain⟨d,_⟩:=List.getElem?_eq_some_iff.1 g;omega
  have:=mapM_some_get h j j (by simp[d]);rw[this,g]
 .cases h
theorem X7 : ∀(l:List Sh),l≠[]->(∀s∈l,s.w=1)->(Cg l).w=l.length
 |[a],_,h=>h a (by simp)
 |a::b::r,_,h=>by
  show a.w+(Cg (b::r)).w=_;rw[h a (by simp),X7 (b::r) (by simp) λs d=>h s (List.mem_cons_of_mem _ d),cR (as:=b::r)];omega
theorem OL {α:Type}{n:Nat}{e:α->TypeId}{b:α->Nat}(m: ∀{t:TypeId} {l:List Sh},ut P n t=O l->∀s∈l,s.w=1): ∀(d:List α) (o:Nat) (L:List Sh),GO P (ut P n) e b d o=O L->∀s∈L,s.w=1
 |[],o,L,h=>by
  injection h with h
  subst h;intro s r;cases r
 |f::d,o,L,h=>by
  simp only[GO]at h;cases j:aB (b f) o with
  |false=>rw[j]at h;cases h
  |true=>
   rw[j,zC]at h;cases i:ut P n (e f)with
   |none=>rw[i]at h;cases h
   |some l=>
    rw[i]at h;cases l with
    |nil=>cases h
    |cons s p=>
     simp only at h;cases k:aB (s::p).length (P.cellsOf (e f))with
     |false=>rw[k]at h;cases h
     |true=>
      rw[k,zC]at h;cases g:GO P (ut P n) e b d (o+(s::p).length)with
      |none=>rw[g]at h;cases h
      |some L2=>
       rw[g,cV]at h;injection h with h
       subst h;intro q hq;rcases List.mem_append.1 hq with hq|hq
       .exact m i q hq
       .exact OL m d _ _ g q hq
theorem ON : ∀(n:Nat) {t:TypeId} {l:List Sh},ut P n t=O l->∀s∈l,s.w=1
 |0,t,l,h=>by cases h
 |n+1,t,l,h=>by
  have one: ∀{a:Sh},a.w=1->O [a]=O l->∀s∈l,s.w=1:=by
   intro a i e;injection e with e
   subst e;intro s g;rw[List.mem_singleton]at g;subst g;exact i
  simp only[ut]at h;split at h
  .exact one rfl h
  .exact one rfl h
  .exact one rfl h
  .split at h
   .rename_i e m x s j k;cases b:aB (s::j).length (P.cellsOf e)with
    |false=>rw[b]at h;cases h
    |true=>rw[b,zC]at h;exact one rfl h
   .cases h
  .split at h
   .rename_i L d;cases b:aB L.length (P.cellsOf t)with
    |false=>rw[b]at h;cases h
    |true=>
     rw[b,zC]at h;injection h with h
     subst h;exact OL (λh=>ON n h) _ _ _ d
   .cases h
  .split at h
   .rename_i L d;cases b:aB L.length (P.cellsOf t)with
    |false=>rw[b]at h;cases h
    |true=>
     rw[b,zC]at h;injection h with h
     subst h;exact OL (λh=>ON n h) _ _ _ d
   .cases h
  .cases h
theorem Ck : ∀(n:Nat) {m:Nat} {t:TypeId} {l:List Sh} {cs:List Value} {x:DataW H×List MemPlace},ut P n t=O l->l≠[]->DataW.trod enc P w base (λ_=>Za) held m t cs=O x->∃y,gZ w (Cg l) cs y
 |0,m,t,l,cs,x,h,_,_=>by cases h
 |n+1,m,t,l,cs,x,h,M,B=>by
  simp only[ut]at h;split at h
  .rename_i k g;injection h with h
   subst h;obtain⟨a,o,_,T⟩:=DataW.trod_int g B;exact⟨a,o,T⟩
  .rename_i g;injection h with h
   subst h;obtain⟨a,o,_⟩:=DataW.trod_bool g B;exact⟨a,o⟩
  .rename_i g;injection h with h
   subst h;obtain⟨a,o,_,T⟩:=DataW.trod_string g B;exact⟨_,a,o,rfl,T⟩
  .rename_i e g;split at h
   .rename_i s C hr;cases b:aB (s::C).length (P.cellsOf e)with
    |false=>rw[b]at h;cases h
    |true=>
     rw[b,zC]at h;injection h with h
     subst h;have b:=cB b;have hw:(Cg (s::C)).w=P.cellsOf e:=by rw[X7 _ (by simp) (ON n hr),b]
     rcases DataW.trod_slice g B with⟨o,_⟩|⟨a,d,p,U,rest,Q,_,o,_,hb,hlc,V,hel,he,u⟩
     .exact⟨([]:List (El (Cg (s::C)))), .inl ⟨o,rfl⟩⟩
     .have J: ∀i,i<p->∃y:El (Cg (s::C)),∃S,(∀j z,S[j]?=O z->w.cell? (a.add (i*(Cg (s::C)).w+j))=O z)/\gZ w (Cg (s::C)) S y:=by
       intro i K
       have A: ∃q,(w.cells? base (a.add (i*P.cellsOf e)) (P.cellsOf e)).bind (DataW.trod enc P w base (λ_=>Za) held Q e)=O q:=by
        by_cases Z:i<d
        .rw[he i Z];exact⟨_,bD (by omega)⟩
        .obtain⟨h8,r⟩:=u.1 rfl;have:=r (i-d) (by omega);rw[show d+(i-d)=i by omega]at this;rw[this];exact⟨_,bD (by omega)⟩
       obtain⟨q,hq⟩:=A;obtain⟨S,D,F⟩:=ah hq;obtain⟨y,I⟩:=Ck n hr (by simp) F;obtain⟨h4,h5⟩:=Vm D;exact⟨y,S,λj z hz=>by rw[hw,<-ad3];exact h5 j z hz,I⟩
      obtain⟨ys,h6,h7⟩:=Nn p J;exact⟨ys.take d, .inr ⟨a,d,p,ys,o,hlc,V,h6,rfl,h7⟩⟩
   .cases h
  .rename_i fs g;split at h
   .rename_i L W;cases b:aB L.length (P.cellsOf t)with
    |false=>rw[b]at h;cases h
    |true=>
     rw[b,zC]at h;injection h with h
     subst h;have b:=cB b;obtain⟨xs,Q,_,_,hl,N,hx⟩:=DataW.trod_struct g B
     have:=Ef (cs:=cs) (λD F I=>Ck n (m:=Q) D F I) fs.toList 0 _ W M λi f K=>by
      have X:fs[i]?=O f:=by rw[<-Array.getElem?_toList];exact K
      have:=hx i f X;rw[this]
      have:i<xs.length:=by
       obtain⟨r,_⟩:=List.getElem?_eq_some_iff.1 K;rw[N];simpa using r
      exact⟨_,bD this⟩
     rw[cL,cT (by omega)]at this;exact this
   .cases h
  .rename_i k e g;split at h
   .rename_i L W;cases b:aB L.length (P.cellsOf t)with
    |false=>rw[b]at h;cases h
    |true=>
     rw[b,zC]at h;injection h with h
     subst h;have b:=cB b;obtain⟨xs,Q,_,_,hl,N,hx⟩:=DataW.trod_array g B
     have:=Ef (cs:=cs) (λD F I=>Ck n (m:=Q) D F I) (List.range k) 0 _ W M λi f K=>by
      obtain⟨r,E⟩:=List.getElem?_eq_some_iff.1 K;rw[List.getElem_range]at E;subst E;have r:i<k:=by simpa using r
      have:=hx i r;rw[this];exact⟨_,bD (by omega)⟩
     rw[cL,cT (by omega)]at this;exact this
   .cases h
  .cases h
end
def isAgg (P:Program)(t:TypeId):Bool:=match P.underlying t with
 |some (.struct _)|some (.array _ _)=>Za
 |_=>Zb
def Ix (w:World):(b:Bool)->(s:Sh)->Value->El s->Prop
 |true,s,v,x=> ∃d,v= .agg d/\gZ w s d.toList x
 |false,s,v,x=>gZ w s [v] x
theorem Yr {H:Type}{enc:TypeId×Value->H}{P:Program}{base:Nat}{held:Bool}{n:Nat}{t:TypeId}{l:List Sh}{r:Reach}{b0:Nat}{d:DataW H}{z:List MemPlace}(j:ut P n t=O l)(o:l≠[])
  (b:Value.okWide P w r b0 t v) (u:DataW.Trod enc P w base (λ_=>Za) held t v d z): ∃x:El (Cg l),Ix w (isAgg P t) (Cg l) v x:=by
 obtain⟨p,y⟩:=u;obtain⟨x,m⟩:=Ck n j o y;refine⟨x, ?_⟩
 have h:isAgg P t=Zb->(∀i,v≠ .agg i)->Ix w (isAgg P t) (Cg l) v x:=by
  intro q s;rw[q]
  have:v.cells.toList=[v]:=by
   unfold Value.cells;split
   .rename_i i;exact(s i rfl).elim
   .rfl
  rw[this]at m;exact m
 cases n with
 |zero=>cases j
 |succ n=>
  simp only[ut]at j;split at j
  .rename_i k g;refine h (by simp[isAgg,g]) λi e=> ?_
   subst e;simp[Value.okWide,g,Cell.okWide,Cell.ok]at b
  .rename_i g;refine h (by simp[isAgg,g]) λi e=> ?_
   subst e;simp[Value.okWide,g,Cell.okWide,Cell.ok]at b
  .rename_i g;refine h (by simp[isAgg,g]) λi e=> ?_
   subst e;simp[Value.okWide,g,Cell.okWide,Cell.ok]at b
  .rename_i e g;refine h (by simp[isAgg,g]) λi e=> ?_
   subst e;simp[Value.okWide,g,Cell.okWide,Cell.ok]at b
  .rename_i A g;simp only[Value.okWide,g]at b;obtain⟨i,rfl,_,_⟩:=b;rw[show isAgg P t=Za by simp[isAgg,g]];exact⟨i,rfl,m⟩
  .rename_i k e g;simp only[Value.okWide,g]at b;obtain⟨i,rfl,_,_⟩:=b;rw[show isAgg P t=Za by simp[isAgg,g]];exact⟨i,rfl,m⟩
  .cases j
@[reducible] def All :List (Bool×Sh)->Type
 |[]=>Unit
 |[k]=>El k.2
 |k::b::r=>El k.2×All (b::r)
def NK (w:World):(e:List (Bool×Sh))->List Value->All e->Prop
 |[],vs,_=>vs=[]
 |[k],vs,x=> ∃v,vs=[v]/\Ix w k.1 k.2 v x
 |k::d::r,vs,x=> ∃v b,vs=v::b/\Ix w k.1 k.2 v x.1/\NK w (d::r) b x.2
def ay2 (k:Bool×Sh)(x:El k.2):VV:=cond k.1 (.agg (dk k.2 x)) ((dk k.2 x).headD .undef)
def W4 :(d:List (Bool×Sh))->All d->List VV
 |[],_=>[]
 |[k],x=>[ay2 k x]
 |k::b::r,x=>ay2 k x.1::W4 (b::r) x.2
theorem MP {k:Bool×Sh}{x:El k.2}(h:Ix w k.1 k.2 v x)(i:yu w rows): ∃d j,Built w rows d [j] [v] [ay2 k x]:=by
 obtain⟨b,s⟩:=k;cases b with
 |true=>
  obtain⟨y,rfl,m⟩:=h;obtain⟨d,g,e⟩:=build s m i;exact⟨d, .agg g.toArray,e.ok, .cons (.agg (by simpa using e.vr)) .nil, .cons (.agg (by simpa using e.vv)) .nil⟩
 |false=>
  obtain⟨d,g,e⟩:=build s h i;have n:=e.vr;have o:=e.vv;cases n with
  | @cons a _ u _ p q=>
   cases q;refine⟨d,a,e.ok, .cons p .nil, ?_⟩;show F2 _ [(dk s x).headD .undef] _;generalize dk s x=l at*;cases o with
   |cons r t=>
    cases t;exact .cons r .nil
theorem KA {w:World}: ∀(l:List (Bool×Sh)) {vs:List Value} {x:All l},NK w l vs x->∀{rows:List Row},yu w rows->∃b d,Built w rows b d vs (W4 l x)
 |[],vs,x,h,rows,e=>by
  have h:vs=[]:=h;subst h;exact⟨[],[], .nil e⟩
 |[k],vs,x,⟨v,h,i⟩,rows,e=>by
  subst h;obtain⟨b,g,j⟩:=MP i e;exact⟨b,[g],j⟩
 |k::o::r,vs,x,⟨v,s,h,i,j⟩,rows,e=>by
  subst h;obtain⟨p,g,m⟩:=MP i e;obtain⟨q,d,n⟩:=KA (o::r) j m.ok;exact⟨p++q,g::d,m.app n⟩
def inK (k:IntKind)(n:Int):Prop:=match k with
 | .i64=> -9223372036854775808<=n/\n<=9223372036854775807
 | .u64=>0<=n/\n<=18446744073709551615
 | .u8=>0<=n/\n<=255
 |_=>True
theorem aB2 {k:IntKind}{n:Int}(h:(Lit.int k n).wf=Za):inK k n:=by
 cases k<;>first|trivial|exact aE8 h|exact aE9 h|exact aL3 h
def UW :(s:Sh)->El s->Prop
 | .int k,n=>inK k n
 | .bool,_=>True
 | .str,l=>l.length<=9223372036854775807/\∀n∈l,0<=n/\n<=255
 | .list s,l=>l.length<=9223372036854775807/\∀x∈l,UW s x
 | .pair a b,x=>UW a x.1/\UW b x.2
theorem gZ.fine : ∀{s:Sh} {cs:List Value} {x:El s},gZ w s cs x->UW s x
 | .int k,_,_,⟨_,h⟩=>aB2 h
 | .bool,_,_,_=>trivial
 | .str,_,_,⟨s,_,h,g⟩=>by
  subst h;refine⟨?_,λn j=> ?_⟩
  .unfold cu;rw[List.length_map];unfold maxLen at g;simpa using g
  .unfold cu at j;obtain⟨b,_,rfl⟩:=List.mem_map.1 j;have:=b.toNat_lt;omega
 | .list s,_,l,h=>by
  rcases h with⟨_,h⟩|⟨a,z,m,C,_,t,d,y,r,u⟩
  .subst h;exact⟨Nat.zero_le _,λx e=>by cases e⟩
  .subst r;refine⟨by rw[cS];unfold maxLen at d;omega,λx e=> ?_⟩;obtain⟨i,q,rfl⟩:=List.getElem_of_mem (List.mem_of_mem_take e);obtain⟨D,_,h⟩:=u i _ (bD q);exact h.fine
 | .pair a b,_,_,⟨A,B,_,o,p⟩=>⟨o.fine,p.fine⟩
theorem Ix.fine {b:Bool}{s:Sh}{x:El s}(h:Ix w b s v x):UW s x:=by
 cases b with
 |true=>obtain⟨d,_,h⟩:=h;exact h.fine
 |false=>exact gZ.fine h
theorem XN {P:Program}{run:Dq (uE.shs ⟨vals,[],[]⟩)->Option (uG F0)}(h:dp P ⟨f,vals,[],F0,run⟩)(k:PP P w)(b:List (Bool×Sh))(x:All b)(t:Dq (uE.shs ⟨vals,[],[]⟩))
  (j:NK w b cargs.toList x) (l:((mH [] 0 [] ⟨vals,[],[]⟩ (W4 b x)).bind λst=>PB _ st.ls)=O t) (g:run t=O Za):
  Calls P f cargs w λe w'=>e= .returned (.bool Za)/\Go.RowKit.Below w.heap.size w w':=by
 obtain⟨rows,i,d⟩:=KA b j (rows:=[]) (λr g=>by cases g);exact VT h k t d.ok d.vr d.vv l g
end
end Go.V
