/- A part of the proof. No condition. -/
import Derived.Test.YtlmlogmcgeijcaaGreatDoorA9
import Derived.Test.YtlmlogmcgeijcaaGreatDoorA4
import Derived.IntWalk
import Derived.KernelRfl
import Derived.WideKeyArr2
import Derived.RowKit
import Derived.ProofKit
import Derived.OpenShut
import Derived.ChangeArms
import Derived.Below
set_option linter.unusedVariables false
set_option linter.unusedSimpArgs false
set_option linter.unusedSectionVars false
namespace Go.V
open Go.Ab
open Option renaming some->O,none->Y
open Bool renaming true->Za,false->Zb
open Decidable renaming decide->Zc
variable {w:World}{f:FuncId}{vals:List Sk}{rows:List Row}{c:Ctx}{fx:List Nat}{at':AT}{objs:List OSk}{outs:List Alt}{v:Value}{vs:List VV}{sk:ui}{tab:List FSum}{cargs:Array Value}{a:Int}
section
open Bool renaming and_eq_true -> aB
open List renaming mem_cons_self -> aD, mem_cons_of_mem -> cB, mem_of_getElem? -> cD
open Nat renaming beq -> bB, zero_add -> bD, eq_of_beq_eq_true -> cK
section
variable {tab:Tab}
theorem Q5 {e:cm}{d:cf}{t:Nat}{p:Bool}(g:au c e d)(j:ld e t= .bool p):au c (pP e t (.bool p)) d:=by
 have b:=g t;rw[j]at b;have b:=b.bool_inv;intro i;rw[vy];by_cases h:i=t
 .subst h;rw[zE rfl,b];exact .bool _
 .rw[zF h];exact g i
theorem FQ {β:Type}{y:β}: ∀{A:List SItem} {c:Ctx} {e:cm} {b:cf} {g:Fi} {ach:List (Nat×(Hp->Prop))} {k:cm->ai->Option β},dv c->au c e b->ChkRel c ach g->td tab A g e c.S k=O y->PC (fA tab) (pc c k y) A ach b c.Z
 |[],c,e,b,g,ach,k,B,q,E,h=>⟨e,c,rfl,Le.refl c,B,q,h⟩
 |it::r,c,e,b,g,ach,k,B,q,E,h=>by
  have i: ∀n,au c n b->HU tab it g n c.S (λl I S'=>td tab r l I S' k)=O y->
    (if it.mover then bu (fA tab) it.o.op b c.Z (λv Z'=>xh it.chks Z' ach/\PC (fA tab) (pc c k y) r ach (b.putO it.o.dst v) Z')
    else match it.o.op.run b c.Z with
     |some (v,_)=>PC (fA tab) (pc c k y) r (if it.keep then(it.idx,λZ'=>it.o.op.run b Z'=O (v,Z'))::ach else ach) (b.putO it.o.dst v) c.Z
     |none=>False):=by
   intro n s D;refine VH (Q:=λj z Z'=>PC (fA tab) (pc c k y) r j z Z') B s E D λU j l I z K L M N T=> ?_
   exact Et (br tab) (λJ Z'' x=>x.of K) _ _ _ _ (FQ L N M T)
  have skip: ∀n,au c n b->td tab r g (putO n it.o.dst (.tup [])) c.S k=O y->PC (fA tab) (pc c k y) r ach (b.putO it.o.dst undef) c.Z:=λn s D=>FQ B (s.putO (.tup .nil)) E D
  simp only[td]at h;simp only[PC];split at h
  .rename_i C;have:wanted it.o b=Za:=by simp only[wanted,C]
   rw[zE this];exact i e q h
  .rename_i t w C;split at h
   .rename_i p x;have m:=q t;rw[x]at m;have m:=m.bool_inv;have F:wanted it.o b=(p==w):=by simp only[wanted,C,m]
    have d:=Q5 q x;rw[F];cases p<;>cases w<;>simp only[zC,zD]at h
    .rw[zE (by decide)];exact i _ d h
    .rw[zF (by decide)];exact skip _ d h
    .rw[zF (by decide)];exact skip _ d h
    .rw[zE (by decide)];exact i _ d h
   .rename_i x;have m:=q t;rw[x]at m
    have F:wanted it.o b=Zb:=by
     simp only[wanted,C];generalize b t=u at m;cases m;rfl
    rw[F,zF (by decide)];exact skip _ q h
   .cases h
def rj (as:List Nat)(e e':cf):Prop:= ∀t,t∉as->e' t=e t
theorem rj.refl (as:List Nat)(e:cf):rj as e e:=λ_ _=>rfl
theorem rj.put {as:List Nat}{e e':cf}{d:Option Nat}(h:rj as e e')(g: ∀t,t∈OO d->t∈as):rj as e (e'.putO d v):=by
 intro t b;cases d with
 |none=>exact h t b
 |some d=>
  have:t≠d:=by rintro rfl;exact b (g t (List.mem_singleton.2 rfl))
  simp only[cf.putO,cf.put,zF this];exact h t b
theorem F9 {T:Ab.fM}(g:rk T){Q:cf->Hp->Prop}{as:List Nat}{e0:cf}: ∀{b:List AOper} {e:cf} {Z:Hp},(∀o,o∈b->∀t,t∈OO o.dst->t∈as)->rj as e0 e->Ab.yF T Q b e Z->Ab.yF T (λe' Z'=>rj as e0 e'/\Q e' Z') b e Z
 |[],e,Z,_,d,h=>⟨d,h⟩
 |o::r,e,Z,i,d,h=>by
  simp only[Ab.yF]at h⊢;have k: ∀o,o∈r->∀t,t∈OO o.dst->t∈as:=λo l=>i o (cB _ l)
  split at h
  .rename_i j;rw[zE j];exact kC g (λv Z' m=>F9 g k (d.put (i o aD)) m) h
  .rename_i j;rw[zF j];exact F9 g k (d.put (i o aD)) h
theorem Ht {T:Ab.fM}(i:rk T){Q:cf->Hp->Prop}{as:List Nat}{e0:cf}: ∀{d:List SItem} {b:List (Nat×(Hp->Prop))} {e:cf} {Z:Hp},(∀o,o∈d->∀t,t∈OO o.o.dst->t∈as)->rj as e0 e->PC T Q d b e Z->PC T (λe' Z'=>rj as e0 e'/\Q e' Z') d b e Z
 |[],b,e,Z,_,g,h=>⟨g,h⟩
 |it::r,b,e,Z,j,g,h=>by
  simp only[PC]at h⊢;have l: ∀o,o∈r->∀t,t∈OO o.o.dst->t∈as:=λo p=>j o (cB _ p)
  split at h
  .rename_i m;rw[zE m];split at h
   .rename_i k;rw[zE k];exact kC i (λv Z' n=>⟨n.1,Ht i l (g.put (j it aD)) n.2⟩) h
   .rename_i k;rw[zF k];split at h
    .exact Ht i l (g.put (j it aD)) h
    .exact h.elim
  .rename_i m;rw[zF m];exact Ht i l (g.put (j it aD)) h
theorem PY {F G:Nat->Prop}(h: ∀m,F m->G m): ∀{l:List Nat},Kw F l->Kw G l
 |[],_=>trivial
 |[m],q=>h m q
 |m::b::r,q=>⟨h m q.1,PY h q.2⟩
theorem Er {T:Ab.fM}(s:rk T){Q:cf->Hp->Prop}{as:List Nat}{e0:cf}{b:List (AOper×List Nat)}(j: ∀o,o∈b->∀t,t∈OO o.1.dst->t∈as): ∀(f:Nat) {D:List Nat} {g:List (Nat×(Hp->Prop))} {e:cf} {Z:Hp},rj as e0 e->Cq T Q b f D g e Z->Cq T (λe' Z'=>rj as e0 e'/\Q e' Z') b f D g e Z
 |0,D,g,e,Z,n,h=>⟨n,h⟩
 |f+1,D,g,e,Z,n,h=>by
  simp only[Cq]at h⊢;cases y:dx b D with
  |some i=>
   rw[y]at h;simp only at h⊢;cases q:b[i]? with
   |none=>rw[q]at h;exact h
   |some p=>
    obtain⟨o,x⟩:=p;rw[q]at h;have d:(o,x)∈b:=cD q;simp only at h⊢;split at h
    .rename_i r;rw[zE r];split at h
     .rename_i v Z' u;exact Er s j f (n.put (j _ d)) h
     .exact h.elim
    .rename_i r;rw[zF r];exact Er s j f (n.put (j _ d)) h
  |none=>
   rw[y]at h;simp only at h⊢;cases u:bn b D with
   |nil=>rw[u]at h;exact⟨n,h⟩
   |cons a l=>
    rw[u]at h;simp only at h⊢;refine PY (λm d=> ?_) h;cases q:b[m]? with
    |none=>rw[q]at d;exact d
    |some p=>
     obtain⟨o,x⟩:=p;rw[q]at d;have k:(o,x)∈b:=cD q;simp only at d⊢;split at d
     .rename_i r;rw[zE r];exact kC s (λv Z' z=>⟨z.1,Er s j f (n.put (j _ k)) z.2⟩) d
     .rename_i r;rw[zF r];exact Er s j f (n.put (j _ k)) d
theorem vJ {T:Ab.fM}(m:rk T){as:List Nat}{e0:cf}: ∀(c:AC) {Q:AExit->cf->Hp->Prop} {e:cf} {Z:Hp},D5 c=Za->(∀t,t∈kv c->t∈as)->rj as e0 e->vL T c Q e Z->vL T c (λx e' Z'=>rj as e0 e'/\Q x e' Z') e Z
 | .skip,_,_,_,_,_,j,h=>⟨j,h⟩
 | .exit _,_,_,_,_,_,j,h=>⟨j,h⟩
 | .ret,_,_,_,_,_,j,h=>⟨j,h⟩
 | .region z,Q,e,Z,_,k,j,h=>F9 m (λo r t l=>k t (List.mem_flatMap.2 ⟨o,r,l⟩)) j h
 | .sched B,Q,e,Z,_,k,j,h=>Ht m (λo r t l=>k t (List.mem_flatMap.2 ⟨o,r,l⟩)) j h
 | .draw z,Q,e,Z,_,k,j,h=>Er m (λo r t l=>k t (List.mem_flatMap.2 ⟨o,r,l⟩)) _ j h
 | .seq a b,Q,e,Z,p,k,j,h=>by
  simp only[D5,aB]at p;have q:=vJ m a p.1 (λt l=>k t (List.mem_append.2 (.inl l))) j h;refine fp m a _ _ (λx e' Z' s=> ?_) e Z q;obtain⟨g,d⟩:=s;cases x with
  |normal=>exact vJ m b p.2 (λt l=>k t (List.mem_append.2 (.inr l))) g d
  |exit i=>exact⟨g,d⟩
  |ret=>exact⟨g,d⟩
 | .cond c a b,Q,e,Z,p,k,j,h=>by
  simp only[D5,aB]at p;simp only[vL]at h⊢;split at h
  .exact vJ m a p.1 (λt l=>k t (List.mem_append.2 (.inl l))) j h
  .exact vJ m b p.2 (λt l=>k t (List.mem_append.2 (.inr l))) j h
  .exact h.elim
 | .block id b,Q,e,Z,p,k,j,h=>by
  have q:=vJ m b p k j h;refine fp m b _ _ (λx e' Z' s=> ?_) e Z q;obtain⟨g,d⟩:=s;cases x with
  |normal=>exact⟨g,d⟩
  |exit i=>
   simp only at d⊢;split at d
   .rename_i u;rw[zE u];exact⟨g,d⟩
   .rename_i u;rw[zF u];exact⟨g,d⟩
  |ret=>exact⟨g,d⟩
 | .loop b,Q,e,Z,p,k,j,h=>by
  obtain⟨n,y⟩:=h;refine⟨n, ?_⟩;induction n generalizing e Z with
  |zero=>exact y.elim
  |succ n A=>
   simp only[jc]at y⊢;have q:=vJ m b p k j y;refine fp m b _ _ (λx e' Z' s=> ?_) e Z q;obtain⟨g,d⟩:=s;cases x with
   |normal=>exact A _ _ g d
   |exit i=>exact⟨g,d⟩
   |ret=>exact⟨g,d⟩
theorem HQ {S:ai}{N:Nat}{vals:List VV}{t:Df sk.shs}(h:KV S N fx sk vals=O t):sk.noRo=Za/\∃st,mG S N fx sk vals=O st/\RG sk.shs t=st.ls:=by
 unfold KV at h;obtain⟨b,d⟩:=aw h;obtain⟨st,e,g⟩:=ah d;exact⟨b,st,e,EQ g⟩
theorem XL {S:ai}{N:Nat}{vals:List VV}{t:Df sk.shs}(h:Ud S N fx sk vals=O t):sk.fxRo=Za/\∃st,mG S N fx sk vals=O st/\RG sk.shs t=st.ls:=by
 unfold Ud at h;obtain⟨b,d⟩:=aw h;obtain⟨st,e,g⟩:=ah d;exact⟨b,st,e,EQ g⟩
theorem EC {S:ai}{N:Nat}{fx:List Nat}{vals:List Nat->List VV}{d:XK->Bool}: ∀{l:List Alt} {s:uk l},vZ S N fx vals d l=O s->∃p,Xi l s=O p/\d p.1.x=Za/\KV S N fx p.1.sk (vals p.1.ts)=O p.2
 |[],s,h=>by cases h
 |[a],s,h=>by
  simp only[vZ]at h;cases e:d a.x with
  |false=>rw[e]at h;cases h
  |true=>rw[e]at h;exact⟨⟨a,s⟩,rfl,e,h⟩
 |a::b::r,s,h=>by
  simp only[vZ]at h;split at h
  .rename_i t g;injection h with h
   subst h;cases e:d a.x with
   |false=>rw[e]at g;cases g
   |true=>rw[e]at g;exact⟨⟨a,t⟩,rfl,e,g⟩
  .obtain⟨o,j,i⟩:=ah h;injection i with i
   subst i;obtain⟨p,k,m,n⟩:=EC j;exact⟨p,k,m,n⟩
theorem XK.is_out {x:XK}{y:AExit}(h:x.is y=Za):x.out=y:=by
 cases x<;>cases y<;>simp only[XK.is]at h<;>first|rfl|(cases h;done)|skip
 rename_i i j;rw[show(XK.exit i).out=AExit.exit i from rfl,cK h]
theorem Ha {c:Ctx}: ∀{ts:List Nat} {e:cm} {b:cf} {vs:List VV},au c e b->F2 (VRel c) vs (ts.map b)->au c (Q6 e ts vs) b
 |[],e,b,vs,d,g=>by
  cases g;exact d
 |t::ts,e,b,vs,d,g=>by
  cases g with
  |cons j k=>
   have:=Ha d k;intro i;simp only[Q6,vy];by_cases h:i=t
   .subst h;rw[zE rfl];exact j
   .rw[zF h];exact this i
theorem EA {as:List Nat}{e:cm}{d b:cf}(j:au c e d)(k:rj as d b):au c (qd e as) b:=by
 intro t;rcases xn (ts:=as) (e:=e) (t:=t)with h|⟨g,i⟩
 .rw[h];exact .undef _
 .rw[i,k t g];exact j t
theorem J2 {c:Ctx}{e:cm}{b:cf}(d:au c e b): ∀ts:List Nat,F2 (VRel c) (ts.map (ld e)) (ts.map b)
 |[]=> .nil
 |t::ts=> .cons (d t) (J2 d ts)
theorem OX {β:Type}{c1 g:Ctx}{e0:cm}{i d:cf}{mov e:List Nat}{b:List Alt}{s:uk b}{k:AExit->cm->ai->Option β}{y:β}{e':cm}{x:AExit}(U:dv c)(r:au c e0 i)(j:dv g)(W:Within c c1 fx mov)(l:dv c1)(u:Le c1 g)(z:JG c.S fx=Za)
  (t:rj e i d) (o:au g e' d) (V:vZ g.S c.S.length fx (λts=>ts.map (ld e')) (λy=>y.is x) b=O s) (h:aj0 e0 c.S fx mov e b s k=O y):qv c k y x d g.Z:=by
 obtain⟨p,L,M,N⟩:=EC V;obtain⟨A,X,Q,T⟩:=HQ N;unfold aj0 at h;rw[Oz,L]at h;simp only[zG]at h;rw[XK.is_out M]at h;unfold Eb at h;rw[T]at h;cases n:pp id p.1.sk X.ls with
 |none=>rw[n]at h;cases h
 |some q=>
  obtain⟨vs,B,D⟩:=q;rw[n]at h;simp only[Bool.false_or]at h;cases m:vE fx B (jA fx mov (CB vs B D) 0 c.S)with
  |none=>rw[m]at h;cases h
  |some S2=>
   rw[m]at h;obtain⟨E,F,I,C,J,K⟩:=al2 U j W l u z A Q n (J2 o _) m;refine⟨_,E,F,C,J,Ha (EA (r.frame C) t) K, ?_⟩;rw[I];exact h
theorem So {S:ai}:tB S (jA fx [] Za 0 S):=by
 refine⟨lS,λk=> ?_⟩;by_cases b:k<S.length
 .rw[lR b];simp only[kB,zD,bD];cases kB k fx with
  |true=>exact .inl rfl
  |false=>exact .inr rfl
 .rw[vC (by rw[lS];omega),vC (by omega)];exact .inl rfl
def aT8 (c:Ctx)(e0:cm)(e:cf)(fx mov b:List Nat)(ts:List Nat)(sk:ui)(t:Df sk.shs)(h:cf)(Z:Hp):Prop:=
 ∃d g,d.Z=Z/\Eb e0 c.S fx mov b Za ts sk t=O (g,d.S)/\dv d/\au d g h/\Within c d fx mov/\rj b e h
theorem LV {e0 e1:cm}{S S1:ai}{mov b ts:List Nat}{t:Df sk.shs}(h:Eb e0 S fx mov b Za ts sk t=O (e1,S1)): ∃vs d bs S',pp id sk (RG sk.shs t)=O (vs,d,bs)/\vE fx d (jA fx mov Za 0 S)=O S'/\e1=Q6 (qd e0 b) ts vs/\S1=S'++bs:=by
 unfold Eb at h;split at h
 .rename_i vs d bs j;simp only[Bool.true_or]at h;split at h
  .rename_i S' i;injection h with h
   injection h with e g
   exact⟨vs,d,bs,S',j,i,e.symm,g.symm⟩
  .cases h
 .cases h
theorem IY {b:List (AOper×List Nat)}: ∀{r:List LItem} {d:LItem} {t:Nat},d∈r->bB d.kind 2=Za->(ba b d.i).dst=O t->t∈EI b r
 |a::r,d,t,h,e,g=>by
  simp only[EI];rcases List.mem_cons.1 h with rfl|h
  .rw[e,zC,g];exact aD
  .have:=IY h e g;cases bB a.kind 2 with
   |false=>exact this
   |true=>exact List.mem_append.2 (.inr this)
theorem cb {α γ:Type}(f:α->Option (α⊕γ))(n:Nat)(a:α):aq f (n+1) a=(f a).bind λs=>bk s (aq f n) O:=rfl
theorem IA {f:(AExit->cf->Hp->Prop)->cf->Hp->Prop}(g: ∀(Q Q':AExit->cf->Hp->Prop),(∀x e Z,Q x e Z->Q' x e Z)->∀e Z,f Q e Z->f Q' e Z){Q:AExit->cf->Hp->Prop}:
  ∀(n m:Nat) (e:cf) (Z:Hp),n<=m->jc f Q n e Z->jc f Q m e Z
 |0,_,_,_,_,h=>h.elim
 |n+1,0,_,_,b,_=>absurd b (Nat.not_succ_le_zero _)
 |n+1,m+1,e,Z,b,h=>by
  simp only[jc]at h⊢;refine g _ _ (λx i Z' d=> ?_) e Z h;cases x with
  |normal=>exact IA g n m i Z' (Nat.le_of_succ_le_succ b) d
  |exit id=>exact d
  |ret=>exact d
theorem GV {b:AC}(o: ∀(at':AT) {β:Type} {y:β} {c:Ctx} {e:cm} {d:cf} {k:AExit->cm->ai->Option β},dv c->au c e d->eval tab b at' β e c.S k=O y->vL (fA tab) b (qv c k y) d c.Z):
  ∀(at':AT) {β:Type} {y:β} {c:Ctx} {e:cm} {d:cf} {k:AExit->cm->ai->Option β},dv c->au c e d->Ll (eval tab b) at' β e c.S k=O y->jc (vL (fA tab) b) (qv c k y) at'.rounds d c.Z
 | .n l r,β,y,c,e,d,k,g,j,h=>by
  simp only[Ll]at h;have D:=o l g j h;simp only[AT.rounds,jc];refine fp (br tab) b _ _ (λx C Z' I=> ?_) d c.Z D;obtain⟨z,u,E,p,q,s,t⟩:=I;subst E;cases x with
  |normal=>exact zN (fp (br tab) b) (λx A Z'' F=>pc.of p F) _ _ _ (GV o r q s t)
  |exit i=>exact⟨z,u,rfl,p,q,s,t⟩
  |ret=>exact⟨z,u,rfl,p,q,s,t⟩
 | .sz m l r,β,y,c,e,d,k,g,j,h=>by
  simp only[Ll]at h;simp only[AT.rounds];cases B:bB m c.S.length with
  |true=>
   rw[B]at h;exact IA (fp (br tab) b) _ _ _ _ (Nat.le_add_right _ _) (GV o l g j h)
  |false=>
   rw[B]at h;exact IA (fp (br tab) b) _ _ _ _ (Nat.le_add_left _ _) (GV o r g j h)
 | .no,_,_,_,_,_,_,_,_,h=>by cases h
 | .lp _ _ _ _,_,_,_,_,_,_,_,_,h=>by cases h
 | .jn _ _ _ _ _,_,_,_,_,_,_,_,_,h=>by cases h
 | .dr _,_,_,_,_,_,_,_,_,h=>by cases h
 | .all,_,_,_,_,_,_,_,_,h=>by cases h
theorem QD {b:AC}(r: ∀{β:Type} {y:β} {c:Ctx} {e:cm} {d:cf} {k:AExit->cm->ai->Option β},dv c->au c e d->eval tab b .all β e c.S k=O y->vL (fA tab) b (qv c k y) d c.Z):
  ∀(n:Nat) {β:Type} {y:β} {c:Ctx} {e:cm} {d:cf} {k:AExit->cm->ai->Option β},dv c->au c e d->Yf (eval tab b .all) n β e c.S k=O y->jc (vL (fA tab) b) (qv c k y) n d c.Z
 |0,_,_,_,_,_,_,_,_,h=>by cases h
 |n+1,β,y,c,e,d,k,z,A,h=>by
  have t:=r z A (show eval tab b .all β e c.S (λx g S'=>match x with
   | .normal=>Yf (eval tab b .all) n β g S' k
   |x=>k x g S')=O y from h)
  simp only[jc];refine fp (br tab) b _ _ (λx s Z' C=> ?_) d c.Z t;obtain⟨g,p,u,j,l,m,o⟩:=C;subst u;cases x with
  |normal=>exact zN (fp (br tab) b) (λx q Z'' B=>pc.of j B) _ _ _ (QD r n l m o)
  |exit i=>exact⟨g,p,rfl,j,l,m,o⟩
  |ret=>exact⟨g,p,rfl,j,l,m,o⟩
theorem pN : ∀(ac:AC) (at':AT) {β:Type} {y:β} {c:Ctx} {e:cm} {o:cf} {k:AExit->cm->ai->Option β},dv c->au c e o->eval tab ac at' β e c.S k=O y->vL (fA tab) ac (qv c k y) o c.Z
 | .skip,_,_,_,c,e,o,k,g,d,h=>⟨e,c,rfl,Le.refl c,g,d,h⟩
 | .exit i,_,_,_,c,e,o,k,g,d,h=>⟨e,c,rfl,Le.refl c,g,d,h⟩
 | .ret,_,_,_,c,e,o,k,g,d,h=>⟨e,c,rfl,Le.refl c,g,d,h⟩
 | .region ops,_,_,_,c,e,o,k,g,d,h=>K0 g d h
 | .sched its,_,_,_,c,e,o,k,g,d,h=>FQ g d .nil h
 | .draw ops,at',_,y,c,e,o,k,g,d,h=>by
  simp only[eval]at h;split at h
  .rename_i L _;obtain⟨W,h⟩:=aw h;rw[aB]at W;refine KZ g ops.length (pd:=λ_=>0) W.1 ⟨Le.refl c,g,EA d (rj.refl _ o), .nil,rfl,rfl,λb=>⟨.inl,λh=> ?_⟩,List.nodup_nil,(λ_ _ h=>by cases h),(λ_ h=>by cases h),(λ_ h=>by cases h),λit hit hk t X=> ?_,W.2⟩ h
   .rcases h with h|⟨_,h,_⟩
    .exact h
    .cases h
   .rcases @xn (EI ops (zp ops L L [])) e t with h1|⟨h1,_⟩
    .exact h1
    .exact(h1 (IY hit hk X)).elim
  .cases h
 | .seq a b,at',β,y,c,e,o,k,g,d,h=>by
  have T: ∀l r,(eval tab a l β e c.S λx D S'=>match x with
    | .normal=>eval tab b r β D S' k
    |x=>k x D S')=O y->vL (fA tab) (.seq a b) (qv c k y) o c.Z:=by
   intro l r h1;refine fp (br tab) a _ _ (λx ea' Z' hx=> ?_) o c.Z (pN a l g d h1);obtain⟨D,U,h2,C,J,K,B⟩:=hx;subst h2;cases x with
   |normal=>exact fp (br tab) b _ _ (λx ea'' Z'' hp=>pc.of C hp) _ _ (pN b r J K B)
   |exit i=>exact⟨D,U,rfl,C,J,K,B⟩
   |ret=>exact⟨D,U,rfl,C,J,K,B⟩
  simp only[eval]at h;split at h
  .rename_i fx F E l r _;obtain⟨W,h⟩:=aw h;rw[aB]at W;obtain⟨s,h1,h2⟩:=ah h;have hfz:tB c.S (jA (fx++F) [] Za 0 c.S):=So;have hR1:dv ⟨c.μ,jA (fx++F) [] Za 0 c.S,c.Z,c.fb⟩:=hfz.rel g
   have hw:Within c ⟨c.μ,jA (fx++F) [] Za 0 c.S,c.Z,c.fb⟩ fx F:=by
    refine⟨hfz.le,λq hq hn hm=> ?_,λ_ _ _ _ _ _ _ _ hy=>hy⟩;show ae (jA (fx++F) [] Za 0 c.S) q=_;rw[lR hq];simp only[kB,zD,bD];rcases hm with hm|hz
    .rw[jB (by simp[hn,hm])];rfl
    .cases kB q (fx++F)with
     |true=>exact(A0 hz).symm
     |false=>rfl
   have C:=vJ (br tab) (as:=kv a) (e0:=o) a W.2 (λt X=>X) (rj.refl _ o) (pN a l (c:=⟨c.μ,jA (fx++F) [] Za 0 c.S,c.Z,c.fb⟩) hR1 (d.frame hfz.le) h1);refine fp (br tab) a _ _ (λx ea' Z' hx=> ?_) o c.Z C;obtain⟨hk,D,U,J,K,B,h7,h8⟩:=hx;subst J;have V:=OX g d B hw hR1 K W.1 hk h7 h8 h2;cases x with
   |normal=>
    obtain⟨I,c2,g1,g2,g3,g4,g5⟩:=V;rw[<-g1];exact fp (br tab) b _ _ (λx ea'' Z'' hp=>pc.of g2 hp) _ _ (pN b r g3 g4 g5)
   |exit i=>exact V
   |ret=>exact V
  .exact T _ _ h
  .exact T _ _ h
 | .cond t a b,at',β,y,c,e,o,k,g,d,h=>by
  simp only[eval]at h;split at h
  .rename_i p hp;have X:=bv d t;rw[hp]at X;have X:=X.bool_inv
   have key: ∀(e1 I:cm) (l r:AT),au c e1 o∨p=Zb->au c I o∨p=Za->cond p (eval tab a l β e1 c.S k) (eval tab b r β I c.S k)=O y->vL (fA tab) (.cond t a b) (qv c k y) o c.Z:=by
    intro e1 I l r h1 h2 C;simp only[vL,X];cases p with
    |true=>
     rcases h1 with h1|h1
     .exact pN a l g h1 C
     .cases h1
    |false=>
     rcases h2 with h2|h2
     .exact pN b r g h2 C
     .cases h2
   have pb: ∀(i:Nat),t= .tmp i->(au c (pP e i (.bool Za)) o∨p=Zb)/\(au c (pP e i (.bool Zb)) o∨p=Za):=by
    intro i hi;subst hi;have:=Q5 d hp;cases p with
    |true=>exact⟨.inl this, .inr rfl⟩
    |false=>exact⟨.inr rfl, .inl this⟩
   split at h
   .exact key _ _ _ _ (pb _ rfl).1 (pb _ rfl).2 h
   .exact key _ _ _ _ (pb _ rfl).1 (pb _ rfl).2 h
   .exact key _ _ _ _ (.inl d) (.inl d) h
   .exact key _ _ _ _ (.inl d) (.inl d) h
  .cases h
 | .block id b,at',β,y,c,e,o,k,g,d,h=>by
  simp only[eval]at h;refine fp (br tab) b _ _ (λx ea' Z' hx=> ?_) o c.Z (pN b _ g d h);obtain⟨D,U,h2,C,J,K,B⟩:=hx;cases x with
  |normal=>exact⟨D,U,h2,C,J,K,B⟩
  |ret=>exact⟨D,U,h2,C,J,K,B⟩
  |exit i=>
   simp only at B⊢;cases hi:bB i id with
   |true=>
    rw[hi]at B;rw[zE (cK hi)];exact⟨D,U,h2,C,J,K,B⟩
   |false=>
    rw[hi]at B;rw[zF (λe=>by rw[e,Nat.beq_refl]at hi;cases hi)];exact⟨D,U,h2,C,J,K,B⟩
 | .loop b,at',β,y,c,e,o,k,g,d,h=>by
  simp only[eval]at h;split at h
  .rename_i fx head E l _;obtain⟨W,h⟩:=aw h;rw[aB,aB]at W;obtain⟨⟨g1,g2⟩,g3⟩:=W;split at h
   .rename_i st hd;obtain⟨t0,h1,h⟩:=ah h;obtain⟨s,h2,C⟩:=ah h
    have round: ∀(n:Nat) (t:Df head.sk.shs) (M:cf) (Z1:Hp),aT8 c e o fx (nT st.m) (kv b) head.ts head.sk t M Z1->aq (λt=>match Eb e c.S fx (nT st.m) (kv b) Za head.ts head.sk t with
      |some (e1,S1)=>eval tab b l (Df head.sk.shs⊕uk E) e1 S1 λx D S'=>(match x with
       | .normal=>(Ud S' c.S.length fx head.sk (head.ts.map (ld D))).bind λt=>O (.inl t)
       |x=>(vZ S' c.S.length fx (λts=>ts.map (ld D)) (λy=>y.is x) E).bind λs=>O (.inr s))
      |none=>Y) n t=O s->jc (vL (fA tab) b) (qv c k y) n M Z1:=by
     intro n;induction n with
     |zero=>intro t M Z1 _ hl;cases hl
     |succ n ih=>
      intro t M Z1 hH hl;rw[cb]at hl;obtain⟨z,hl1,u⟩:=ah hl;obtain⟨c1,e1,q1,q2,q3,q4,q5,q6⟩:=hH;subst q1;rw[q2]at hl1;simp only at hl1;have J:=vJ (br tab) (as:=kv b) (e0:=o) b g3 (λt X=>X) q6 (pN b l q3 q4 hl1);simp only[jc];refine fp (br tab) b _ _ (λx ea' Z' hx=> ?_) M c1.Z J;obtain⟨hk,D,U,K,B,h7,h8,V⟩:=hx;subst K;cases x with
      |normal=>
       simp only at V⊢;obtain⟨t',N,A⟩:=ah V;injection A with A
       subst A;simp only[bk]at u;refine ih t' ea' U.Z ?_ u;obtain⟨hro,st',h12,h13⟩:=XL N
       have j: ∃I S2,Eb e c.S fx (nT st.m) (kv b) Za head.ts head.sk t'=O (I,S2):=by
        cases n with
        |zero=>cases u
        |succ n=>
         rw[cb]at u;obtain⟨z',Q,_⟩:=ah u;cases hz:Eb e c.S fx (nT st.m) (kv b) Za head.ts head.sk t' with
         |none=>rw[hz]at Q;cases Q
         |some q=>exact⟨q.1,q.2,rfl⟩
       obtain⟨I,S2,j⟩:=j;obtain⟨vs,fs,bs,S3,r1,r2,r3,r4⟩:=LV j;rw[h13]at r1;obtain⟨ct,u1,u2,u3,u4,u5,u6,u7,u8⟩:=au8 g h7 q5 q3 B g2 hro h12 r1 (J2 h8 _) r2;refine⟨ct,I,u1,by rw[j,r4,u2],u6, ?_,NT u5 r2 u2 λq hq hn hm hdm b' y' hb hy=> ?_,hk⟩
       .rw[r3];exact Ha (EA (d.frame u5) hk) u7
       .refine(u8 q hq hn ?_).2 b' y' hb hy;obtain⟨v1,v2,v3,_⟩:=jI r2;rw[lS]at v2;rw[u2,mK (by rw[v2];exact hq),v3 q hn,lR hq,bD,jB hn];rcases hm with hm|hz
        .rw[jB hm,zD,zD,zC,fF];exact hdm
        .rw[hz];cases kB q (nT st.m)with
         |true=>exact hdm
         |false=>rw[zD,zD,zC,fF];exact hdm
      |exit i=>
       simp only at V⊢;obtain⟨s',N,A⟩:=ah V;injection A with A
       subst A;simp only[bk]at u;injection u with u
       subst u;exact OX g d h7 q5 q3 B g2 hk h8 N C
      |ret=>
       simp only at V⊢;obtain⟨s',N,A⟩:=ah V;injection A with A
       subst A;simp only[bk]at u;injection u with u
       subst u;exact OX g d h7 q5 q3 B g2 hk h8 N C
    refine⟨di,round di t0 o c.Z ?_ h2⟩
    have j: ∃I S2,Eb e c.S fx (nT st.m) (kv b) Za head.ts head.sk t0=O (I,S2):=by
     have hb:di=(di-1)+1:=rfl;rw[hb,cb]at h2;obtain⟨z',Q,_⟩:=ah h2;cases hz:Eb e c.S fx (nT st.m) (kv b) Za head.ts head.sk t0 with
     |none=>rw[hz]at Q;cases Q
     |some q=>exact⟨q.1,q.2,rfl⟩
    obtain⟨I,S2,j⟩:=j;obtain⟨vs,fs,bs,S3,r1,r2,r3,r4⟩:=LV j;rw[EQ h1]at r1;obtain⟨ct,u1,u2,u3,u4,u5,u6,u7⟩:=VF g g2 g1 hd r1 (J2 d _) r2;refine⟨ct,I,u1,by rw[j,r4,u2],u6, ?_,NT u5 r2 u2 λq hq hn hm hdm b' y' hb hy=>by rw[u1];exact hy,rj.refl _ _⟩;rw[r3];exact Ha (EA (d.frame u5) (rj.refl _ _)) u7
   .cases h
  .exact⟨_,QD (λg d h=>pN b .all g d h) _ g d h⟩
  .exact⟨_,GV (λat'' {β y c e o k} g d h=>pN b at'' g d h) at' g d h⟩
end
end
section
open Nat renaming le_of_ble_eq_true -> aB, zero_add -> aD
theorem J3 {c:Ctx}{e:cm}{A:cf}(C:dv c)(s:au c e A): ∀{L:List ARes} {vs:List VV},He e c.S L=O vs->∃x,Im A c.Z L=O x/\F2 (VRel c) vs x
 |[],vs,h=>by injection h with h;subst h;exact⟨[],rfl, .nil⟩
 |r::L,vs,h=>by
  simp only[He]at h;obtain⟨v,d,h⟩:=ah h;obtain⟨W,Q,h⟩:=ah h;injection h with h
  subst h;obtain⟨x,T,U⟩:=J3 C s Q
  have K: ∃u,LC A c.Z r=O u/\VRel c v u:=by
   cases r with
   |tmp t=>
    simp only[ap7]at d;injection d with d
    subst d;exact⟨_,rfl,s t⟩
   |cell t=>
    simp only[ap7]at d;split at d
    .rename_i b o J;split at d
     .rename_i B z l k;have p:=s t;rw[J]at p;cases p with
      |ptr V _ F=>
       have g:(ae c.S b).dim=O (B,l.length):=by rw[k];rfl
       obtain⟨N,I,D⟩:=F _ g;have m:=C.stands g I;rw[k]at m;obtain⟨y,a,j,i,q⟩:=m.get d;refine⟨a, ?_,q⟩;rw[aD]at i;simp only[LC,D,j,zG,i]
     .cases d
    .cases d
   |cellN t n=>
    simp only[ap7]at d;split at d
    .rename_i b o J;split at d
     .rename_i B z l k;cases E:Nat.ble (o+n) l.length with
      |false=>rw[E]at d;cases d
      |true=>
       rw[E]at d;injection d with d
       subst d;have p:=s t;rw[J]at p;cases p with
       |ptr V _ F=>
        have g:(ae c.S b).dim=O (B,l.length):=by rw[k];rfl
        obtain⟨N,I,D⟩:=F _ g;have m:=C.stands g I;rw[k]at m;obtain⟨y,M,j,i,q⟩:=m.read (aB E);rw[aD]at i;refine⟨.agg M.toArray, ?_, .agg (by simp only[Blk.vals]at q;simpa using q)⟩;simp only[LC,D,j,zG,i,Option.map_some]
     .cases d
    .cases d
  obtain⟨u,j,i⟩:=K;exact⟨u::x,by simp only[Im,j,T], .cons i U⟩
theorem PA {e:List Value}(h:F2 (VRel c) vs e):VRel c (RL vs) (zM e):=by
 cases h with
 |nil=>exact .tup .nil
 |cons d b=>
  cases b with
  |nil=>exact d
  |cons b g=>exact .tup (by simpa using F2.cons d (F2.cons b g))
theorem KB {as:List Value}(h:F2 (VRel c) vs as):au c vs (cf.of as):=by
 intro t
 have e: ∀(l:List VV) (i:Nat),ld l i=(l[i]?).getD .undef:=by
  intro l;induction l with
  |nil=>intro i;simp[ld]
  |cons a l j=>intro i;cases i with
   |zero=>simp[ld]
   |succ i=>simp[ld,j]
 rw[e];unfold cf.of;cases g:vs[t]? with
 |none=>exact .undef _
 |some v=>
  obtain⟨a,b,d⟩:=h.get t v g;rw[b];exact d
theorem KH : ∀{n q:Nat},q<n->q∈KG n
 |n+1,q,h=>by
  by_cases e:q=n
  .subst e;exact List.mem_cons_self
  .exact List.mem_cons_of_mem _ (KH (by omega))
theorem YW {P:Program}{tab:Tab}{q:Df (ui.shs ⟨vals,[],objs⟩)->Option (uk outs)}(ht:eo P tab.fs)(hi:aa P tab.is)
  (he: ∀t o,q t=O o->HW P f tab vals objs outs at' t=O o):dw P ⟨f,vals,objs,outs,q⟩:=by
 intro B μ Z w h cargs K hs Q ha;obtain⟨c,vals',E,t,o,p,v,fs,bs,S',h1,hR,hf,b,hl,j,C,D,hp,e,hS,hK⟩:=hs;subst h1;have d:=he t o D;unfold HW at d;split at d
 .rename_i r vs fs0 S0 W u;obtain⟨hg,d⟩:=aw d;refine Ug W (br tab) (Ei ht hi) B μ c.Z w h cargs K ?_ Q ha;have V:RG (ui.shs ⟨vals,[],objs⟩) t=E.ls:=EQ hl;rw[V]at u;obtain⟨N,y⟩:=enter hR rfl b u hf;have z:h.length<=r.ntmps:=by rw[<-y.length];exact aB hg
  refine⟨z, ?_⟩;obtain⟨l1,l2⟩:=N.len;have l:=pN r.body at' (c:=lH c E S0) N.rel (KB y) d;refine fp (br tab) r.body _ _ (λx ea Z' hx=> ?_) _ _ l;obtain⟨e',F,h2,h3,h4,h5,L⟩:=hx;subst h2
  have s:(match He e' F.S r.results with
    |some rs=>vZ F.S S0.length (tf objs 0) (λ_=>[RL rs]) (λ_=>Za) outs
    |none=>Y)=O o->(match Im ea F.Z r.results with
    |some vs=>K (zM vs) F.Z
    |none=>False):=by
   intro M;split at M
   .rename_i rs U;obtain⟨us,h8,h9⟩:=J3 h4 h5 U;rw[h8];simp only;obtain⟨p',I,_,q3⟩:=EC M;simp only at hp;rw[hp]at I;injection I with I
    subst I;obtain⟨T,st',q4,q5⟩:=HQ q3;obtain⟨J,_⟩:=po b;have A:=pj J;rw[List.nil_append]at A;simp only at e hS j C;rw[q5]at e
    have n: ∀(i:Nat) (o:OSk) (x:Src),objs[i]?=O o->o.ro=Za->E.m[i]?=O (O x)->x.k∈E.lent:=by
     intro i o x g1 g2 g3;unfold mG at b;obtain⟨st1,d1,b⟩:=ah b;obtain⟨st2,d2,b⟩:=ah b;obtain⟨g,d3,b⟩:=ah b
     have:g=E:=by
      cases hb:(Fz ([]++nT g.m)&&B4 ([]++jJ (FSum.ins ⟨f,vals,objs,outs,q⟩).free g.m) g.lent)with
      |false=>rw[hb]at b;cases b
      |true=>rw[hb]at b;injection b
     subst this;exact Pl d3 i o x g1 g2 (by rw[aD];exact g3)
    obtain⟨ct,r1,r2,r3,r4,X,r6⟩:=LD hR rfl N h3 h4 j C A n T (by rw[<-l1];exact q4) e (.cons (PA h9) .nil) hS;cases X with
    |cons X _=>exact hK _ _ ⟨ct,r1,r2,r3,r4,X,r6⟩
   .cases M
  cases x with
  |exit i=>cases L
  |normal=>exact s L
  |ret=>exact s L
 .cases d
theorem ND {P:Program}{b:List Inl}{d:Df (ui.shs ⟨vals,[],objs⟩)->Option (uk outs)}(i:eo P tab)(g:aa P b)
  (e: ∀t,HW P f ⟨tab,b⟩ vals objs outs at' t=d t):dw P ⟨f,vals,objs,outs,d⟩:=YW (tab:=⟨tab,b⟩) i g λt o h=>(e t).trans h
theorem YV {P:Program}{b:Df (ui.shs ⟨vals,[],objs⟩)->Option (uk outs)}(e:eo P tab)
  (d: ∀t,HW P f ⟨tab,[]⟩ vals objs outs at' t=b t):dw P ⟨f,vals,objs,outs,b⟩:=ND e (aa.nil P) d
theorem ap {P:Program}{d:List Inl}(ht:eo P tab)(U:aa P d):Sd P ⟨f,bi P f ⟨tab,d⟩ at'⟩:=by
 intro B μ Z w e cargs K X p Q;obtain⟨β,y,c,vals,k,D,N,z,b,M⟩:=X;subst D;simp only[bi]at b;split at b
 .rename_i h s;obtain⟨T,b⟩:=aw b;refine Ug s (br ⟨tab,d⟩) (Ei (tab:=⟨tab,d⟩) ht U) B μ c.Z w e cargs K ?_ p Q;have m:e.length<=h.ntmps:=by rw[<-z.length];exact aB T
  refine⟨m, ?_⟩;have g:=pN h.body at' (c:=c) N (KB z) b;refine fp (br ⟨tab,d⟩) h.body _ _ (λx C Z' hx=> ?_) _ _ g;obtain⟨A,j,E,F,u,I,n⟩:=hx;subst E
  have l:(match He A j.S h.results with
    |some t=>k (RL t) j.S
    |none=>Y)=O y->(match Im C j.Z h.results with
    |some vs=>K (zM vs) j.Z
    |none=>False):=by
   intro o;split at o
   .rename_i t r;obtain⟨us,J,L⟩:=J3 u I r;rw[J];exact M _ _ ⟨RL t,j,rfl,F,u,λq W V=>(V (KH W)).elim,PA L,o⟩
   .cases o
  cases x with
  |exit i=>cases n
  |normal=>exact l n
  |ret=>exact l n
 .cases b
def FV :List Alt:=[⟨.ret,[],⟨[.leaf .bool],[],[]⟩⟩]
def ur (Z:Hp):Ctx:=⟨λ_=>Y,[],Z,λ_=>False⟩
theorem SP {Z:Hp}(h:Z.Ok):dv (ur Z):=
 ⟨h,λk j b i _ _ _=>(by cases i),λk d e=>(by cases e),λk b e=>(e rfl).elim,λb g=>g.elim⟩
theorem FU {Z:Hp}(b:Nat): ¬(ur Z).mut b:=by
 rintro(⟨k,h,_⟩|h)
 .cases h
 .exact h
theorem X8 {P:Program}{n:Df (ui.shs ⟨vals,[],[]⟩)->Option (uk FV)}(h:dw P ⟨f,vals,[],FV,n⟩)(x:PU P w){g:List Value}{st:DSt}{t:Df (ui.shs ⟨vals,[],[]⟩)}
  (l: ∀r∈rows,∀(i:Nat) (v:Value),r.cells[i]?=O v->∃v',w.cell? ⟨r.c,r.o+i,Y⟩=O v'/\VR (mI rows) v v') (k:F2 (VR (mI rows)) g cargs.toList)
  (A:F2 (VRel (ur (lV w.heap.size rows))) vs g) (b:mG [] 0 [] ⟨vals,[],[]⟩ vs=O st) (y:PI _ st.ls=O t) (z:n t=O Za):
  Calls P f cargs w λe w'=>e= .returned (.bool Za)/\Go.RowKit.Below w.heap.size w w':=by
 have s:st.m=[]:=by
  unfold mG at b;obtain⟨B,D,b⟩:=ah b;obtain⟨u,E,b⟩:=ah b;obtain⟨d,j,b⟩:=ah b
  have:d=st:=by
   cases p:(Fz ([]++nT d.m)&&B4 ([]++jJ ([]:List OSk) d.m) d.lent)with
   |false=>rw[p]at b;cases b
   |true=>rw[p]at b;injection b
  subst this;simp only[tb]at j;cases p:Nat.beq 0 u.m.length with
  |false=>rw[p]at j;cases j
  |true=>
   rw[p]at j;injection j with j
   subst j;exact List.length_eq_zero_iff.1 (Nat.eq_of_beq_eq_true p).symm
 refine aC3 (S:=(FSum.mk f vals [] FV n).spec) h x l k ?_;refine⟨ur (lV w.heap.size rows),vs,st,t,Za,⟨⟨.ret,[],⟨[.leaf .bool],[],[]⟩⟩,Za⟩, .bool Za,[],[],cond (CB [.bool Za] [] []) (CG st.lent []) [],rfl,SP aq0,A,b,y,by rw[s];rfl,by rw[s];rfl,z,rfl,rfl,by rw[s];rfl, ?_⟩;rintro r Z' ⟨C,_,_,_,_,q,_⟩;exact q.bool_inv
end
section
theorem Wf {α γ:Type}{f:α->Option (α⊕γ)}(I:α->Prop)(m:α->Nat)(Q:γ->Prop)(h: ∀a,I a->(∃b,f a=O (.inl b)/\I b/\m b<m a)∨∃c,f a=O (.inr c)/\Q c): ∀(n:Nat) (a:α),I a->m a<n->∃c,aq f n a=O c/\Q c:=by
 intro n;induction n with
 |zero=>intro a _ d;omega
 |succ n k=>
  intro a j o;rcases h a j with⟨b,d,e,l⟩|⟨c,d,e⟩
  .obtain⟨c,g,i⟩:=k b e (by omega);exact⟨c,by rw[cb,d];exact g,i⟩
  .exact⟨c,by rw[cb,d];rfl,e⟩
theorem tj {α γ:Type}{f:α->Option (α⊕γ)}{a:α}(I:α->Prop)(m:α->Nat)(Q:γ->Prop)(d:I a)(e:m a<18446744073709551616)(h: ∀a,I a->(∃b,f a=O (.inl b)/\I b/\m b<m a)∨∃c,f a=O (.inr c)/\Q c): ∃c,aq f di a=O c/\Q c:=
 Wf I m Q h di a d e
theorem Uy {α γ:Type}{f:α->Option (α⊕γ)}{a:α}{c:γ}(I:α->Prop)(m:α->Nat)(d:I a)(j:m a<18446744073709551616)(h: ∀a,I a->(∃b,f a=O (.inl b)/\I b/\m b<m a)∨f a=O (.inr c)):aq f di a=O c:=by
 obtain⟨k,e,g⟩:=tj I m (· =c) d j λa i=>by
  rcases h a i with h|h
  .exact .inl h
  .exact .inr ⟨c,h,rfl⟩
 rw[e,g]
theorem ag {α:Type}{p:Prop}[Decidable p]{x y:α}:cond (decide p) x y=if p then x else y:=by by_cases h:p<;>simp[h]
theorem ci {β:Type}{x:Option β}:gd Za x=x:=rfl
theorem OW {β:Type}{p:Prop}[Decidable p]{x:Option β}(h:p):gd (decide p) x=x:=by rw[zB h];rfl
theorem bp {β:Type}{n b:Nat}{x:Option β}(h:n*b<=140737488355328)(d:1<=b):gd (fB n b) x=x:=by
 have:fB n b=Za:=by
  unfold fB;rw[zB h,Bool.true_and];exact Nat.ble_eq_true_of_le d
 rw[this];rfl
theorem cl {α:Type}{l:List α}{i:Nat}(h:i<l.length):rd l (i:Int)=O l[i]:=by
 unfold rd;rw[Zf,zC,Int.toNat_natCast,List.getElem?_eq_getElem h]
theorem ad {n:Int}(h: -9223372036854775808<=n/\n<=9223372036854775807):IntKind.i64.wrap n=n:=IntWalk.i64_in _ h
theorem Zi {n:Int}(h: -9223372036854775808<=n/\n<=9223372036854775807:=by omega):IntKind.i64.wrap n=n:=ad h
theorem iw {α γ β:Type}{a:α}{f:α->Option β}{g:γ->Option β}:bk (.inl a) f g=f a:=rfl
theorem ck {α γ β:Type}{a:γ}{f:α->Option β}{g:γ->Option β}:bk (.inr a) f g=g a:=rfl
theorem IG.lst {k:IntKind}{a:Option Addr}{b d:Nat}{e:Zd}{j:Nat}(h:IG k w a b d e)(t:rows[j]?=O (Hf k a d e)):
  VRel (ur (lV w.heap.size rows)) (.lst (.int k) (e.take b)) (YX j a b d):=by
 rcases h with⟨rfl,rfl,rfl,rfl⟩|⟨x,rfl,s,q,g,p,y⟩
 .exact .lstn λz g=>by cases g
 .by_cases r:d=0
  .have:b=0:=by omega
   subst r;subst this;have:e.take 0=([]:Zd):=rfl;rw[this];exact .lstn λz g=>by injection g with g;rw[<-g]
  .have i:0<e.length:=by omega
   have o:x.block<w.heap.size:=OF (x:=⟨x.block,x.off+0,Y⟩) (yl (EX (p 0 i)) (p 0 i))
   have q:(lV w.heap.size rows).m j=O ⟨e.map (Value.int k),Zb,1⟩:=by
    simp only[lV,t,zG,Hf,zE o]
   refine .lst (FU j) q rfl (by rw[List.length_take];omega) s ?_ ?_
   .simp only[List.length_map,Nat.zero_add];show b*1<=e.length;omega
   .rw[List.drop_zero];show F2 _ _ ((e.map (Value.int k)).take (b*1));rw[Nat.mul_one,<-List.map_take];generalize e.take b=l;induction l with
    |nil=>exact .nil
    |cons n l u=>exact .cons (.int _ _) u
end
section
def DU (a:AFn)(tab:Tab)(vals:List Sk)(objs:List OSk)(outs:List Alt)(at':AT)(t:Df (ui.shs ⟨vals,[],objs⟩)):Option (uk outs):=
 match pp id ⟨vals,[],objs⟩ (RG _ t)with
 |some (vs,_,S)=>gd (Nat.ble vs.length a.ntmps) (eval tab a.body at' (uk outs) vs S λx e S'=>match x with
  | .exit _=>Y
  |_=>(match He e S' a.results with
   |some b=>vZ S' S.length (tf objs 0) (λ_=>[RL b]) (λ_=>Za) outs
   |none=>Y))
 |_=>Y
theorem MO {P:Program}{u:AFn}{tab:Tab}{C:Df (ui.shs ⟨vals,[],objs⟩)->Option (uk outs)}(ht:eo P tab.fs)(hi:aa P tab.is)(htr:RJ P f=O u)(E: ∀t:Df (ui.shs ⟨vals,[],objs⟩),∃r,pp id ⟨vals,[],objs⟩ (RG _ t)=O r)
  (he: ∀t o vs fs S,C t=O o->pp id ⟨vals,[],objs⟩ (RG _ t)=O (vs,fs,S)->∀(c:Ctx) d,F2 (VRel c) vs d->
   ∃b,DU ⟨u.ntmps,u.results,b⟩ tab vals objs outs at' t=O o/\∀T (_:rk T) Q Z,vL T b Q (cf.of d) Z->vL T u.body Q (cf.of d) Z):dw P ⟨f,vals,objs,outs,C⟩:=by
 intro B μ Z w d cargs K hs hR0 ha;obtain⟨c,vals',N,t,o,p,v,fs,bs,S',h1,hR,hf,e,hl,n,L,M,hp,g,hS,hK⟩:=hs;subst h1;have htl:RG (ui.shs ⟨vals,[],objs⟩) t=N.ls:=EQ hl;cases j:pp id ⟨vals,[],objs⟩ (RG (ui.shs ⟨vals,[],objs⟩) t)with
 |none=>
  obtain⟨r,q⟩:=E t;rw[j]at q;cases q
 |some tr=>
 obtain⟨vs,X,S0⟩:=tr;refine Ug htr (br tab) (Ei ht hi) B μ c.Z w d cargs K ?_ hR0 ha;have s:=j;rw[htl]at j;obtain⟨hE,z⟩:=enter hR rfl e j hf;obtain⟨bd,h,F⟩:=he t o vs X S0 M s _ _ z;unfold DU at h;rw[s]at h;obtain⟨hg,h⟩:=aw h;have I:d.length<=u.ntmps:=by rw[<-z.length];exact Nat.le_of_ble_eq_true hg
 refine⟨I,F _ (br tab) _ _ ?_⟩;obtain⟨l1,l2⟩:=hE.len;have y:=pN bd at' (c:=lH c N S0) hE.rel (KB z) h;refine fp (br tab) bd _ _ (λx ea Z' hx=> ?_) _ _ y;obtain⟨e',U,h2,h3,h4,h5,h6⟩:=hx;subst h2
 have D:(match He e' U.S u.results with
   |some rs=>vZ U.S S0.length (tf objs 0) (λ_=>[RL rs]) (λ_=>Za) outs
   |none=>Y)=O o->(match Im ea U.Z u.results with
   |some vs=>K (zM vs) U.Z
   |none=>False):=by
  intro h7;split at h7
  .rename_i rs hrs;obtain⟨us,h8,h9⟩:=J3 h4 h5 hrs;rw[h8];simp only;obtain⟨p',V,_,q3⟩:=EC h7;simp only at hp;rw[hp]at V;injection V with V
   subst V;obtain⟨hro,st',q4,q5⟩:=HQ q3;obtain⟨W,_⟩:=po e;have J:=pj W;rw[List.nil_append]at J;simp only at g hS n L;rw[q5]at g
   have A: ∀(i:Nat) (o:OSk) (x:Src),objs[i]?=O o->o.ro=Za->N.m[i]?=O (O x)->x.k∈N.lent:=by
    intro i o x g1 g2 g3;unfold mG at e;obtain⟨st1,d1,e⟩:=ah e;obtain⟨st2,d2,e⟩:=ah e;obtain⟨l,d3,e⟩:=ah e
    have:l=N:=by
     cases hb:(Fz ([]++nT l.m)&&B4 ([]++jJ (FSum.ins ⟨f,vals,objs,outs,C⟩).free l.m) l.lent)with
     |false=>rw[hb]at e;cases e
     |true=>rw[hb]at e;injection e
    subst this;exact Pl d3 i o x g1 g2 (by rw[Nat.zero_add];exact g3)
   obtain⟨ct,r1,r2,r3,r4,r5,r6⟩:=LD hR rfl hE h3 h4 n L J A hro (by rw[<-l1];exact q4) g (.cons (PA h9) .nil) hS;cases r5 with
   |cons r5 _=>exact hK _ _ ⟨ct,r1,r2,r3,r4,r5,r6⟩
  .cases h7
 cases x with
 |exit i=>cases h6
 |normal=>exact D h6
 |ret=>exact D h6
def SB (es bytes:Nat)(z:List Value)(c:AOp)(n:AOp):AC:=
 .seq (.region [⟨O 2, .move (.const (.slice Y 0 0)),Y⟩]) (.seq (.seq (.region [⟨O 3, .move (.tmp 0),Y⟩,⟨O 4,c,Y⟩]) (.cond (.tmp 4) (.seq (.region [⟨O 2,n,Y⟩]) .ret) .skip))
  (.seq (.region [⟨O 5, .buildSlice es 0 z [],Y⟩,⟨O 6, .move (.tmp 0),Y⟩,⟨O 7, .append es bytes (.tmp 5) (.tmp 6),Y⟩,⟨O 2, .move (.tmp 7),Y⟩]) .ret))
def OK (es bytes:Nat)(z:List Value):AFn:=⟨8,[.tmp 2],SB es bytes z (.eqv 2 Zb (.tmp 3) (.const (.slice Y 0 0))) (.move (.const (.slice Y 0 0)))⟩
def af9 (es bytes:Nat)(z:List Value):AFn:=⟨8,[.tmp 2],SB es bytes z (.move (.const (.bool Zb))) (.move (.const (.slice Y 0 0)))⟩
def XB (es bytes:Nat)(z:List Value):AFn:=⟨8,[.tmp 2],SB es bytes z (.move (.const (.bool Za))) (.append es bytes (.const (.slice Y 0 0)) (.tmp 0))⟩
def ym (s:Sh):List Alt:=[⟨.ret,[],⟨[.full 0],[],[.arr Zb s]⟩⟩]
theorem DR {P:Program}{es bytes:Nat}{z:List Value}{s:Sh}(k:RJ P f=O (OK es bytes z))
  (r: ∀t:Df (ui.shs ⟨[.leaf (.list s)],[],[]⟩),pp id ⟨[.leaf (.list s)],[],[]⟩ (RG _ t)=O ([.lst s t],[],[]))
  (u: ∀l:List (El s),DU (af9 es bytes z) ⟨[],[]⟩ [.leaf (.list s)] [] (ym s) .no l=gd (fB (0+l.length) bytes) (O l))
  (x:DU (XB es bytes z) ⟨[],[]⟩ [.leaf (.list s)] [] (ym s) .no ([]:List (El s))=gd (fB (0+0) bytes) (O ([]:List (El s)))):
  dw P ⟨f,[.leaf (.list s)],[],ym s,λl:List (El s)=>gd (fB (0+l.length) bytes) (O l)⟩:=by
 refine MO (at':= .no) (tab:=⟨[],[]⟩) (eo.nil P) (aa.nil P) k (λt=>⟨_,r t⟩) λt o vs C S g e c d j=> ?_
 have m:vs=[.lst s t]:=by
  rw[r t]at e;injection e with e
  injection e with e
  exact e.symm
 subst m;cases j with
 |cons j B=>
 cases B
 have no: ∀q n i (d:List Value),d=[.slice (O q) n i]->∃b,DU ⟨(OK es bytes z).ntmps,(OK es bytes z).results,b⟩ ⟨[],[]⟩ [.leaf (.list s)] [] (ym s) .no t=O o/\
   ∀T (_:rk T) Q Z,vL T b Q (cf.of d) Z->vL T (OK es bytes z).body Q (cf.of d) Z:=by
  rintro q n i d rfl;exact⟨_,(u t).trans g,λT _ Q Z h=>h⟩
 cases j with
 | @lst s l b p n i y A D E F I J K=>exact no _ _ _ _ rfl
 | @lstn s q A=>
  cases q with
  |some q=>exact no _ _ _ _ rfl
  |none=>exact⟨_,x.trans g,λT _ Q Z h=>h⟩
theorem LH {P:Program}{d:Df (ui.shs ⟨vals,[],objs⟩)->Option (uk outs)}(h: ∀t,d t=Y):dw P ⟨f,vals,objs,outs,d⟩:=by
 intro B μ Z w g cargs K k;obtain⟨c,e,x,t,o,p,v,m,l,S',n,q,s,r,u,i,j,b,_⟩:=k;have b:d t=O o:=b;rw[h t]at b;cases b
end
open Go.Ab Go.ChangeShapes Go.WideShapes
section
theorem Wc {P:Program}{j:Df (ui.shs ⟨vals,[],[]⟩)->Option (uk FV)}(h:dw P ⟨f,vals,[],FV,j⟩)(m:PU P w){b:List Value}(t:Df (ui.shs ⟨vals,[],[]⟩))
  (g: ∀r∈rows,∀(i:Nat) (v:Value),r.cells[i]?=O v->∃v',w.cell? ⟨r.c,r.o+i,Y⟩=O v'/\VR (mI rows) v v') (d:F2 (VR (mI rows)) b cargs.toList)
  (q:F2 (VRel (ur (lV w.heap.size rows))) vs b) (n:((mG [] 0 [] ⟨vals,[],[]⟩ vs).bind λst=>PI _ st.ls)=O t) (p:j t=O Za):
  Calls P f cargs w λe w'=>e= .returned (.bool Za)/\Go.RowKit.Below w.heap.size w w':=by
 obtain⟨st,k,l⟩:=ah n;exact X8 h m g d q k l p
end
section
open Int renaming tmod -> aB, tmod_lt_of_pos -> aD
theorem FW {α δ:Type}{f:α->Option (α⊕δ)}{n:Nat}(F:Nat->α){c:δ}(o:n<9223372036854775808)(j: ∀i,i<n->f (F i)=O (.inl (F (i+1))))(h:f (F n)=O (.inr c)):aq f di (F 0)=O c:=by
 have b: ∀k i m,i+k=n->k<m->aq f m (F i)=O c:=by
  intro k;induction k with
  |zero=>
   intro i m e g;obtain⟨m,rfl⟩: ∃d,m=d+1:=⟨m-1,by omega⟩
   have:i=n:=by omega
   subst this;show(f (F i)).bind _=_;rw[h];rfl
  |succ k l=>
   intro i m e g;obtain⟨m,rfl⟩: ∃d,m=d+1:=⟨m-1,by omega⟩
   show(f (F i)).bind _=_;rw[j i (by omega)];exact l (i+1) m (by omega) (by omega)
 exact b n 0 di (by omega) (by unfold di;omega)
theorem fj {γ δ:Type}{f:(Int×γ)->Option ((Int×γ)⊕δ)}{n:Nat}(F:Nat->γ){c:δ}(d:n<9223372036854775808)(e: ∀i,i<n->f ((i:Int),F i)=O (.inl (((i+1:Nat):Int),F (i+1))))(b:f ((n:Int),F n)=O (.inr c)):aq f di (0,F 0)=O c:=
 FW (λi=>((i:Int),F i)) d e b
theorem pO {δ:Type}{f:Int->Option (Int⊕δ)}{n:Nat}{c:δ}(d:n<9223372036854775808)(e: ∀i:Nat,i<n->f (i:Int)=O (.inl ((i+1:Nat):Int)))(b:f (n:Int)=O (.inr c)):aq f di 0=O c:=
 FW (λi=>(i:Int)) d e b
theorem Ic {α γ δ:Type}{f:(Int×γ)->Option ((Int×γ)⊕δ)}{l:List α}(g:γ->α->γ)(s:γ){c:γ->δ}(j:l.length<9223372036854775807)
  (e: ∀(i:Nat) (h:i<l.length) s,f ((i:Int),s)=O (.inl (((i+1:Nat):Int),g s l[i]))) (d: ∀s,f ((l.length:Int),s)=O (.inr (c s))):aq f di (0,s)=O (c (l.foldl g s)):=by
 have h:=fj (f:=f) (n:=l.length) (λi=>(l.take i).foldl g s) (c:=c (l.foldl g s)) (by omega) ?_ ?_
 .exact h
 .intro i b;rw[e i b,List.take_succ_eq_append_getElem b,List.foldl_append];rfl
 .rw[d,List.take_length]
theorem Ma (n:Int):IntKind.u64.wrap n=n % 18446744073709551616:=by rfl
theorem uB {n:Nat}(h:n<9223372036854775808):IntKind.u64.wrap (n:Int)=n:=by
 rw[Ma];omega
theorem bl {n:Int}(h:0<=n/\n<18446744073709551616):IntKind.u64.wrap n=n:=by
 rw[Ma];omega
theorem Zk {n:Int}(h:0<=n/\n<18446744073709551616:=by omega):IntKind.u64.wrap n=n:=bl h
theorem zw {l:Zd}{i:Nat}(h:i<l.length):rd l (i:Int)=O (l.getD i 0):=by
 rw[cl h,List.getD_eq_getElem?_getD,List.getElem?_eq_getElem h];rfl
theorem bq {k n:Nat}(h:k<n):ix (k:Int) n=O k:=by
 unfold ix;rw[zB (show(0:Int)<=k by omega),zB (show(k:Int)<n by omega)];rfl
theorem fy {b:Int}{n:Nat}(h:0<=a/\a<=b/\b<=n):eY a b n=Za:=by
 unfold eY;rw[zB h.1,zB h.2.1,zB h.2.2];rfl
theorem Zl {b:Int}{n:Nat}(h:0<=a/\a<=b/\b<=n:=by omega):eY a b n=Za:=fy h
theorem U2 {b:Int}(h:0<=a):Int.tdiv a b=a / b:=Int.tdiv_eq_ediv_of_nonneg h
theorem spot {L:Nat}(d:0<L)(j:L<=1000000)(l: -9223372036854775808<=a/\a<=9223372036854775807): ∃k:Nat,k<L/\aB (IntKind.i64.wrap (aB a (L:Int)+(L:Int))) (L:Int)=(k:Int):=by
 have b:(0:Int)<(L:Int):=by omega
 have e:=aD a b;have g:=Int.lt_tmod_of_pos a b;rw[Zi];have h:=Int.tmod_nonneg (L:Int) (show 0<=aB a (L:Int)+(L:Int)by omega);have i:=aD (aB a (L:Int)+(L:Int)) b;exact⟨(aB (aB a (L:Int)+(L:Int)) (L:Int)).toNat,by omega,by omega⟩
end
section
open List renaming append_nil -> aD, append_assoc -> bB, getElem?_eq_getElem -> bD, getElem?_append_left -> cD, length_append -> cK, drop_zero -> cL, getElem?_append_right -> cM, length_cons -> cR, length_take -> cS, take_of_length_le -> cT
open Nat renaming beq -> aB, eq_of_beq_eq_true -> cB, le_refl -> cN, not_lt_zero -> cO, zero_add -> cP, zero_mul -> cQ, eq_zero_or_pos -> cU
open Option renaming map_some -> cV
def gR (w:World):(s:Sh)->List Value->El s->Prop
 | .int k,d,n=>d=[.int k n]/\(Lit.int k n).wf=Za
 | .bool,d,b=>d=[.bool b]
 | .str,d,l=> ∃s:ByteArray,d=[.string s]/\cw s=l/\s.size<=maxLen
 | .list s,d,l=>(d=[.slice Y 0 0]/\l=[])∨∃(a:Addr) (g e:Nat) (h:List (El s)),d=[.slice (O a) g e]/\g<=e/\e<=maxLen/\h.length=e/\l=h.take g/\
   ∀i y,h[i]?=O y->∃p,(∀j z,p[j]?=O z->w.cell? (a.add (i*s.w+j))=O z)/\gR w s p y
 | .pair a b,d,x=> ∃m o,d=m++o/\gR w a m x.1/\gR w b o x.2
theorem gR.len : ∀{s:Sh} {cs:List Value} {x:El s},gR w s cs x->cs.length=s.w
 | .int k,_,_,⟨h,_⟩=>by subst h;rfl
 | .bool,_,_,h=>by
  have h:_=[Value.bool _]:=h;subst h;rfl
 | .str,_,_,⟨s,h,_⟩=>by subst h;rfl
 | .list s,_,_,h=>by
  rcases h with⟨h,_⟩|⟨a,len,d,l,h,_⟩<;>subst h<;>rfl
 | .pair a b,_,_,⟨i,j,h,e,g⟩=>by
  subst h;rw[cK,e.len,g.len];rfl
def yf (w:World)(rows:List Row):Prop:= ∀r∈rows,∀(i:Nat) (v:Value),r.cells[i]?=O v->∃b,w.cell? ⟨r.c,r.o+i,Y⟩=O b/\VR (mI rows) v b
theorem Pm (rows d:List Row):(mI rows).le (mI (rows++d)):=by
 intro b g h;simp only[mI]at h⊢;cases e:rows[b]? with
 |none=>rw[e]at h;cases h
 |some r=>
  rw[e]at h;obtain⟨i,j⟩:=List.getElem?_eq_some_iff.1 e;rw[cD i,e];exact h
theorem US (g:Nat)(rows e:List Row):Le (ur (lV g rows)) (ur (lV g (rows++e))):=by
 have m: ∀k,ae ([]:ai) k= .dead:=λk=>by cases k<;>rfl
 refine⟨cN _,λk d h=>(cO _ h).elim,λk _ h=> ?_,λk d b y h=>(cO _ h).elim,λb y h _=> ?_,λb y _ _ h=>(FU b (.inl h)).elim, ?_,rfl⟩
 .rfl
 .simp only[ur,lV]at h⊢;cases i:rows[b]? with
  |none=>rw[i]at h;cases h
  |some r=>
   rw[i]at h;obtain⟨j,l⟩:=List.getElem?_eq_some_iff.1 i;rw[cD j,i];exact h
 .show rows.length<=(rows++e).length;rw[cK];omega
theorem W6 {μ b:Mu}(h:μ.le b){l m:List Value}(d:F2 (VR μ) l m):F2 (VR b) l m:=d.imp λ_ _ e=>e.mono h
theorem yf.app {b:List Row}(h:yf w rows)(j: ∀r∈b,∀(i:Nat) (v:Value),r.cells[i]?=O v->∃v',w.cell? ⟨r.c,r.o+i,Y⟩=O v'/\VR (mI (rows++b)) v v'):yf w (rows++b):=by
 intro r hr i v d;rcases List.mem_append.1 hr with hr|hr
 .obtain⟨v',e,g⟩:=h r hr i v d;exact⟨v',e,g.mono (Pm _ _)⟩
 .exact j r hr i v d
theorem ae5 (a:Addr)(i j:Nat):(a.add i).add j=a.add (i+j):=by
 unfold Addr.add;by_cases d:j=0
 .subst d;simp
 .by_cases b:i=0
  .subst b;simp
  .simp[b,d,Nat.add_assoc]
structure Built (w:World)(rows more:List Row)(acs cs:List Value)(vs:List VV):Prop where
 ok:yf w (rows++more)
 vr:F2 (VR (mI (rows++more))) acs cs
 vv:F2 (VRel (ur (lV w.heap.size (rows++more)))) vs acs
theorem Built.app {d g:List Row}{a1 a2 c1 c2:List Value}{h i:List VV}(e:Built w rows d a1 c1 h)(b:Built w (rows++d) g a2 c2 i):Built w rows (d++g) (a1++a2) (c1++c2) (h++i):=by
 refine⟨?_, ?_, ?_⟩
 .rw[<-bB];exact b.ok
 .rw[<-bB];exact(W6 (Pm _ _) e.vr).append b.vr
 .rw[<-bB];exact(VRel.frames (US _ _ _) e.vv).append b.vv
theorem Built.nil (h:yf w rows):Built w rows [] [] [] []:=⟨by rw[aD];exact h, .nil, .nil⟩
theorem Xv {w:World}{s:Sh}(t: ∀{cs:List Value} {x:El s},gR w s cs x->∀{rows:List Row},yf w rows->∃b e,Built w rows b e cs (dq s x))(a:Addr): ∀(m:List (El s)) (k:Nat),
  (∀i y,m[i]?=O y->∃l,(∀j z,l[j]?=O z->w.cell? (a.add ((k+i)*s.w+j))=O z)/\gR w s l y)->∀{rows:List Row},yf w rows->
  ∃b e g,Built w rows b e g (ff s m)/\g.length=m.length*s.w/\∀i z,g[i]?=O z->w.cell? (a.add (k*s.w+i))=O z
 |[],k,_,rows,h=>⟨[],[],[], .nil h,by simp,λi z d=>by simp at d⟩
 |y::m,k,r,rows,h=>by
  obtain⟨l,C,n⟩:=r 0 y rfl;obtain⟨L,u,q⟩:=t n h
  obtain⟨M,A,B,D,E,F⟩:=Xv t a m (k+1) (λi N o=>by
   obtain⟨p,I,J⟩:=r (i+1) N (by simpa using o)
   exact⟨p,λj z d=>by rw[show k+1+i=k+(i+1)by omega];exact I j z d,J⟩) q.ok
  refine⟨L++M,u++A,l++B, ?_, ?_,λi z d=> ?_⟩
  .have:=q.app D;rw[gf];exact this
  .rw[cK,E,n.len,cR,Nat.succ_mul];omega
  .have Q:=n.len;by_cases K:i<l.length
   .rw[cD K]at d;have:=C i z d
    rwa [Nat.add_zero]at this
   .rw[cM (by omega)]at d;have:=F _ z d;rw[show(k+1)*s.w+(i-l.length)=k*s.w+i by rw[Nat.succ_mul];omega]at this;exact this
theorem build {w:World}: ∀(s:Sh) {cs:List Value} {x:El s},gR w s cs x->∀{rows:List Row},yf w rows->∃S V,Built w rows S V cs (dq s x)
 | .int k,_,n,⟨h,_⟩,rows,A=>by
  subst h;exact⟨[],_,by rw[aD];exact A, .cons (.int _ _) .nil, .cons (.int _ _) .nil⟩
 | .bool,_,b,h,rows,A=>by
  have h:_=[Value.bool _]:=h;subst h;exact⟨[],_,by rw[aD];exact A, .cons (.bool _) .nil, .cons (.bool _) .nil⟩
 | .str,_,l,⟨s,h,C,_⟩,rows,A=>by
  subst h;exact⟨[],_,by rw[aD];exact A, .cons (.string _) .nil, .cons (.str C) .nil⟩
 | .pair a b,_,x,⟨c1,c2,h,I,C⟩,rows,A=>by
  subst h;obtain⟨q,B,J⟩:=build a I A;obtain⟨m2,a2,h4⟩:=build b C J.ok;exact⟨q++m2,B++a2,J.app h4⟩
 | .list s,_,l,h,rows,A=>by
  rcases h with⟨h,C⟩|⟨a,j,d,U,h,E,hcm,hyl,W,hy⟩
  .subst h;subst C;exact⟨[],_,by rw[aD];exact A, .cons .nils .nil, .cons (.lstn λz Q=>by cases Q) .nil⟩
  .subst h;obtain⟨q,B,c1,I,C,J⟩:=Xv (λu=>build s u) a U 0 (λi y h=>by rw[cP];exact hy i y h) A;have hw:=mM s;rw[hyl]at C;have K:B.length=d*s.w:=by rw[I.vr.length,C]
   let g:Row:=⟨a.block,a.off,d*s.w,s.w,B⟩
   have p:0<d->a.spot=Y/\a.block<w.heap.size:=by
    intro u;have F:0<c1.length:=by rw[C];exact Nat.mul_pos u hw
    have:=J 0 _ (bD F);rw[cQ,Nat.add_zero]at this;have t:=EX this;exact⟨t,OF (x:=⟨a.block,a.off+0,Y⟩) (yl t this)⟩
   have D: ∀(rs:List Row),(rows++(q++[g])++rs)[(rows++q).length]?=O g:=by
    intro rs;rw[<-bB,bB _ [g],cM (cN _),Nat.sub_self];rfl
   have N:(mI (rows++(q++[g]))).at (rows++q).length ⟨a.block,a.off,d*s.w,s.w,0,Y⟩:=by
    have:=D [];rw[aD]at this;refine⟨?_,rfl⟩;simp only[mI,this];rfl
   have X:yf w (rows++(q++[g])):=by
    rw[<-bB];refine I.ok.app λr hr' i v T=> ?_
    have:r=g:=by simpa using hr'
    subst this;obtain⟨v',q1,q2⟩:=I.vr.get i v T;have u:=J i v' q1;rw[cQ,cP]at u
    have L:0<d:=by
     rcases cU d with e|e
     .have T:B[i]?=O v:=T;obtain⟨hi,_⟩:=List.getElem?_eq_some_iff.1 T;rw[K,e,cQ]at hi;exact(cO _ hi).elim
     .exact e
    exact⟨v',yl (p L).1 u,q2.mono (Pm _ _)⟩
   refine⟨q++[g],[.slice (O ⟨(rows++q).length,0,Y⟩) j d],X, ?_, ?_⟩
   .refine .cons ?_ .nil;by_cases u:d=0
    .have:j=0:=by omega
     subst u;subst this;exact .slice0 _ N
    .have t:=(p (by omega)).1;obtain⟨b,o,sp⟩:=a;simp only at t;subst t;exact .slice (o:=0) N E (cN _) (by simp)
   .refine .cons ?_ .nil;by_cases u:d=0
    .have e:j=0:=by omega
     subst u;subst e;rw[W,List.take_zero];exact .lstn λz Q=>by injection Q with Q;rw[<-Q]
    .have F:=(p (by omega)).2
     have hm:(ur (lV w.heap.size (rows++(q++[g])))).Z.m (rows++q).length=O ⟨B,Zb,s.w⟩:=by
      have:=D [];rw[aD]at this;simp only[ur,lV,this,zG];exact zE F
     have M:l.length=j:=by rw[W,cS];omega
     refine .lst (FU _) hm rfl M.symm E ?_ ?_
     .show 0+j*s.w<=B.length;rw[K,cP];exact Nat.mul_le_mul_right _ E
     .show F2 _ _ ((B.drop 0).take (j*s.w));rw[cL,W]
      have h5:F2 (VRel (ur (lV w.heap.size (rows++(q++[g]))))) (ff s U) B:=by
       rw[<-bB];exact VRel.frames (US _ _ _) I.vv
      have h6:ff s (U.take j)=(ff s U).take (j*s.w):=kA;rw[h6];exact h5.take _
def A4 :List Sh->Sh
 |[]=> .bool
 |[a]=>a
 |a::b::r=> .pair a (A4 (b::r))
theorem QK {w:World}: ∀{l1 d:List Sh} {c1 c2:List Value},l1≠[]->d≠[]->(∃x,gR w (A4 l1) c1 x)->(∃x,gR w (A4 d) c2 x)->∃x,gR w (A4 (l1++d)) (c1++c2) x
 |[a],b::r,c1,c2,_,_,⟨x,e⟩,⟨y,g⟩=>⟨(x,y),c1,c2,rfl,e,g⟩
 |a::b::r,d,c1,c2,_,m,⟨x,h,i,j,e,g⟩,k=>by
  subst j;obtain⟨z,l⟩:=QK (l1:=b::r) (by simp) m ⟨x.2,g⟩ k;exact⟨(x.1,z),h,i++c2,by rw[bB],e,l⟩
def GK {α:Type}(P:Program)(r:TypeId->Option (List Sh))(e:α->TypeId)(b:α->Nat):List α->Nat->Option (List Sh)
 |[],_=>O []
 |f::l,o=>cond (aB (b f) o) (match r (e f)with
  |some (s::d)=>cond (aB (s::d).length (P.cellsOf (e f))) ((GK P r e b l (o+(s::d).length)).map ((s::d)++ ·)) Y
  |_=>Y) Y
def tg (P:Program):Nat->TypeId->Option (List Sh)
 |0,_=>Y
 |n+1,t=>match P.underlying t with
  |some (.int k)=>O [.int k]
  |some .bool=>O [.bool]
  |some .string=>O [.str]
  |some (.slice e)=>(match tg P n e with
   |some (s::b)=>cond (aB (s::b).length (P.cellsOf e)) (O [.list (A4 (s::b))]) Y
   |_=>Y)
  |some (.struct d)=>(match GK P (tg P n) Field.type Field.offset d.toList 0 with
   |some L=>cond (aB L.length (P.cellsOf t)) (O L) Y
   |none=>Y)
  |some (.array m e)=>(match GK P (tg P n) (λ_=>e) (λi=>i*P.cellsOf e) (List.range m) 0 with
   |some L=>cond (aB L.length (P.cellsOf t)) (O L) Y
   |none=>Y)
  |_=>Y
section
variable {H:Type} {enc:TypeId×Value->H} {P:Program} {w:World} {base:Nat} {held:Bool}
theorem D6 {α:Type}{n m:Nat}{d:α->TypeId}{b:α->Nat}(B: ∀{t:TypeId} {l:List Sh} {cs:List Value} {x:DataW H×List MemPlace},tg P n t=O l->l≠[]->DataW.trod enc P w base (λ_=>Za) held m t cs=O x->∃y,gR w (A4 l) cs y){cs:List Value}:
  ∀(e:List α) (o:Nat) (L:List Sh),GK P (tg P n) d b e o=O L->L≠[]->(∀(i:Nat) (f:α),e[i]?=O f->∃x,DataW.trod enc P w base (λ_=>Za) held m (d f) ((cs.drop (b f)).take (P.cellsOf (d f)))=O x)->
   ∃y,gR w (A4 L) ((cs.drop o).take L.length) y
 |[],o,L,h,k,_=>by
  injection h with h
  exact(k h.symm).elim
 |f::e,o,L,h,k,z=>by
  obtain⟨y,A⟩:=z 0 f rfl;simp only[GK]at h;cases p:aB (b f) o with
  |false=>rw[p]at h;cases h
  |true=>
   have p:=cB p;subst p;rw[Nat.beq_refl,zC]at h;cases r:tg P n (d f)with
   |none=>rw[r]at h;cases h
   |some l=>
    rw[r]at h;cases l with
    |nil=>cases h
    |cons s C=>
     simp only at h;cases j:aB (s::C).length (P.cellsOf (d f))with
     |false=>rw[j]at h;cases h
     |true=>
      rw[j,zC]at h;have j:=cB j;rw[<-j]at A;have u:=B r (by simp) A;cases q:GK P (tg P n) d b e (b f+(s::C).length)with
      |none=>rw[q]at h;cases h
      |some L2=>
       rw[q,cV]at h;injection h with h
       subst h;rw[cK,List.take_add,List.drop_drop];cases L2 with
       |nil=>
        rw[List.length_nil,List.take_zero,aD,aD];exact u
       |cons F E=>exact QK (by simp) (by simp) u (D6 B e _ _ q (by simp) λi g D=>z (i+1) g (by simpa using D))
theorem NA {β:Type}{p:Nat->β->Prop}: ∀(n:Nat),(∀i,i<n->∃y,p i y)->∃d:List β,d.length=n/\∀i y,d[i]?=O y->p i y
 |0,_=>⟨[],rfl,λi y h=>by simp at h⟩
 |n+1,h=>by
  obtain⟨d,j,k⟩:=NA n λi g=>h i (by omega)
  obtain⟨y,l⟩:=h n (by omega);refine⟨d++[y],by simp[j],λi z b=> ?_⟩;by_cases g:i<d.length
  .rw[cD g]at b;exact k i z b
  .rw[cM (by omega)]at b
   have:i-d.length=0:=by
    rcases cU (i-d.length)with e|e
    .exact e
    .rw[List.getElem?_eq_none (by simp;omega)]at b;cases b
   rw[this]at b;injection b with b
   subst b;have:i=n:=by omega
   subst this;exact l
theorem Vy {a:Addr}{c:Nat}{b:List Value}(h:w.cells? base a c=O b):b.length=c/\∀j z,b[j]?=O z->w.cell? (a.add j)=O z:=by
 unfold World.cells? at h;split at h
 .have e:=mapM_some_length h;rw[List.length_range]at e;refine⟨e,λj z g=> ?_⟩
  have d:j<c:=by
   obtain⟨d,_⟩:=List.getElem?_eq_some_iff.1 g;omega
  have:=mapM_some_get h j j (by simp[d]);rw[this,g]
 .cases h
theorem Yp : ∀(l:List Sh),l≠[]->(∀s∈l,s.w=1)->(A4 l).w=l.length
 |[a],_,h=>h a (by simp)
 |a::b::r,_,h=>by
  show a.w+(A4 (b::r)).w=_;rw[h a (by simp),Yp (b::r) (by simp) λs d=>h s (List.mem_cons_of_mem _ d),cR (as:=b::r)];omega
theorem OR {α:Type}{n:Nat}{e:α->TypeId}{b:α->Nat}(m: ∀{t:TypeId} {l:List Sh},tg P n t=O l->∀s∈l,s.w=1): ∀(d:List α) (o:Nat) (L:List Sh),GK P (tg P n) e b d o=O L->∀s∈L,s.w=1
 |[],o,L,h=>by
  injection h with h
  subst h;intro s r;cases r
 |f::d,o,L,h=>by
  simp only[GK]at h;cases j:aB (b f) o with
  |false=>rw[j]at h;cases h
  |true=>
   rw[j,zC]at h;cases i:tg P n (e f)with
   |none=>rw[i]at h;cases h
   |some l=>
    rw[i]at h;cases l with
    |nil=>cases h
    |cons s p=>
     simp only at h;cases k:aB (s::p).length (P.cellsOf (e f))with
     |false=>rw[k]at h;cases h
     |true=>
      rw[k,zC]at h;cases g:GK P (tg P n) e b d (o+(s::p).length)with
      |none=>rw[g]at h;cases h
      |some L2=>
       rw[g,cV]at h;injection h with h
       subst h;intro q hq;rcases List.mem_append.1 hq with hq|hq
       .exact m i q hq
       .exact OR m d _ _ g q hq
theorem OT : ∀(n:Nat) {t:TypeId} {l:List Sh},tg P n t=O l->∀s∈l,s.w=1
 |0,t,l,h=>by cases h
 |n+1,t,l,h=>by
  have one: ∀{a:Sh},a.w=1->O [a]=O l->∀s∈l,s.w=1:=by
   intro a i e;injection e with e
   subst e;intro s g;rw[List.mem_singleton]at g;subst g;exact i
  simp only[tg]at h;split at h
  .exact one rfl h
  .exact one rfl h
  .exact one rfl h
  .split at h
   .rename_i e m x s j k;cases b:aB (s::j).length (P.cellsOf e)with
    |false=>rw[b]at h;cases h
    |true=>rw[b,zC]at h;exact one rfl h
   .cases h
  .split at h
   .rename_i L d;cases b:aB L.length (P.cellsOf t)with
    |false=>rw[b]at h;cases h
    |true=>
     rw[b,zC]at h;injection h with h
     subst h;exact OR (λh=>OT n h) _ _ _ d
   .cases h
  .split at h
   .rename_i L d;cases b:aB L.length (P.cellsOf t)with
    |false=>rw[b]at h;cases h
    |true=>
     rw[b,zC]at h;injection h with h
     subst h;exact OR (λh=>OT n h) _ _ _ d
   .cases h
  .cases h
theorem Cc : ∀(n:Nat) {m:Nat} {t:TypeId} {l:List Sh} {cs:List Value} {x:DataW H×List MemPlace},tg P n t=O l->l≠[]->DataW.trod enc P w base (λ_=>Za) held m t cs=O x->∃y,gR w (A4 l) cs y
 |0,m,t,l,cs,x,h,_,_=>by cases h
 |n+1,m,t,l,cs,x,h,M,B=>by
  simp only[tg]at h;split at h
  .rename_i k g;injection h with h
   subst h;obtain⟨a,o,_,T⟩:=DataW.trod_int g B;exact⟨a,o,T⟩
  .rename_i g;injection h with h
   subst h;obtain⟨a,o,_⟩:=DataW.trod_bool g B;exact⟨a,o⟩
  .rename_i g;injection h with h
   subst h;obtain⟨a,o,_,T⟩:=DataW.trod_string g B;exact⟨_,a,o,rfl,T⟩
  .rename_i e g;split at h
   .rename_i s C hr;cases b:aB (s::C).length (P.cellsOf e)with
    |false=>rw[b]at h;cases h
    |true=>
     rw[b,zC]at h;injection h with h
     subst h;have b:=cB b;have hw:(A4 (s::C)).w=P.cellsOf e:=by rw[Yp _ (by simp) (OT n hr),b]
     rcases DataW.trod_slice g B with⟨o,_⟩|⟨a,d,p,U,rest,Q,_,o,_,hb,hlc,V,hel,he,u⟩
     .exact⟨([]:List (El (A4 (s::C)))), .inl ⟨o,rfl⟩⟩
     .have J: ∀i,i<p->∃y:El (A4 (s::C)),∃S,(∀j z,S[j]?=O z->w.cell? (a.add (i*(A4 (s::C)).w+j))=O z)/\gR w (A4 (s::C)) S y:=by
       intro i K
       have A: ∃q,(w.cells? base (a.add (i*P.cellsOf e)) (P.cellsOf e)).bind (DataW.trod enc P w base (λ_=>Za) held Q e)=O q:=by
        by_cases Z:i<d
        .rw[he i Z];exact⟨_,bD (by omega)⟩
        .obtain⟨h8,r⟩:=u.1 rfl;have:=r (i-d) (by omega);rw[show d+(i-d)=i by omega]at this;rw[this];exact⟨_,bD (by omega)⟩
       obtain⟨q,hq⟩:=A;obtain⟨S,D,F⟩:=ah hq;obtain⟨y,I⟩:=Cc n hr (by simp) F;obtain⟨h4,h5⟩:=Vy D;exact⟨y,S,λj z hz=>by rw[hw,<-ae5];exact h5 j z hz,I⟩
      obtain⟨ys,h6,h7⟩:=NA p J;exact⟨ys.take d, .inr ⟨a,d,p,ys,o,hlc,V,h6,rfl,h7⟩⟩
   .cases h
  .rename_i fs g;split at h
   .rename_i L W;cases b:aB L.length (P.cellsOf t)with
    |false=>rw[b]at h;cases h
    |true=>
     rw[b,zC]at h;injection h with h
     subst h;have b:=cB b;obtain⟨xs,Q,_,_,hl,N,hx⟩:=DataW.trod_struct g B
     have:=D6 (cs:=cs) (λD F I=>Cc n (m:=Q) D F I) fs.toList 0 _ W M λi f K=>by
      have X:fs[i]?=O f:=by rw[<-Array.getElem?_toList];exact K
      have:=hx i f X;rw[this]
      have:i<xs.length:=by
       obtain⟨r,_⟩:=List.getElem?_eq_some_iff.1 K;rw[N];simpa using r
      exact⟨_,bD this⟩
     rw[cL,cT (by omega)]at this;exact this
   .cases h
  .rename_i k e g;split at h
   .rename_i L W;cases b:aB L.length (P.cellsOf t)with
    |false=>rw[b]at h;cases h
    |true=>
     rw[b,zC]at h;injection h with h
     subst h;have b:=cB b;obtain⟨xs,Q,_,_,hl,N,hx⟩:=DataW.trod_array g B
     have:=D6 (cs:=cs) (λD F I=>Cc n (m:=Q) D F I) (List.range k) 0 _ W M λi f K=>by
      obtain⟨r,E⟩:=List.getElem?_eq_some_iff.1 K;rw[List.getElem_range]at E;subst E;have r:i<k:=by simpa using r
      have:=hx i r;rw[this];exact⟨_,bD (by omega)⟩
     rw[cL,cT (by omega)]at this;exact this
   .cases h
  .cases h
end
def isAgg (P:Program)(t:TypeId):Bool:=match P.underlying t with
 |some (.struct _)|some (.array _ _)=>Za
 |_=>Zb
def Gg (w:World):(b:Bool)->(s:Sh)->Value->El s->Prop
 |true,s,v,x=> ∃d,v= .agg d/\gR w s d.toList x
 |false,s,v,x=>gR w s [v] x
theorem QW {H:Type}{enc:TypeId×Value->H}{P:Program}{base:Nat}{held:Bool}{n:Nat}{t:TypeId}{l:List Sh}{r:Reach}{b0:Nat}{d:DataW H}{z:List MemPlace}(j:tg P n t=O l)(o:l≠[])
  (b:Value.okWide P w r b0 t v) (u:DataW.Trod enc P w base (λ_=>Za) held t v d z): ∃x:El (A4 l),Gg w (isAgg P t) (A4 l) v x:=by
 obtain⟨p,y⟩:=u;obtain⟨x,m⟩:=Cc n j o y;refine⟨x, ?_⟩
 have h:isAgg P t=Zb->(∀i,v≠ .agg i)->Gg w (isAgg P t) (A4 l) v x:=by
  intro q s;rw[q]
  have:v.cells.toList=[v]:=by
   unfold Value.cells;split
   .rename_i i;exact(s i rfl).elim
   .rfl
  rw[this]at m;exact m
 cases n with
 |zero=>cases j
 |succ n=>
  simp only[tg]at j;split at j
  .rename_i k g;refine h (by simp[isAgg,g]) λi e=> ?_
   subst e;simp[Value.okWide,g,Cell.okWide,Cell.ok]at b
  .rename_i g;refine h (by simp[isAgg,g]) λi e=> ?_
   subst e;simp[Value.okWide,g,Cell.okWide,Cell.ok]at b
  .rename_i g;refine h (by simp[isAgg,g]) λi e=> ?_
   subst e;simp[Value.okWide,g,Cell.okWide,Cell.ok]at b
  .rename_i e g;refine h (by simp[isAgg,g]) λi e=> ?_
   subst e;simp[Value.okWide,g,Cell.okWide,Cell.ok]at b
  .rename_i A g;simp only[Value.okWide,g]at b;obtain⟨i,rfl,_,_⟩:=b;rw[show isAgg P t=Za by simp[isAgg,g]];exact⟨i,rfl,m⟩
  .rename_i k e g;simp only[Value.okWide,g]at b;obtain⟨i,rfl,_,_⟩:=b;rw[show isAgg P t=Za by simp[isAgg,g]];exact⟨i,rfl,m⟩
  .cases j
@[reducible] def All :List (Bool×Sh)->Type
 |[]=>Unit
 |[k]=>El k.2
 |k::b::r=>El k.2×All (b::r)
def N1 (w:World):(e:List (Bool×Sh))->List Value->All e->Prop
 |[],vs,_=>vs=[]
 |[k],vs,x=> ∃v,vs=[v]/\Gg w k.1 k.2 v x
 |k::d::r,vs,x=> ∃v b,vs=v::b/\Gg w k.1 k.2 v x.1/\N1 w (d::r) b x.2
def ay5 (k:Bool×Sh)(x:El k.2):VV:=cond k.1 (.agg (dq k.2 x)) ((dq k.2 x).headD .undef)
def Xj :(d:List (Bool×Sh))->All d->List VV
 |[],_=>[]
 |[k],x=>[ay5 k x]
 |k::b::r,x=>ay5 k x.1::Xj (b::r) x.2
theorem MY {k:Bool×Sh}{x:El k.2}(h:Gg w k.1 k.2 v x)(i:yf w rows): ∃d j,Built w rows d [j] [v] [ay5 k x]:=by
 obtain⟨b,s⟩:=k;cases b with
 |true=>
  obtain⟨y,rfl,m⟩:=h;obtain⟨d,g,e⟩:=build s m i;exact⟨d, .agg g.toArray,e.ok, .cons (.agg (by simpa using e.vr)) .nil, .cons (.agg (by simpa using e.vv)) .nil⟩
 |false=>
  obtain⟨d,g,e⟩:=build s h i;have n:=e.vr;have o:=e.vv;cases n with
  | @cons a _ u _ p q=>
   cases q;refine⟨d,a,e.ok, .cons p .nil, ?_⟩;show F2 _ [(dq s x).headD .undef] _;generalize dq s x=l at*;cases o with
   |cons r t=>
    cases t;exact .cons r .nil
theorem KM {w:World}: ∀(l:List (Bool×Sh)) {vs:List Value} {x:All l},N1 w l vs x->∀{rows:List Row},yf w rows->∃b d,Built w rows b d vs (Xj l x)
 |[],vs,x,h,rows,e=>by
  have h:vs=[]:=h;subst h;exact⟨[],[], .nil e⟩
 |[k],vs,x,⟨v,h,i⟩,rows,e=>by
  subst h;obtain⟨b,g,j⟩:=MY i e;exact⟨b,[g],j⟩
 |k::o::r,vs,x,⟨v,s,h,i,j⟩,rows,e=>by
  subst h;obtain⟨p,g,m⟩:=MY i e;obtain⟨q,d,n⟩:=KM (o::r) j m.ok;exact⟨p++q,g::d,m.app n⟩
def inK (k:IntKind)(n:Int):Prop:=match k with
 | .i64=> -9223372036854775808<=n/\n<=9223372036854775807
 | .u64=>0<=n/\n<=18446744073709551615
 | .u8=>0<=n/\n<=255
 |_=>True
theorem aB7 {k:IntKind}{n:Int}(h:(Lit.int k n).wf=Za):inK k n:=by
 cases k<;>first|trivial|exact aG0 h|exact aG1 h|exact aN2 h
def Vh :(s:Sh)->El s->Prop
 | .int k,n=>inK k n
 | .bool,_=>True
 | .str,l=>l.length<=9223372036854775807/\∀n∈l,0<=n/\n<=255
 | .list s,l=>l.length<=9223372036854775807/\∀x∈l,Vh s x
 | .pair a b,x=>Vh a x.1/\Vh b x.2
theorem gR.fine : ∀{s:Sh} {cs:List Value} {x:El s},gR w s cs x->Vh s x
 | .int k,_,_,⟨_,h⟩=>aB7 h
 | .bool,_,_,_=>trivial
 | .str,_,_,⟨s,_,h,g⟩=>by
  subst h;refine⟨?_,λn j=> ?_⟩
  .unfold cw;rw[List.length_map];unfold maxLen at g;simpa using g
  .unfold cw at j;obtain⟨b,_,rfl⟩:=List.mem_map.1 j;have:=b.toNat_lt;omega
 | .list s,_,l,h=>by
  rcases h with⟨_,h⟩|⟨a,z,m,C,_,t,d,y,r,u⟩
  .subst h;exact⟨Nat.zero_le _,λx e=>by cases e⟩
  .subst r;refine⟨by rw[cS];unfold maxLen at d;omega,λx e=> ?_⟩;obtain⟨i,q,rfl⟩:=List.getElem_of_mem (List.mem_of_mem_take e);obtain⟨D,_,h⟩:=u i _ (bD q);exact h.fine
 | .pair a b,_,_,⟨A,B,_,o,p⟩=>⟨o.fine,p.fine⟩
theorem Gg.fine {b:Bool}{s:Sh}{x:El s}(h:Gg w b s v x):Vh s x:=by
 cases b with
 |true=>obtain⟨d,_,h⟩:=h;exact h.fine
 |false=>exact gR.fine h
theorem X7 {P:Program}{b:Df (ui.shs ⟨vals,[],[]⟩)->Option (uk FV)}(h:dw P ⟨f,vals,[],FV,b⟩)(l:PU P w)(d:List (Bool×Sh))(x:All d)(t:Df (ui.shs ⟨vals,[],[]⟩))
  (k:N1 w d cargs.toList x) (m:((mG [] 0 [] ⟨vals,[],[]⟩ (Xj d x)).bind λst=>PI _ st.ls)=O t) (i:b t=O Za):
  Calls P f cargs w λe w'=>e= .returned (.bool Za)/\Go.RowKit.Below w.heap.size w w':=by
 obtain⟨rows,j,g⟩:=KM d k (rows:=[]) (λr i=>by cases i);exact Wc h l t g.ok g.vr g.vv m i
end
end Go.V
