/- A part of the proof. No condition. -/
import Derived.Test.YtlaofmfngnkldaaGreatA10
import Derived.Test.YtlaofmfngnkldaaGreatA5
import Derived.IntWalk
import Derived.KernelRfl
import Derived.WideKeyArr2
import Derived.RowKit
import Derived.ProofKit
import Derived.OpenShut
import Derived.ChangeArms
import Derived.Below
set_option linter.all false
namespace Go.V
open Go.Ab
open Option renaming some->O,none->Z
open Bool renaming true->Za,false->Zb
open Decidable renaming decide->Zc
open List renaming all_eq_true->aG
open List renaming length_eq_zero_iff->aK
open List renaming mem_append->aF
open List renaming mem_cons->aA
open List renaming mem_flatMap->aL
open List renaming mem_map->aE
open List renaming mem_singleton->aI
open List renaming length->b8
open Option renaming bind->bA
variable {f:FuncId}{w:World}{vals:List Sk}{c:Ctx}{outs:List Alt}{objs:List OSk}{vs:List VV}{rows:List Row}{fx:List Nat}{at' t2 t3:AT}{v:Value}{S:ah}{tab:List FSum}{ins:List Inl}{sk:tR}{as:List Value}{cargs:Array Value}{es:Nat}
section
open Bool renaming and_eq_true->aB
open List renaming mem_cons_self->aD,mem_cons_of_mem->bD,mem_of_getElem?->cB
open Nat renaming zero_add->bB,eq_of_beq_eq_true->cD
section
variable {tab:Tab}
def SP {e:cn}{ea:bj}{t:Nat}{p:Bool}(b:ar c e ea)(g:iZ e t= .bool p):ar c (oA e t<|.bool p) ea:=by
 have a:=b t;rw[g]at a;have a:=a.bool_inv;intro i;rw[vN];by_cases d:i=t
 .subst d;rw[zE rfl,a];exact .bool _
 rw[zF d];exact b i
theorem FY {β:Type}{y:β}: ∀{s:List SItem} {c:Ctx} {e:cn} {ea:bj} {a:Fw} {ach:List<|Nat×(Hp->Prop)} {k:cn->ah->Option β},Rel c->ar c e ea->ChkRel c ach a->tB tab s a e c.S k=O y->QH (fQ tab) (mO c k y) s ach ea c.σ
 |[],c,e,ea,a,ach,k,z,m,B,h=>⟨e,c,rfl,Le.refl c,z,m,h⟩
 |it::r,c,e,ea,a,ach,k,z,m,B,h=>by
  have x: ∀i,ar c i ea->If tab it a i c.S (λd C S'=>tB tab r d C S' k)=O y->
    (if it.mover then bp (fQ tab) it.o.op ea c.σ (λv l=>xl it.chks l ach/\QH (fQ tab) (mO c k y) r ach (ea.putO it.o.dst v) l)
    else match it.o.op.run ea c.σ with
     |some (v,_)=>QH (fQ tab) (mO c k y) r (if it.keep then(it.idx,λl=>it.o.op.run ea l=O (v,l))::ach else ach) (ea.putO it.o.dst v) c.σ
     |none=>False):=by
   intro i j A;refine Xw (Q:=λb q l=>QH (fQ tab) (mO c k y) r b q l) z j B A λT b d C q F I J K L=> ?_
   exact Ew (ba tab) (λD N n=>n.of F) _ _ _ _ (FY I K J L)
  have skip: ∀i,ar c i ea->tB tab r a (putO i it.o.dst<|.tup []) c.S k=O y->QH (fQ tab) (mO c k y) r ach (ea.putO it.o.dst undef) c.σ:=λi j A=>FY z (j.putO<|.tup .nil) B A
  simp only[tB]at h;simp only[QH];split at h
  .rename_i hg;have:wanted it.o ea=Za:=by simp only[wanted,hg]
   rw[zE this];exact x e m h
  .rename_i t w hg;split at h
   .rename_i p n;have g:=m t;rw[n]at g;have g:=g.bool_inv;have M:wanted it.o ea=(p==w):=by simp only[wanted,hg,g]
    have E:=SP m n
    grind
   .rename_i n;have g:=m t;rw[n]at g
    have M:wanted it.o ea=Zb:=by
     simp only[wanted,hg];generalize ea t=u at g;cases g;rfl
    grind
   .cases h
def rG (as:List Nat)(e e':bj):Prop:= ∀t,t∉as->e' t=e t
def rG.refl (as:List Nat)(e:bj):rG as e e:=λ_ _=>rfl
def rG.put {as:List Nat}{e e':bj}{d:Option Nat}(h:rG as e e')(b: ∀t,t∈PL d->t∈as):rG as e<|e'.putO d v:=by
 intro t a;cases d with
 |none=>exact h t a
 |some d=>
  have:t≠d:=by rintro rfl;exact a (b t<|aI.2 rfl)
  simp only[bj.putO,bj.put,zF this];exact h t a
def Gm {T:Ab.gw}(b:pF T){Q:bj->Hp->Prop}{as:List Nat}{e0:bj}: ∀{ops:List AOper} {e:bj} {σ:Hp},(∀o,o∈ops->∀t,t∈PL o.dst->t∈as)->rG as e0 e->Ab.kM T Q ops e σ->Ab.kM T (λe' σ'=>rG as e0 e'/\Q e' σ') ops e σ
 |[],e,σ,_,a,h=>⟨a,h⟩
 |o::r,e,σ,d,a,h=>by
  simp only[Ab.kM]at h⊢;have g: ∀o,o∈r->∀t,t∈PL o.dst->t∈as:=λo i=>d o (bD _ i)
  split at h
  .rename_i hw;rw[zE hw];exact kX b (λv σ' j=>Gm b g (a.put<|d o aD) j) h
  .rename_i hw;rw[zF hw];exact Gm b g (a.put<|d o aD) h
def HG {T:Ab.gw}(g:pF T){Q:bj->Hp->Prop}{as:List Nat}{e0:bj}: ∀{b:List SItem} {a:List<|Nat×(Hp->Prop)} {e:bj} {σ:Hp},(∀o,o∈b->∀t,t∈PL o.o.dst->t∈as)->rG as e0 e->QH T Q b a e σ->QH T (λe' σ'=>rG as e0 e'/\Q e' σ') b a e σ
 |[],a,e,σ,_,d,h=>⟨d,h⟩
 |it::r,a,e,σ,i,d,h=>by
  simp only[QH]at h⊢;have j: ∀o,o∈r->∀t,t∈PL o.o.dst->t∈as:=λo m=>i o (bD _ m)
  split at h
  .rename_i hw;rw[zE hw];split at h
   .rename_i hm;rw[zE hm];exact kX g (λv σ' l=>⟨l.1,HG g j (d.put<|i it aD) l.2⟩) h
   .rename_i hm;rw[zF hm];split at h
    .exact HG g j (d.put<|i it aD) h
    .exact h.elim
  .rename_i hw;rw[zF hw];exact HG g j (d.put<|i it aD) h
def Rh {F G:Nat->Prop}(h: ∀m,F m->G m): ∀{l:List Nat},KV F l->KV G l
 |[],_=>trivial
 |[m],q=>h m q
 |m::a::r,q=>⟨h m q.1,Rh h q.2⟩
def Et {T:Ab.gw}(r:pF T){Q:bj->Hp->Prop}{as:List Nat}{e0:bj}{ops:List<|AOper×List Nat}(g: ∀o,o∈ops->∀t,t∈PL o.1.dst->t∈as): ∀(f:Nat) {D:List Nat} {d:List<|Nat×(Hp->Prop)} {e:bj} {σ:Hp},rG as e0 e->CK T Q ops f D d e σ->CK T (λe' σ'=>rG as e0 e'/\Q e' σ') ops f D d e σ
 |0,D,d,e,σ,n,h=>⟨n,h⟩
 |f+1,D,d,e,σ,n,h=>by
  simp only[CK]at h⊢;cases x:fG ops D with
  |some i=>
   rw[x]at h;simp only at h⊢;cases q:ops[i]? with
   |none=>rw[q]at h;exact h
   |some p=>
    have⟨o,u⟩:=p;rw[q]at h;have b:(o,u)∈ops:=cB q;simp only at h⊢;split at h
    .rename_i hw;rw[zE hw];split at h
     .rename_i v σ' s;exact Et r g f (n.put<|g _ b) h
     .exact h.elim
    .rename_i hw;rw[zF hw];exact Et r g f (n.put<|g _ b) h
  |none=>
   rw[x]at h;simp only at h⊢;cases s:br ops D with
   |nil=>rw[s]at h;exact⟨n,h⟩
   |cons a l=>
    rw[s]at h;simp only at h⊢;refine Rh (λm b=> ?_) h;cases q:ops[m]? with
    |none=>rw[q]at b;exact b
    |some p=>
     have⟨o,u⟩:=p;rw[q]at b;have j:(o,u)∈ops:=cB q;simp only at b⊢;split at b
     .rename_i hw;rw[zE hw];exact kX r (λv σ' z=>⟨z.1,Et r g f (n.put<|g _ j) z.2⟩) b
     .rename_i hw;rw[zF hw];exact Et r g f (n.put<|g _ j) b
theorem wg {T:Ab.gw}(l:pF T){as:List Nat}{e0:bj}: ∀(c:AC) {Q:AExit->bj->Hp->Prop} {e:bj} {σ:Hp},D8 c=Za->(∀t,t∈mQ c->t∈as)->rG as e0 e->rD T c Q e σ->rD T c (λx e' σ'=>rG as e0 e'/\Q x e' σ') e σ
 | .skip,_,_,_,_,_,d,h=>⟨d,h⟩
 | .exit _,_,_,_,_,_,d,h=>⟨d,h⟩
 | .ret,_,_,_,_,_,d,h=>⟨d,h⟩
 | .region A,Q,e,σ,_,g,d,h=>Gm l (λo s t j=>g t<|aL.2 ⟨o,s,j⟩) d h
 | .sched B,Q,e,σ,_,g,d,h=>HG l (λo s t j=>g t<|aL.2 ⟨o,s,j⟩) d h
 | .draw A,Q,e,σ,_,g,d,h=>Et l (λo s t j=>g t<|aL.2 ⟨o,s,j⟩) _ d h
 | .seq a b,Q,e,σ,m,g,d,h=>by
  simp only[D8,aB]at m;have r:=wg l a m.1 (λt j=>g t<|aF.2<|.inl j) d h;refine de l a _ _ (λx e' σ' z=> ?_) e σ r;obtain⟨p,q⟩:=z;cases x with
  |normal=>exact wg l b m.2 (λt j=>g t<|aF.2<|.inr j) p q
  |exit i=>exact⟨p,q⟩
  |ret=>exact⟨p,q⟩
 | .cond c a b,Q,e,σ,m,g,d,h=>by
  simp only[D8,aB]at m;simp only[rD]at h⊢;split at h
  .exact wg l a m.1 (λt j=>g t<|aF.2<|.inl j) d h
  .exact wg l b m.2 (λt j=>g t<|aF.2<|.inr j) d h
  .exact h.elim
 | .block id b,Q,e,σ,m,g,d,h=>by
  have r:=wg l b m g d h;refine de l b _ _ (λx e' σ' z=> ?_) e σ r
  grind
 | .loop b,Q,e,σ,m,g,d,h=>by
  obtain⟨n,u⟩:=h;refine⟨n, ?_⟩;induction n generalizing e σ with
  |zero=>exact u.elim
  |succ n C=>
   simp only[jN]at u⊢;have r:=wg l b m g d u;refine de l b _ _ (λx e' σ' z=> ?_) e σ r
   grind
def Ia {N:Nat}{vals:List VV}{t:B8 sk.shs}(h:Lj S N fx sk vals=O t):sk.noRo=Za/\∃st,mS S N fx sk vals=O st/\Qv sk.shs t=st.ls:=by
 unfold Lj at h;have⟨a,b⟩:=am h;have⟨st,d,g⟩:=ag b;exact⟨a,st,d,EU g⟩
def aa9 {N:Nat}{vals:List VV}{t:B8 sk.shs}(h:VA S N fx sk vals=O t):sk.fxRo=Za/\∃st,mS S N fx sk vals=O st/\Qv sk.shs t=st.ls:=by
 unfold VA at h;have⟨a,b⟩:=am h;have⟨st,d,g⟩:=ag b;exact⟨a,st,d,EU g⟩
def ED {S:ah}{N:Nat}{fx:List Nat}{vals:List Nat->List VV}{d:XK->Bool}: ∀{l:List Alt} {s:pI l},tx S N fx vals d l=O s->∃p,YQ l s=O p/\d p.1.x=Za/\Lj S N fx p.1.sk (vals p.1.ts)=O p.2
 |[],s,h=>by cases h
 |[a],s,h=>by
  simp only[tx]at h;cases g:d a.x with
  |false=>rw[g]at h;cases h
  |true=>rw[g]at h;exact⟨⟨a,s⟩,rfl,g,h⟩
 |a::b::r,s,h=>by
  simp only[tx]at h;split at h
  .rename_i t ht;cases h;cases g:d a.x with
   |false=>rw[g]at ht;cases ht
   |true=>rw[g]at ht;exact⟨⟨a,t⟩,rfl,g,ht⟩
  .obtain⟨q,j,i⟩:=ag h;cases i;have⟨p,m,n,o⟩:=ED j;exact⟨p,m,n,o⟩
def XK.is_out {x:XK}{y:AExit}(h:x.is y=Za):x.out=y:=by
 cases x<;>cases y<;>simp only[XK.is]at h<;>first|rfl|(cases h;done)|skip
 rename_i i j;rw[show(XK.exit i).out=AExit.exit i from rfl,cD h]
def Hr {c:Ctx}: ∀{ts:List Nat} {e:cn} {ea:bj} {vs:List VV},ar c e ea->F2 (VRel c) vs (ts.map ea)->ar c (SS e ts vs) ea
 |[],e,ea,vs,a,b=>by
  cases b;exact a
 |t::ts,e,ea,vs,a,b=>by
  cases b with
  |cons g h=>
   have:=Hr a h;intro i;simp only[SS,vN];by_cases d:i=t
   .subst d;rw[zE rfl];exact g
   .rw[zF d];exact this i
def EA {as:List Nat}{e:cn}{ea a:bj}(g:ar c e ea)(i:rG as ea a):ar c (mv e as) a:=by
 intro t;rcases uv (ts:=as) (e:=e) (t:=t)with h|⟨b,d⟩
 .rw[h];exact .undef _
 rw[d,i t b];exact g t
def Kh {c:Ctx}{e:cn}{ea:bj}(a:ar c e ea): ∀ts:List Nat,F2 (VRel c) (ts.map<|iZ e) (ts.map ea)
 |[]=> .nil
 |t::ts=> .cons (a t)<|Kh a ts
def PW {β:Type}{c1 g:Ctx}{e0:cn}{i b:bj}{mov d:List Nat}{a:List Alt}{s:pI a}{k:AExit->cn->ah->Option β}{y:β}{e':cn}{x:AExit}(U:Rel c)(r:ar c e0 i)(j:Rel g)(W:Within c c1 fx mov)(l:Rel c1)(u:Le c1 g)(z:JO c.S fx=Za)
  (t:rG d i b) (o:ar g e' b) (V:tx g.S (b8 c.S) fx (λts=>ts.map<|iZ e') (λy=>y.is x) a=O s) (h:ax9 e0 c.S fx mov d a s k=O y):mY c k y x b g.σ:=by
 have⟨p,L,M,N⟩:=ED V;have⟨A,X,Q,T⟩:=Ia N;unfold ax9 at h;rw[Px,L]at h;simp only[zG]at h;rw[XK.is_out M]at h;unfold HA at h;rw[T]at h;cases n:ot id p.1.sk X.ls with
 |none=>rw[n]at h;cases h
 |some q=>
  have⟨vs,B,D⟩:=q;rw[n]at h;simp only[Bool.false_or]at h;cases m:vX fx B (kl fx mov (CR vs B D) 0 c.S)with
  |none=>rw[m]at h;cases h
  |some S2=>
   rw[m]at h;have⟨E,F,I,C,J,K⟩:=az3 U j W l u z A Q n (Kh o _) m;refine⟨_,E,F,C,J,Hr (EA (r.frame C) t) K, ?_⟩;rw[I];exact h
theorem TV :qF S<|kl fx [] Za 0 S:=by
 refine⟨mt,λk=> ?_⟩;by_cases a:k<b8 S
 .rw[mr a];simp only[lB,zD,bB]
  grind
 rw[vV (by rw[mt];omega),vV V1];exact .inl rfl
def bk3 (c:Ctx)(e0:cn)(d:bj)(fx mov a:List Nat)(ts:List Nat)(sk:tR)(t:B8 sk.shs)(ea:bj)(σ:Hp):Prop:=
 ∃b g,b.σ=σ/\HA e0 c.S fx mov a Za ts sk t=O (g,b.S)/\Rel b/\ar b g ea/\Within c b fx mov/\rG a d ea
theorem My {e0 e1:cn}{S1:ah}{mov a ts:List Nat}{t:B8 sk.shs}(h:HA e0 S fx mov a Za ts sk t=O (e1,S1)): ∃vs b bs S',ot id sk (Qv sk.shs t)=O (vs,b,bs)/\vX fx b (kl fx mov Za 0 S)=O S'/\e1=SS (mv e0 a) ts vs/\S1=S'++bs:=by
 unfold HA at h
 grind
theorem Jh {ops:List<|AOper×List Nat}: ∀{r:List LItem} {b:LItem} {t:Nat},b∈r->Nat.beq b.kind 2=Za->(be ops b.i).dst=O t->t∈EM ops r
 |a::r,b,t,h,d,g=>by
  simp only[EM];rcases aA.1 h with rfl|h
  .rw[d,zC,g];exact aD
  .have:=Jh h d g
   grind
def dp {α γ:Type}(f:α->Option (α⊕γ))(n:Nat)(a:α):aq f (n+1) a=bA (f a) λs=>bz s (aq f n) O:=rfl
def IW {f:(AExit->bj->Hp->Prop)->bj->Hp->Prop}(d: ∀(Q Q':AExit->bj->Hp->Prop),(∀x e σ,Q x e σ->Q' x e σ)->∀e σ,f Q e σ->f Q' e σ){Q:AExit->bj->Hp->Prop}:
  ∀(n m:Nat) (e:bj) (σ:Hp),n<=m->jN f Q n e σ->jN f Q m e σ
 |0,_,_,_,_,h=>h.elim
 |n+1,0,_,_,a,_=>absurd a (Nat.not_succ_le_zero _)
 |n+1,m+1,e,σ,a,h=>by
  simp only[jN]at h⊢;refine d _ _ (λx g i b=> ?_) e σ h;cases x with
  |normal=>exact IW d n m g i (Nat.le_of_succ_le_succ a) b
  |exit id=>exact b
  |ret=>exact b
def Hb {b:AC}(g: ∀(at':AT) {β:Type} {y:β} {c:Ctx} {e:cn} {ea:bj} {k:AExit->cn->ah->Option β},Rel c->ar c e ea->eval tab b at' β e c.S k=O y->rD (fQ tab) b (mY c k y) ea c.σ):
  ∀(at':AT) {β:Type} {y:β} {c:Ctx} {e:cn} {ea:bj} {k:AExit->cn->ah->Option β},Rel c->ar c e ea->LU (eval tab b) at' β e c.S k=O y->jN (rD (fQ tab) b) (mY c k y) at'.rounds ea c.σ
 | .n l r,β,y,c,e,ea,k,a,d,h=>by
  simp only[LU]at h;have B:=g l a d h;simp only[AT.rounds,jN];refine de (ba tab) b _ _ (λx A I E=> ?_) ea c.σ B;have⟨t,s,C,j,o,p,q⟩:=E;subst C;cases x with
  |normal=>exact zT (de (ba tab) b) (λx u F D=>mO.of j D) _ _ _ (Hb g r o p q)
  |exit i=>exact⟨t,s,rfl,j,o,p,q⟩
  |ret=>exact⟨t,s,rfl,j,o,p,q⟩
 | .sz m l r,β,y,c,e,ea,k,a,d,h=>by
  simp only[LU]at h;simp only[AT.rounds];cases z:Nat.beq m (b8 c.S) with
  |true=>
   rw[z]at h;exact IW (de (ba tab) b) _ _ _ _ (Nat.le_add_right _ _) (Hb g l a d h)
  |false=>
   rw[z]at h;exact IW (de (ba tab) b) _ _ _ _ (Nat.le_add_left _ _) (Hb g r a d h)
 | .no,_,_,_,_,_,_,_,_,h=>by cases h
 | .lp _ _ _ _,_,_,_,_,_,_,_,_,h=>by cases h
 | .jn _ _ _ _ _,_,_,_,_,_,_,_,_,h=>by cases h
 | .dr _,_,_,_,_,_,_,_,_,h=>by cases h
 | .all,_,_,_,_,_,_,_,_,h=>by cases h
def Sg {b:AC}(p: ∀{β:Type} {y:β} {c:Ctx} {e:cn} {ea:bj} {k:AExit->cn->ah->Option β},Rel c->ar c e ea->eval tab b .all β e c.S k=O y->rD (fQ tab) b (mY c k y) ea c.σ):
  ∀(n:Nat) {β:Type} {y:β} {c:Ctx} {e:cn} {ea:bj} {k:AExit->cn->ah->Option β},Rel c->ar c e ea->af3 (eval tab b .all) n β e c.S k=O y->jN (rD (fQ tab) b) (mY c k y) n ea c.σ
 |0,_,_,_,_,_,_,_,_,h=>by cases h
 |n+1,β,y,c,e,ea,k,t,u,h=>by
  have r:=p t u (show eval tab b .all β e c.S (λx a S'=>match x with
   | .normal=>af3 (eval tab b .all) n β a S' k
   |x=>k x a S')=O y from h)
  simp only[jN];refine de (ba tab) b _ _ (λx q C A=> ?_) ea c.σ r;have⟨a,m,s,d,g,j,l⟩:=A;subst s;cases x with
  |normal=>exact zT (de (ba tab) b) (λx o B z=>mO.of d z) _ _ _ (Sg p n g j l)
  |exit i=>exact⟨a,m,rfl,d,g,j,l⟩
  |ret=>exact⟨a,m,rfl,d,g,j,l⟩
theorem jX : ∀(ac:AC) (at':AT) {β:Type} {y:β} {c:Ctx} {e:cn} {ea:bj} {k:AExit->cn->ah->Option β},Rel c->ar c e ea->eval tab ac at' β e c.S k=O y->rD (fQ tab) ac (mY c k y) ea c.σ
 | .skip,_,_,_,c,e,ea,k,g,d,h=>⟨e,c,rfl,Le.refl c,g,d,h⟩
 | .exit i,_,_,_,c,e,ea,k,g,d,h=>⟨e,c,rfl,Le.refl c,g,d,h⟩
 | .ret,_,_,_,c,e,ea,k,g,d,h=>⟨e,c,rfl,Le.refl c,g,d,h⟩
 | .region ops,_,_,_,c,e,ea,k,g,d,h=>GY g d h
 | .sched its,_,_,_,c,e,ea,k,g,d,h=>FY g d .nil h
 | .draw ops,at',_,y,c,e,ea,k,g,d,h=>by
  simp only[eval]at h;split at h
  .rename_i L _;obtain⟨U,h⟩:=am h;rw[aB]at U;refine Lt g (b8 ops) (pd:=λ_=>0) U.1 ⟨Le.refl c,g,EA d<|rG.refl _ ea, .nil,rfl,rfl,λb=>⟨.inl,λh=> ?_⟩,List.nodup_nil,(λ_ _ h=>by cases h),(λ_ h=>by cases h),(λ_ h=>by cases h),λit hit hk t V=> ?_,U.2⟩ h
   .rcases h with h|⟨_,h,_⟩
    .exact h
    .cases h
   .rcases @uv (EM ops<|zu ops L L []) e t with h1|⟨h1,_⟩
    .exact h1
    .exact(h1<|Jh hit hk V).elim
  .cases h
 | .seq a b,at',β,y,c,e,ea,k,g,d,h=>by
  have N: ∀l r,(eval tab a l β e c.S λx D S'=>match x with
    | .normal=>eval tab b r β D S' k
    |x=>k x D S')=O y->rD (fQ tab) (.seq a b) (mY c k y) ea c.σ:=by
   intro l r h1;refine de (ba tab) a _ _ (λx J σ' hx=> ?_) ea c.σ<|jX a l g d h1;have⟨D,Q,h2,C,F,I,B⟩:=hx;subst h2;cases x with
   |normal=>exact de (ba tab) b _ _ (λx ea'' σ'' hp=>mO.of C hp) _ _ (jX b r F I B)
   |exit i=>exact⟨D,Q,rfl,C,F,I,B⟩
   |ret=>exact⟨D,Q,rfl,C,F,I,B⟩
  simp only[eval]at h;split at h
  .rename_i fx mov exits l r _;obtain⟨U,h⟩:=am h;rw[aB]at U;have⟨s,h1,h2⟩:=ag h;have A:qF c.S<|kl (fx++mov) [] Za 0 c.S:=TV;have hR1:Rel ⟨c.μ,kl (fx++mov) [] Za 0 c.S,c.σ,c.fb⟩:=A.rel g
   have hw:Within c ⟨c.μ,kl (fx++mov) [] Za 0 c.S,c.σ,c.fb⟩ fx mov:=by
    refine⟨A.le,λq hq hn hm=> ?_,λ_ _ _ _ _ _ _ _ hy=>hy⟩;show ae (kl (fx++mov) [] Za 0 c.S) q=_;rw[mr hq];simp only[lB,zD,bB];rcases hm with hm|hz
    .rw[kV (by simp[hn,hm])];rfl
    .cases lB q (fx++mov)with
     |true=>exact(AZ hz).symm
     |false=>rfl
   have C:=wg (ba tab) (as:=mQ a) (e0:=ea) a U.2 (λt V=>V) (rG.refl _ ea)<|jX a l (c:=⟨c.μ,kl (fx++mov) [] Za 0 c.S,c.σ,c.fb⟩) hR1 (d.frame A.le) h1;refine de (ba tab) a _ _ (λx J σ' hx=> ?_) ea c.σ C;have⟨hk,D,Q,F,I,B,h7,h8⟩:=hx;subst F;have T:=PW g d B hw hR1 I U.1 hk h7 h8 h2;cases x with
   |normal=>
    have⟨E,c2,g1,g2,g3,g4,g5⟩:=T;rw[<-g1];exact de (ba tab) b _ _ (λx ea'' σ'' hp=>mO.of g2 hp) _ _ (jX b r g3 g4 g5)
   |exit i=>exact T
   |ret=>exact T
  .exact N _ _ h
  .exact N _ _ h
 | .cond t a b,at',β,y,c,e,ea,k,g,d,h=>by
  simp only[eval]at h;split at h
  .rename_i p hp;have V:=bt d t;rw[hp]at V;have V:=V.bool_inv
   have Y: ∀(W E:cn) (l r:AT),ar c W ea∨p=Zb->ar c E ea∨p=Za->cond p (eval tab a l β W c.S k) (eval tab b r β E c.S k)=O y->rD (fQ tab) (.cond t a b) (mY c k y) ea c.σ:=by
    intro W E l r h1 h2 C;simp only[rD,V];cases p with
    |true=>
     rcases h1 with h1|h1
     .exact jX a l g h1 C
     .cases h1
    |false=>
     rcases h2 with h2|h2
     .exact jX b r g h2 C
     .cases h2
   have pb: ∀(i:Nat),t= .tmp i->(ar c (oA e i<|.bool Za) ea∨p=Zb)/\(ar c (oA e i<|.bool Zb) ea∨p=Za):=by
    intro i hi;subst hi;have:=SP d hp
    grind
   split at h
   .exact Y _ _ _ _ (pb _ rfl).1 (pb _ rfl).2 h
   .exact Y _ _ _ _ (pb _ rfl).1 (pb _ rfl).2 h
   .exact Y _ _ _ _ (.inl d) (.inl d) h
   .exact Y _ _ _ _ (.inl d) (.inl d) h
  .cases h
 | .block id b,at',β,y,c,e,ea,k,g,d,h=>by
  simp only[eval]at h;refine de (ba tab) b _ _ (λx J σ' hx=> ?_) ea c.σ<|jX b _ g d h;have⟨D,Q,h2,C,F,I,B⟩:=hx;cases x with
  |normal=>exact⟨D,Q,h2,C,F,I,B⟩
  |ret=>exact⟨D,Q,h2,C,F,I,B⟩
  |exit i=>
   simp only at B⊢;cases hi:Nat.beq i id with
   |true=>
    rw[hi]at B;rw[zE<|cD hi];exact⟨D,Q,h2,C,F,I,B⟩
   |false=>
    rw[hi]at B;rw[zF (λe=>by rw[e,Nat.beq_refl]at hi;cases hi)];exact⟨D,Q,h2,C,F,I,B⟩
 | .loop b,at',β,y,c,e,ea,k,g,d,h=>by
  simp only[eval]at h;split at h
  .rename_i fx head exits l _;have A:=RT (b8 c.S) head.sk.free head.sk.vals (head.ts.map<|iZ e) c.S;refine de (ba tab) (.loop b) _ _ (λx J σ' hp=>mO.of A.le hp) ea c.σ ?_;replace g:=A.rel g;replace d:=d.frame A.le;generalize ax6 (b8 c.S) head.sk.free head.sk.vals (head.ts.map<|iZ e) c.S=S1 at h g d A⊢;clear A;generalize hc:(⟨c.μ,S1,c.σ,c.fb⟩:Ctx)=c1 at g d⊢;have W:S1=c1.S:=by rw[<-hc]
   have E:c.σ=c1.σ:=by rw[<-hc]
   rw[E];rw[W]at h;clear W E hc;revert h d g;revert c1;intro c h g d;obtain⟨U,h⟩:=am h;rw[aB,aB]at U;have⟨⟨g1,g2⟩,g3⟩:=U;split at h
   .rename_i st hd;obtain⟨t0,h1,h⟩:=ag h;have⟨s,h2,C⟩:=ag h
    have round: ∀(n:Nat) (t:B8 head.sk.shs) (K:bj) (σ1:Hp),bk3 c e ea fx (rB st.m) (mQ b) head.ts head.sk t K σ1->aq (λt=>match HA e c.S fx (rB st.m) (mQ b) Za head.ts head.sk t with
      |some (W,S1)=>eval tab b l (B8 head.sk.shs⊕pI exits) W S1 λx D S'=>(match x with
       | .normal=>bA (VA S' (b8 c.S) fx head.sk<|head.ts.map<|iZ D) λt=>O (.inl t)
       |x=>bA (tx S' (b8 c.S) fx (λts=>ts.map<|iZ D) (λy=>y.is x) exits) λs=>O<|.inr s)
      |none=>Z) n t=O s->jN (rD (fQ tab) b) (mY c k y) n K σ1:=by
     intro n;induction n with
     |zero=>intro t K σ1 _ hl;cases hl
     |succ n ih=>
      intro t K σ1 hH hl;rw[dp]at hl;have⟨z,hl1,o⟩:=ag hl;have⟨c1,W,q1,q2,q3,q4,q5,q6⟩:=hH;subst q1;rw[q2]at hl1;simp only at hl1;have F:=wg (ba tab) (as:=mQ b) (e0:=ea) b g3 (λt V=>V) q6<|jX b l q3 q4 hl1;simp only[jN];refine de (ba tab) b _ _ (λx J σ' hx=> ?_) K c1.σ F;have⟨hk,D,Q,I,B,h7,h8,T⟩:=hx;subst I;cases x with
      |normal=>
       simp only at T⊢;have⟨t',M,u⟩:=ag T;cases u;simp only[bz]at o;refine ih t' J Q.σ ?_ o;have⟨hro,st',h12,h13⟩:=aa9 M
       have j: ∃E S2,HA e c.S fx (rB st.m) (mQ b) Za head.ts head.sk t'=O (E,S2):=by
        cases n with
        |zero=>cases o
        |succ n=>
         rw[dp]at o
         grind
       obtain⟨E,S2,j⟩:=j;have⟨vs,fs,bs,S3,r1,r2,r3,r4⟩:=My j;rw[h13]at r1;have⟨ct,u1,u2,u3,u4,u5,u6,u7,u8⟩:=leave g h7 q5 q3 B g2 hro h12 r1 (Kh h8 _) r2;refine⟨ct,E,u1,by rw[j,r4,u2],u6, ?_,O2 u5 r2 u2 λq hq hn hm X b' y' hb hy=> ?_,hk⟩
       .rw[r3];exact Hr (EA (d.frame u5) hk) u7
       .refine(u8 q hq hn ?_).2 b' y' hb hy;have⟨v1,v2,v3,_⟩:=kA r2;rw[mt]at v2;rw[u2,mV (by rw[v2];exact hq),v3 q hn,mr hq,bB,kV hn];rcases hm with hm|hz
        .rw[kV hm,zD,zD,zC,gy];exact X
        .rw[hz];cases lB q (rB st.m)with
         |true=>exact X
         |false=>rw[zD,zD,zC,gy];exact X
      |exit i=>
       simp only at T⊢;have⟨s',M,u⟩:=ag T;cases u;simp only[bz]at o;cases o;exact PW g d h7 q5 q3 B g2 hk h8 M C
      |ret=>
       simp only at T⊢;have⟨s',M,u⟩:=ag T;cases u;simp only[bz]at o;cases o;exact PW g d h7 q5 q3 B g2 hk h8 M C
    refine⟨fy,round fy t0 ea c.σ ?_ h2⟩
    have j: ∃E S2,HA e c.S fx (rB st.m) (mQ b) Za head.ts head.sk t0=O (E,S2):=by
     have hb:fy=(fy-1)+1:=rfl;rw[hb,dp]at h2
     grind
    obtain⟨E,S2,j⟩:=j;have⟨vs,fs,bs,S3,r1,r2,r3,r4⟩:=My j;rw[EU h1]at r1;have⟨ct,u1,u2,u3,u4,u5,u6,u7⟩:=Xt g g2 g1 hd r1 (Kh d _) r2;refine⟨ct,E,u1,by rw[j,r4,u2],u6, ?_,O2 u5 r2 u2 λq hq hn hm X b' y' hb hy=>by rw[u1];exact hy,rG.refl _ _⟩;rw[r3];exact Hr (EA (d.frame u5)<|rG.refl _ _) u7
   .cases h
  .exact⟨_,Sg (λg d h=>jX b .all g d h) _ g d h⟩
  .exact⟨_,Hb (λat'' {β y c e ea k} g d h=>jX b at'' g d h) at' g d h⟩
end
end
section
open Nat renaming le_of_ble_eq_true->aB,zero_add->aD
def Ki {c:Ctx}{e:cn}{ea:bj}(A:Rel c)(s:ar c e ea): ∀{rs:List ARes} {vs:List VV},Ef e c.S rs=O vs->∃x,Fq ea c.σ rs=O x/\F2 (VRel c) vs x
 |[],vs,h=>by cases h;exact⟨[],rfl, .nil⟩
 |r::rs,vs,h=>by
  simp only[Ef]at h;obtain⟨v,d,h⟩:=ag h;obtain⟨N,J,h⟩:=ag h;cases h;have⟨x,K,L⟩:=Ki A s J
  have F: ∃u,Mk ea c.σ r=O u/\VRel c v u:=by
   cases r with
   |tmp t=>
    simp only[aD8]at d;cases d;exact⟨_,rfl,s t⟩
   |cell t=>
    simp only[aD8]at d;split at d
    .rename_i b o hp;split at d
     .rename_i es z l hb;have p:=s t;rw[hp]at p;cases p with
      |ptr M _ D=>
       have g:(ae c.S b).dim=O (es,b8 l):=by rw[hb];rfl
       have⟨I,E,B⟩:=D _ g;have m:=A.stands g E;rw[hb]at m;have⟨y,a,j,i,q⟩:=m.get d;refine⟨a, ?_,q⟩;rw[aD]at i;simp only[Mk,B,j,zG,i]
     .cases d
    .cases d
   |cellN t n=>
    simp only[aD8]at d;split at d
    .rename_i b o hp;split at d
     .rename_i es z l hb;cases C:Nat.ble (o+n) (b8 l) with
      |false=>rw[C]at d;cases d
      |true=>
       rw[C]at d;cases d;have p:=s t;rw[hp]at p;cases p with
       |ptr M _ D=>
        have g:(ae c.S b).dim=O (es,b8 l):=by rw[hb];rfl
        have⟨I,E,B⟩:=D _ g;have m:=A.stands g E;rw[hb]at m;have⟨y,as,j,i,q⟩:=m.read<|aB C;rw[aD]at i;refine⟨.agg as.toArray, ?_, .agg (by simp only[Blk.vals]at q;simpa using q)⟩;simp only[Mk,B,j,zG,i,Option.map_some]
     .cases d
    .cases d
  have⟨u,j,i⟩:=F;exact⟨u::x,by simp only[Fq,j,K], .cons i L⟩
def QB {d:List Value}(h:F2 (VRel c) vs d):VRel c (Nw vs)<|tO d:=by
 cases h with
 |nil=>exact .tup .nil
 |cons b a=>
  cases a with
  |nil=>exact b
  |cons a g=>exact .tup (by simpa using F2.cons b (F2.cons a g))
def DS (h:F2 (VRel c) vs as):ar c vs<|bj.of as:=by
 intro t
 have g: ∀(l:List VV) (i:Nat),iZ l i=(l[i]?).getD .undef:=by
  intro l;induction l with
  |nil=>intro i;simp[iZ]
  |cons a l m=>intro i;cases i with
   |zero=>simp[iZ]
   |succ i=>simp[iZ,m]
 rw[g];unfold bj.of;cases j:vs[t]? with
 |none=>exact .undef _
 |some v=>
  have⟨a,b,d⟩:=h.get t v j;rw[b];exact d
theorem OL {P:Program}{l:B8 (tR.shs ⟨vals,[],objs⟩)->Option (pI outs)}{nt:Nat}{rs:List ARes}{W:(AExit->bj->Hp->Prop)->bj->Hp->Prop}{F:cn->ah->(AExit->cn->ah->Option (pI outs))->Option (pI outs)}
  (hS:Fm P f λargs σ K=>args.length<=nt/\W (Xs rs K) (bj.of args) σ) (hW: ∀Q Q',(∀x e σ,Q x e σ->Q' x e σ)->∀e σ,W Q e σ->W Q' e σ)
  (hF: ∀{y:pI outs} {c:Ctx} {vs:List VV} {as:List Value} {k:AExit->cn->ah->Option (pI outs)},Rel c->F2 (VRel c) vs as->F vs c.S k=O y->W (mY c k y) (bj.of as) c.σ)
  (he: ∀t o,l t=O o->∃vs q S0,ot id ⟨vals,[],objs⟩ (Qv _ t)=O (vs,q,S0)/\vs.length<=nt/\(F vs S0 λx e S'=>match x with
   | .exit _=>Z
   |_=>(match Ef e S' rs with
    |some rs=>tx S' S0.length (qR objs 0) (λ_=>[Nw rs]) (λ_=>Za) outs
    |none=>Z))=O o):fd P ⟨f,vals,objs,outs,l⟩:=by
 intro B μ σ w args cargs K hs U;obtain⟨c,vals',E,t,o,p,v,fs,bs,S',h1,hR,hf,a,hl,g,C,D,hp,b,r,hK⟩:=hs;subst h1;obtain⟨vs,q,S0,s,hg,V⟩:=he t o D;refine hS B μ c.σ w args cargs K ?_ U;have Y:Qv (tR.shs ⟨vals,[],objs⟩) t=E.ls:=EU hl;rw[Y]at s;obtain⟨T,u⟩:=enter hR rfl a s hf;have z:args.length<=nt:=by rw[<-u.length];exact hg
 refine⟨z, ?_⟩;obtain⟨l1,l2⟩:=T.len;have h:=hF (c:=lZ c E S0) T.rel u V;refine hW _ _ (λx ea σ' hx=> ?_) _ _ h;obtain⟨e',I,h2,h3,h4,h5,M⟩:=hx;subst h2
 have n:(match Ef e' I.S rs with
   |some rs=>tx I.S S0.length (qR objs 0) (λ_=>[Nw rs]) (λ_=>Za) outs
   |none=>Z)=O o->(match Fq ea I.σ rs with
   |some vs=>K (tO vs) I.σ
   |none=>False):=by
  intro N;split at N
  .rename_i rs hrs;obtain⟨us,h8,h9⟩:=Ki h4 h5 hrs;rw[h8];simp only;obtain⟨p',J,_,q3⟩:=ED N;simp only at hp;rw[hp]at J;injection J with J
   subst J;obtain⟨X,st',q4,q5⟩:=Ia q3;obtain⟨L,_⟩:=pN a;have A:=pL L;rw[List.nil_append]at A;simp only at b r g C;rw[q5]at b
   have j: ∀(i:Nat) (o:OSk) (x:Src),objs[i]?=O o->o.ro=Za->E.m[i]?=O (O x)->x.k∈E.lent:=by
    intro i o x g1 g2 g3;unfold mS at a;obtain⟨st1,d1,a⟩:=ag a;obtain⟨st2,d2,a⟩:=ag a;obtain⟨d,d3,a⟩:=ag a
    have:d=E:=by
     cases hb:(NC ([]++rB d.m)&&Lx ([]++lq (FSum.ins ⟨f,vals,objs,outs,l⟩).free d.m) d.lent)with
     |false=>rw[hb]at a;cases a
     |true=>rw[hb]at a;injection a
    subst this;exact Qj d3 i o x g1 g2 (by rw[aD];exact g3)
   obtain⟨ct,r1,r2,r3,r4,r5,r6⟩:=Ml hR rfl T h3 h4 g C A j X (by rw[<-l1];exact q4) b (.cons (QB h9) .nil) r;cases r5 with
   |cons r5 _=>exact hK _ _ ⟨ct,r1,r2,r3,r4,r5,r6⟩
  .cases N
 cases x with
 |exit i=>cases M
 |normal=>exact n M
 |ret=>exact n M
def am9 {P:Program}{tab:Tab}{i:B8 (tR.shs ⟨vals,[],objs⟩)->Option (pI outs)}(A:fW P tab.fs)(u:aa P tab.is)
  (q: ∀t o,i t=O o->F0 P f tab vals objs outs at' t=O o):fd P ⟨f,vals,objs,outs,i⟩:=by
 cases a:Vc P f with
 |none=>
  intro B μ σ w d cargs K z;obtain⟨c,l,J,t,o,p,v,fs,C,S',D,m,r,E,I,n,x,g,_⟩:=z;have:=q t o g;unfold F0 at this;rw[a]at this;cases this
 |some b=>
  refine OL (nt:=b.ntmps) (rs:=b.results) (W:=rD (fQ tab) b.body) (F:=λvs S k=>eval tab b.body at' _ vs S k) (Fm.of (ac5 a (ba tab)<|vZ A u) λd σ K h=>h) (de (ba tab) b.body) (λm r h=>jX b.body at' m (DS r) h) λt o h=> ?_
  have h:=q t o h;unfold F0 at h;rw[a]at h;split at h
  .rename_i vs fs0 S0 j hen;injection j with j
   subst j;obtain⟨s,h⟩:=am h;exact⟨vs,fs0,S0,hen,aB s,h⟩
  .cases h
def OK {P:Program}{a:B8 (tR.shs ⟨vals,[],objs⟩)->Option (pI outs)}(g:fW P tab)(d:aa P ins)
  (b: ∀t,F0 P f ⟨tab,ins⟩ vals objs outs at' t=a t):fd P ⟨f,vals,objs,outs,a⟩:=am9 (tab:=⟨tab,ins⟩) g d λt o h=>(b t).trans h
def am8 {P:Program}{a:B8 (tR.shs ⟨vals,[],objs⟩)->Option (pI outs)}(d:fW P tab)
  (b: ∀t,F0 P f ⟨tab,[]⟩ vals objs outs at' t=a t):fd P ⟨f,vals,objs,outs,a⟩:=OK d (aa.nil P) b
theorem aw {P:Program}(M:fW P tab)(F:aa P ins):Pp P ⟨f,ce P f ⟨tab,ins⟩ at'⟩:=by
 intro B μ σ w b cargs K L j;obtain⟨β,y,c,vals,k,r,D,n,a,C⟩:=L;subst r;simp only[ce]at a;split at a
 .rename_i af htr;obtain⟨E,a⟩:=am a;refine ac5 htr (ba ⟨tab,ins⟩) (vZ (tab:=⟨tab,ins⟩) M F) B μ c.σ w b cargs K ?_ j;have h:b.length<=af.ntmps:=by rw[<-n.length];exact aB E
  refine⟨h, ?_⟩;have d:=jX af.body at' (c:=c) D (DS n) a;refine de (ba ⟨tab,ins⟩) af.body _ _ (λx ea U N=> ?_) _ _ d;obtain⟨o,g,s,t,m,u,Q⟩:=N;subst s
  have p:(match Ef o g.S af.results with
    |some l=>k (Nw l) g.S
    |none=>Z)=O y->(match Fq ea g.σ af.results with
    |some vs=>K (tO vs) g.σ
    |none=>False):=by
   intro i;split at i
   .rename_i l hrs;obtain⟨T,z,A⟩:=Ki m u hrs;rw[z];exact C _ _ ⟨Nw l,g,rfl,t,m,λq J I=>(I<|Cb J).elim,QB A,i⟩
   .cases i
  grind
 cases a
def F4 :List Alt:=[⟨.ret,[],⟨[.leaf .bool],[],[]⟩⟩]
def wy (σ:Hp):Ctx:=⟨λ_=>Z,[],σ,λ_=>False⟩
def Uu {σ:Hp}(h:σ.Ok):Rel<|wy σ:=
 ⟨h,λk j b i _ _ _=>(by cases i),λk d a=>(by cases a),λk b a=>(a rfl).elim,λb g=>g.elim⟩
def LQ {σ:Hp}(b:Nat): ¬(wy σ).mut b:=by
 rintro(⟨k,h,_⟩|h)
 .cases h
 exact h
theorem ae2 {P:Program}{j:B8 (tR.shs ⟨vals,[],[]⟩)->Option (pI F4)}(h:fd P ⟨f,vals,[],F4,j⟩)(u:W3 P w){args:List Value}{st:DSt}{t:B8<|tR.shs ⟨vals,[],[]⟩}
  (g: ∀r∈rows,∀(i:Nat) (v:Value),r.cells[i]?=O v->∃v',w.cell? ⟨r.c,r.o+i,Z⟩=O v'/\VR (nY rows) v v') (d:F2 (VR<|nY rows) args cargs.toList)
  (A:F2 (VRel<|wy<|qE w.heap.size rows) vs args) (a:mS [] 0 [] ⟨vals,[],[]⟩ vs=O st) (x:QO _ st.ls=O t) (z:j t=O Za) (B:Cl f=Zb:=by rfl):
  Calls P f cargs w λe w'=>e= .returned (.bool Za)/\Go.RowKit.Below w.heap.size w w':=by
 have p:st.m=[]:=by
  unfold mS at a;obtain⟨C,E,a⟩:=ag a;obtain⟨q,F,a⟩:=ag a;obtain⟨s,b,a⟩:=ag a
  have:s=st:=by
   grind
  subst this;simp only[tz]at b;cases n:Nat.beq 0 (b8 q.m) with
  |false=>rw[n]at b;cases b
  |true=>
   rw[n]at b;cases b;exact aK.1 (Nat.eq_of_beq_eq_true n).symm
 refine aP6 (S:=(FSum.mk f vals [] F4 j).spec) h u g d ?_ B;refine⟨wy<|qE w.heap.size rows,vs,st,t,Za,⟨⟨.ret,[],⟨[.leaf .bool],[],[]⟩⟩,Za⟩, .bool Za,[],[],cond (CR [.bool Za] [] []) (CZ st.lent []) [],rfl,Uu aE1,A,a,x,by rw[p];rfl,by rw[p];rfl,z,rfl,rfl,by rw[p];rfl, ?_⟩;rintro r I ⟨D,_,_,_,_,l,_⟩;exact l.bool_inv
end
section
open List renaming replicate->aD
open Nat renaming le_refl->aB,le_of_ble_eq_true->bB
def aR4 :VV->Bool
 | .tup []| .int _ _| .bool _| .str _=>Za
 |_=>Zb
def aS3 (n:Nat)(l:List VV):List VV:=l++aD n (.tup [])
def aQ5 (tab:Tab)(a:KFn)(t2 t3:AT)(β:Type)(e:cn)(S:ah)(k:AExit->cn->ah->Option β):Option β:=match iZ e 4 with
 | .nils=>gd (Oc.all λt=>aR4<|iZ e t) (Uw S .u64 (iZ e 10) λ_ _ _ l _=>gd (fS (Ot l) 16)
  (cond (Nat.blt 4096<|tH l)
   (eval tab a.suf1 t2 β (mv e vQ) S λx b S'=>match x with
    | .ret=>k .ret b S'
    |_=>Z)
   (eval tab a.rest t3 β (oA (mv e vQ) 4<|.full<|b8 S) (S++[.arr .str Zb<|gu l]) k)))
 |_=>Z
def VH (tab:Tab)(a:KFn)(t0 t1 t2 t3:AT)(β:Type)(vs:cn)(S:ah)(k:AExit->cn->ah->Option β):Option β:=
 eval tab a.c0 t0 β (aS3 a.ntmps vs) S λx e S=>match x with
  | .normal=>eval tab a.c1 t1 β e S λx e S=>(match x with
   | .normal=>CX tab a.a10 e S λe S=>aQ5 tab a t2 t3 β e S k
   |_=>Z)
  |_=>Z
def PO (P:Program)(f:FuncId)(tab:Tab)(vals:List Sk)(objs:List OSk)(outs:List Alt)(t0 t1 t2 t3:AT)(t:B8<|tR.shs ⟨vals,[],objs⟩):Option<|pI outs:=
 match WQ P f,ot id ⟨vals,[],objs⟩ (Qv _ t)with
 |some a,O (vs,_,S)=>gd (Nat.ble (b8 vs) a.ntmps) (VH tab a t0 t1 t2 t3 (pI outs) vs S λx e S'=>match x with
  | .exit _=>Z
  |_=>(match Ef e S' a.results with
   |some b=>tx S' (b8 S) (qR objs 0) (λ_=>[Nw b]) (λ_=>Za) outs
   |none=>Z))
 |_,_=>Z
section
variable {β:Type} {tab:Tab} {y:β} {c:Ctx} {e:cn} {ea:bj} {k:AExit->cn->ah->Option β}
def aC8 {n:Nat}(h:F2 (VRel c) vs as):ar c (aS3 n vs)<|bj.of as:=by
 have b:F2 (VRel c) (aS3 n vs)<|as++aD n undef:=by
  refine h.append ?_;induction n with
  |zero=>exact .nil
  |succ n d=>exact .cons (.tup .nil) d
 intro t;have:=DS b t
 have a:bj.of (as++aD n undef) t=bj.of as t:=by
  unfold bj.of;rw[List.getElem?_append];split
  .rfl
  rename_i hlt;rw[List.getElem?_eq_none (Nat.le_of_not_lt hlt),List.getElem?_replicate];split<;>rfl
 rw[<-a];exact this
def aB3 {v:VV}{a:Value}(h:aR4 v=Za)(i:VRel c v a):F8 a=Za:=by
 cases i<;>first|rfl|(cases h;done)|skip
 rename_i j d;unfold aR4 at h;split at h
 .rename_i b;cases b;cases g:j.toList with
  |nil=>simp[F8,g]
  |cons a r=>rw[g]at d;cases d
 all_goals (first|(rename_i b;cases b;done)|cases h)
def Ug {e':bj}(d:ar c e ea)(h: ∀t,t∉vQ->e' t=ea t):ar c (mv e vQ) e':=by
 intro t;rcases uv (ts:=vQ) (e:=e) (t:=t)with a|⟨a,b⟩
 .rw[a];exact .undef _
 rw[b,h t a];exact d t
def R6 (l:Zd):b8 (gu l)=tH l:=by
 unfold gu tH;rw[List.length_mergeSort,List.length_map]
def XL (s:ByteArray): ∀t∈gu (au s),∀x∈t,0<=x/\x<256:=by
 intro t a x d;unfold gu nzL at a;rw[List.mem_mergeSort]at a;obtain⟨p,b,rfl⟩:=aE.1 a;exact GR s x<|Iy _ _ p (List.mem_filter.1 b).1 x d
def R7 : ∀(l:List Zd),(∀t∈l,∀x∈t,0<=x/\x<256)->F2 (VRel c) (fh .str l) (l.map λt=>Value.string<|xo t)
 |[],_=> .nil
 |t::l,h=> .cons (.str<|zq t<|h t<|List.mem_cons_self ..)<|R7 l λq a=>h q<|List.mem_cons_of_mem _ a
def nils_inv {a:Value}(h:VRel c .nils a):a= .slice Z 0 0:=by cases h;rfl
def al2 (e':bj)(t:Nat):e'.put t (e' t)=e':=by
 funext i
 unfold bj.put;split
 .rename_i h;rw[h]
 rfl
def XS {a:KFn}(o:Rel c)(L:ar c e ea)(h:aQ5 tab a t2 t3 β e c.S k=O y):ag2 (fQ tab) a (mY c k y) ea c.σ:=by
 unfold aQ5 at h;split at h
 case h_2=>cases h
 rename_i h4;obtain⟨T,h⟩:=am h;obtain⟨q,es,fz,l,r,M,hq,h⟩:=Iv h;obtain⟨m,h⟩:=am h;have I:=L 4;rw[h4]at I;have u:=L 10;rw[M]at u;have⟨b,y0,s,cr,rest,m1,m2,m3,m4,m5,m6,m7,m8⟩:=LV o u hq;subst m7;refine⟨nils_inv I,λt ht=>aB3 (aG.1 T t ht)<|L t,b,y0,s,_,m1,m3,m6, ?_,λK Q=> ?_⟩
 .unfold fS at m;rw[Bool.and_eq_true]at m;exact of_decide_eq_true m.1
 have A:=Ug L Q;cases p:Nat.blt 4096 (tH<|au s)with
 |true=>
  rw[p,zC]at h;have E:4096<tH (au s):=bB p;refine⟨λ_=>de (ba tab) a.suf1 _ _ (λx D V J=> ?_) _ _<|jX a.suf1 t2 o A h,λN=>(N E).elim⟩;have⟨X,W,q1,q2,q3,q4,U⟩:=J;cases x with
  |ret=>exact⟨rfl,X,W,q1,q2,q3,q4,U⟩
  |normal=>cases U
  |exit i=>cases U
 |false=>
  rw[p,zD]at h
  have E: ¬4096<tH (au s):=λE=>by
   have:Nat.blt 4096 (tH<|au s)=Za:=Nat.ble_eq_true_of_le E;rw[p]at this;cases this
  have g:(Blk.arr .str Zb<|gu<|au s).dim=O (1,b8 (gu<|au s)*1):=rfl;refine⟨λN=>(E N).elim,λ_=>⟨λY z=> ?_,λz=> ?_⟩⟩
  .have B:b8 (gu<|au s)=0:=by rw[R6,Y]
   have C:Moves c Z Z (.arr .str Zb<|gu<|au s) c.σ:=⟨λ_ h=>aX,λ_ h=>aX,o.ok,aB _,λ_ _ h _=>h,_,g,aB _, .inl ⟨rfl,by show(b8<|gu<|au s)*1=0;rw[B]⟩⟩
   have F:ar ⟨pR c Z,mb c.S Z++[.arr .str Zb<|gu<|au s],c.σ,c.fb⟩ (oA (mv e vQ) 4<|.full<|b8 c.S)<|K.put 4<|K 4:=by
    refine(A.frame<|C.le o).put ?_;rw[z];refine .full aV rfl λd' j=>⟨0, ?_⟩
    simp only[jY,if_true]at j;rw[g]at j;cases j;exact⟨by simp[B], .inl ⟨rfl,rfl,rfl,by simp[pR],by simp[B]⟩⟩
   rw[al2]at F;exact de (ba tab) a.rest _ _ (λx D V J=>mO.of (C.le o) J) _ _ (jX a.rest t3 (C.rel o) F h)
  have C:=Nc o (blk:= .arr .str Zb<|gu<|au s) (x:=⟨(gu<|au s).map (λt=>Value.string<|xo t),Za,1⟩) (d:=(1,b8 (gu<|au s)*1)) g (aB _) rfl rfl (R7 _<|XL s)
  have F:ar ⟨pR c<|O c.σ.n,mb c.S Z++[.arr .str Zb<|gu<|au s],c.σ.add ⟨(gu<|au s).map (λt=>Value.string<|xo t),Za,1⟩,c.fb⟩ (oA (mv e vQ) 4<|.full<|b8 c.S)<|K.put 4<|K 4:=by
   refine(A.frame<|C.le o).put ?_;rw[z,<-R6];exact vS (kill:=Z) g rfl (aB _) (zE rfl) V2
  rw[al2]at F;exact de (ba tab) a.rest _ _ (λx D V J=>mO.of (C.le o) J) _ _<|jX a.rest t3 (C.rel o) F h
def ac3 {a:KFn}{t0 t1:AT}(n:Rel c)(o:F2 (VRel c) vs as)(h:VH tab a t0 t1 t2 t3 β vs c.S k=O y):aq3 (fQ tab) a (mY c k y) (bj.of as) c.σ:=by
 unfold VH at h;refine de (ba tab) a.c0 _ _ (λx d l b=> ?_) _ _<|jX a.c0 t0 n (aC8 o) h;obtain⟨E,c1,rfl,p,s,z,g⟩:=b;cases x with
 |ret=>cases g
 |exit i=>cases g
 |normal=>
  refine⟨rfl,de (ba tab) a.c1 _ _ (λx d l b=> ?_) _ _<|jX a.c1 t1 s z g⟩;obtain⟨F,C,rfl,q,t,A,j⟩:=b;cases x with
  |ret=>cases j
  |exit i=>cases j
  |normal=>
   refine⟨rfl,uK (ba tab) (λd l b=> ?_) _ _ _<|GY t A j⟩;obtain⟨I,D,rfl,r,u,B,m⟩:=b;exact Oj (ba tab) (λx e σ b=>mO.of ((p.trans q).trans r) b)<|XS u B m
def Yg {P:Program}{l:FuncId}{tab:List FSum}{t0 t1:AT}{g:B8 (tR.shs ⟨vals,[],objs⟩)->Option (pI outs)}(I:fW P tab)(C:aa P ins)
  (z:(P.funcs[f]?).bind (·.body)=O (kpO P f).code) (F:KF P l (ntO P f)<|kpO P f) (x:SortOk P l) (r: ∀t,PO P f ⟨tab,ins⟩ vals objs outs t0 t1 t2 t3 t=g t):fd P ⟨f,vals,objs,outs,g⟩:=by
 cases a:WQ P f with
 |none=>
  intro B μ σ w b cargs K E;have⟨c,m,T,t,o,p,v,l,J,S',L,n,s,M,N,q,D,d,_⟩:=E;have:=(r t).trans d;unfold PO at this;rw[a]at this;cases this
 |some i=>
  refine OL (nt:=i.ntmps) (rs:=i.results) (W:=aq3 (fQ ⟨tab,ins⟩) i) (F:=λvs S k=>VH ⟨tab,ins⟩ i t0 t1 t2 t3 _ vs S k) (Fm.of (aN5 a z F x (ba ⟨tab,ins⟩)<|vZ (tab:=⟨tab,ins⟩) I C) λb σ K h=>h) (λQ Q' u e σ=>Yv (ba ⟨tab,ins⟩) u) (λn s h=>ac3 n s h) λt o h=> ?_
  have h:=(r t).trans h;unfold PO at h;rw[a]at h;split at h
  .rename_i vs fs0 S0 j hen;cases j;obtain⟨A,h⟩:=am h;exact⟨vs,_,S0,hen,bB A,h⟩
  .cases h
end
end
section
def Me :cn->List Nat->List VV->cn
 |e,d::a,v::vs=>Me (oA e d v) a vs
 |e,_,_=>e
def aq7 (P:Program)(f:FuncId)(tab:Tab)(a1 a2:AT):(β:Type)->List VV->ah->(VV->ah->Option β)->Option β:=λβ a S k=>
 match aU7 P f,a.reverse with
 |some s, .ptr q 0::g=>(match ae S q with
  | .cells _ Zb (.nilf::vals)=>gd (Nat.ble s.ntmps (b8 vals)&&Nat.beq (b8 g) (b8 s.params)) (eval tab s.assign a1 β (Me (vals.take s.ntmps) s.params g.reverse) S λx h S1=>match x with
   | .normal=>(match ae S1 q with
    | .cells b Zb (.nilf::i)=>eval tab s.body a2 β h (gJ S1 q<|.cells b Zb<|.nilp::i) λl _ S2=>match l with
     | .normal=>(match ae S2 q with
      | .cells d Zb (.nilp::j)=>k (.bool Za) (gJ S2 q<|.cells d Zb<|.nilf::j)
      |_=>Z)
     |_=>Z
    |_=>Z)
   |_=>Z)
  |_=>Z)
 |_,_=>Z
def F2.cut {α β:Type}{r:α->β->Prop}: ∀{l l':List α} {m:List β},F2 r (l++l') m->∃a b,m=a++b/\F2 r l a/\F2 r l' b
 |[],l',m,h=>⟨[],m,rfl, .nil,h⟩
 |x::l,l',_, .cons h t=>by
  have⟨a,b,e,d,g⟩:=F2.cut t;subst e;exact⟨_::a,b,rfl, .cons h d,g⟩
def OH {c:Ctx}: ∀{b:List Nat} {xs:List VV} {as:List Value} {e:cn} {ea:bj},ar c e ea->F2 (VRel c) xs as->ar c (Me e b xs) (putAll ea b as)
 |[],xs,as,_,_,h,_=>by
  cases xs<;>cases as<;>simpa[Me,putAll]using h
 |d::b,_,_,_,_,h, .nil=>by simpa[Me,putAll]using h
 |d::b,_,_,_,_,h, .cons a t=>by
  simp only[Me,putAll];exact OH (h.put a) t
def flW (b:Bool):VV:=cond b .nilf .nilp
def ax3 (b:Bool):VRel c (flW b)<|Ii b:=by cases b<;>first|exact .nilf|exact .nilp
def LD (r:Rel c){q:Nat}{fl:Bool}{v:List VV}(j:ae c.S q= .cells es Zb (flW fl::v)):
  ∃(b:Nat) (y:Ab.Blk) (cs rest:List Value),c.μ q=O b/\c.σ.m b=O y/\y.es=es/\y.own=Za/\y.cells=Ii fl::(cs++rest)/\F2 (VRel c) v cs:=by
 have⟨_,h⟩:=r.blk q (es,b8<|flW fl::v) (by rw[j];rfl);rcases h with⟨h,_⟩|⟨b,y,cs,rest,l,n,o,g,p,i⟩
 .cases h
 .rw[j]at g i;cases i with
  | @cons _ a _ d s t=>
   have:a=Ii fl:=by cases fl<;>cases s<;>rfl
   subst this;exact⟨b,y,d,rest,l,n,o,g rfl,p,t⟩
def Ji {q b:Nat}{fl fl':Bool}{v:List VV}{y:Ab.Blk}{cs rest:List Value}(a:ae c.S q= .cells es Zb (flW fl::v))(i:c.μ q=O b)(j:c.σ.m b=O y)(g:y.es=es)(d:y.cells=Ii fl::(cs++rest))(h:F2 (VRel c) v cs):
  Writes c q b (.cells es Zb<|flW fl'::v) ⟨Ii fl'::(cs++rest),Za,y.es⟩:=
 ⟨by rw[a];rfl,i,by rw[a];rfl,rfl,y,Ii fl'::cs,rest,(es,b8<|flW fl::v),j,by rw[a];rfl,g,rfl,by rw[d];rfl,rfl, .cons (ax3 _) h⟩
theorem aq8 {P:Program}{a1 a2:AT}(ht:fW P tab)(X:aa P ins):Pp P ⟨QR f,aq7 P f ⟨tab,ins⟩ a1 a2⟩:=by
 intro B μ σ w args cargs K hs Q;obtain⟨β,y,c,vals,k,h1,hR,hf,a,hK⟩:=hs;subst h1;simp only[aq7]at a;split at a
 case h_2=>cases a
 rename_i s q xs hyl E;have n:vals=xs.reverse++[.ptr q 0]:=by rw[<-List.reverse_reverse vals,E];simp
 subst n;split at a
 case h_2=>cases a
 rename_i es v0 hq;obtain⟨W,a⟩:=am a;rw[Bool.and_eq_true]at W;have g1:=Nat.le_of_ble_eq_true W.1;have g2:=Nat.eq_of_beq_eq_true W.2;obtain⟨b,y0,u,l,m1,m2,m3,m4,m5,m6⟩:=LD (fl:=Za) hR hq;obtain⟨as,al,rfl,C,V⟩:=F2.cut hf
 have T:al=[.pointer<|O ⟨b,0,Z⟩]:=by
  cases V with
  |cons r1 r2=>
   cases r2;cases r1 with
   |ptr _ _ hd=>
    obtain⟨b',I,rfl⟩:=hd (es,(VV.nilf::v0).length) (by rw[hq];rfl);rw[m1]at I;injection I with I
    subst I;rfl
 subst T;have U:v0.length=u.length:=m6.length;refine bd6 hyl (ba ⟨tab,ins⟩) (vZ (tab:=⟨tab,ins⟩) ht X) B μ c.σ w _ cargs K ?_ Q;refine⟨as,b,y0,u++l,rfl,m2,m4,m5,by rw[List.length_append,<-U];omega,by rw[<-C.length];simpa using g2, ?_⟩;have N:(u++l).take s.ntmps=u.take s.ntmps:=List.take_append_of_le_length (by omega);rw[N];have he:ar c (Me (v0.take s.ntmps) s.params xs.reverse)<|putAll (bj.of<|u.take s.ntmps) s.params as:=OH (DS<|m6.take s.ntmps) C;refine de (ba ⟨tab,ins⟩) s.assign _ _ (λx ea σ' hx=> ?_) _ _<|jX s.assign a1 (c:=c) hR he a;obtain⟨e1,p,rfl,l1,R1,E1,r⟩:=hx;cases x with
 |exit i=>cases r
 |ret=>cases r
 |normal=>
  dsimp only at r;split at r
  case h_2=>cases r
  rename_i A v1 h;have Y:q<c.S.length:=kG (by rw[hq];simp[Blk.dim]);have d:p.μ q=O b:=((l1.al q _ Y (by rw[h];rfl)).2).trans m1;obtain⟨b1,y1,z,g,J,p2,p3,p4,p5,p6⟩:=LD (fl:=Za) R1 h;rw[d]at J;injection J with J
  subst J;have hw:=Ji (fl:=Za) (fl':=Zb) h d p2 p3 p5 p6;refine⟨rfl,y1,z++g,p2,p4,p5, ?_⟩;refine de (ba ⟨tab,ins⟩) s.body _ _ (λx ea σ' hx=> ?_) _ _<|jX s.body a2 (c:=⟨p.μ,gJ p.S q<|.cells A Zb<|.nilp::v1,p.σ.set b<|O ⟨Ii Zb::(z++g),Za,y1.es⟩,p.fb⟩) (hw.rel R1) (E1.frame<|hw.le R1) r;obtain⟨e2,c2,rfl,l2,R2,E2,t⟩:=hx;cases x with
  |exit i=>cases t
  |ret=>cases t
  |normal=>
   dsimp only at t;split at t
   case h_2=>cases t
   rename_i es2 v2 m;have D:q<(gJ p.S q<|.cells A Zb<|.nilp::v1).length:=by rw[yF];exact kG (by rw[h];simp[Blk.dim])
   have j:c2.μ q=O b:=((l2.al q _ D (by rw[m];rfl)).2).trans d;obtain⟨b2,y2,M,o,L,q2,q3,q4,q5,q6⟩:=LD (fl:=Zb) R2 m;rw[j]at L;injection L with L
   subst L;have F:=Ji (fl:=Zb) (fl':=Za) m j q2 q3 q5 q6;refine⟨rfl,y2,M++o,q2,q4,q5, ?_⟩;exact hK _ _ ⟨.bool Za,_,rfl,((l1.trans<|hw.le R1).trans l2).trans<|F.le R2,F.rel R2,λi X hn=>(hn<|Cb X).elim, .bool Za,t⟩
end
section
def XQ {α γ:Type}{f:α->Option (α⊕γ)}(I:α->Prop)(m:α->Nat)(Q:γ->Prop)(h: ∀a,I a->(∃b,f a=O (.inl b)/\I b/\m b<m a)∨∃c,f a=O (.inr c)/\Q c): ∀(n:Nat) (a:α),I a->m a<n->∃c,aq f n a=O c/\Q c:=by
 intro n;induction n with
 |zero=>intro a _ d;omega
 |succ n o=>
  intro a l q;rcases h a l with⟨b,d,g,p⟩|⟨c,d,g⟩
  .obtain⟨c,i,j⟩:=o b g V1;exact⟨c,by rw[dp,d];exact i,j⟩
  exact⟨c,by rw[dp,d];rfl,g⟩
def iB {α γ:Type}{f:α->Option (α⊕γ)}{a:α}(I:α->Prop)(m:α->Nat)(Q:γ->Prop)(d:I a)(g:m a<18446744073709551616)(h: ∀a,I a->(∃b,f a=O (.inl b)/\I b/\m b<m a)∨∃c,f a=O (.inr c)/\Q c): ∃c,aq f fy a=O c/\Q c:=
 XQ I m Q h fy a d g
def Wh {α γ:Type}{f:α->Option (α⊕γ)}{a:α}{c:γ}(I:α->Prop)(m:α->Nat)(d:I a)(l:m a<18446744073709551616)(h: ∀a,I a->(∃b,f a=O (.inl b)/\I b/\m b<m a)∨f a=O (.inr c)):aq f fy a=O c:=by
 obtain⟨n,g,i⟩:=iB I m (· =c) d l λa j=>by
  rcases h a j with h|h
  .exact .inl h
  exact .inr ⟨c,h,rfl⟩
 rw[g,i]
def ap {α:Type}{p:Prop}[Decidable p]{x y:α}:cond (decide p) x y=if p then x else y:=by by_cases h:p<;>simp[h]
def dj {β:Type}{x:Option β}:gd Za x=x:=rfl
def aO3 {β:Type}{p:Prop}[Decidable p]{x:Option β}(h:p):gd (decide p) x=x:=by rw[zB h];rfl
theorem bu {β:Type}{n b:Nat}{x:Option β}(h:n*b<=140737488355328)(a:1<=b):gd (fS n b) x=x:=by
 have:fS n b=Za:=by
  unfold fS
  simp_all
 rw[this];rfl
theorem cz {α:Type}{l:List α}{i:Nat}(h:i<b8 l):rd l (i:Int)=O l[i]:=by
 unfold rd
 grind
def ad {n:Int}(h: -9223372036854775808<=n/\n<=9223372036854775807):IntKind.i64.wrap n=n:=IntWalk.i64_in _ h
def Zi {n:Int}(h: -9223372036854775808<=n/\n<=9223372036854775807:=by omega):IntKind.i64.wrap n=n:=ad h
def ll {α γ β:Type}{a:α}{f:α->Option β}{g:γ->Option β}:bz (.inl a) f g=f a:=rfl
def di {α γ β:Type}{a:γ}{f:α->Option β}{g:γ->Option β}:bz (.inr a) f g=g a:=rfl
end
section
def DW (a:AFn)(tab:Tab)(vals:List Sk)(objs:List OSk)(outs:List Alt)(at':AT)(t:B8<|tR.shs ⟨vals,[],objs⟩):Option<|pI outs:=
 match ot id ⟨vals,[],objs⟩ (Qv _ t)with
 |some (vs,_,S)=>gd (Nat.ble (b8 vs) a.ntmps) (eval tab a.body at' (pI outs) vs S λx e S'=>match x with
  | .exit _=>Z
  |_=>(match Ef e S' a.results with
   |some b=>tx S' (b8 S) (qR objs 0) (λ_=>[Nw b]) (λ_=>Za) outs
   |none=>Z))
 |_=>Z
theorem Ns {P:Program}{n:AFn}{tab:Tab}{L:B8 (tR.shs ⟨vals,[],objs⟩)->Option (pI outs)}(ht:fW P tab.fs)(hi:aa P tab.is)(htr:Vc P f=O n)(C: ∀t:B8<|tR.shs ⟨vals,[],objs⟩,∃r,ot id ⟨vals,[],objs⟩ (Qv _ t)=O r)
  (he: ∀t o vs fs S,L t=O o->ot id ⟨vals,[],objs⟩ (Qv _ t)=O (vs,fs,S)->∀(c:Ctx) args,F2 (VRel c) vs args->
   ∃b,DW ⟨n.ntmps,n.results,b⟩ tab vals objs outs at' t=O o/\∀T (_:pF T) Q σ,rD T b Q (bj.of args) σ->rD T n.body Q (bj.of args) σ):fd P ⟨f,vals,objs,outs,L⟩:=by
 intro B μ σ w args cargs K hs hR0;obtain⟨c,vals',M,t,o,p,v,fs,bs,S',h1,hR,hf,g,hl,j,I,J,hp,a,hS,hK⟩:=hs;subst h1;have htl:Qv (tR.shs ⟨vals,[],objs⟩) t=M.ls:=EU hl;cases h:ot id ⟨vals,[],objs⟩ (Qv (tR.shs ⟨vals,[],objs⟩) t)with
 |none=>
  obtain⟨r,q⟩:=C t;rw[h]at q;cases q
 |some tr=>
 obtain⟨vs,W,S0⟩:=tr;refine ac5 htr (ba tab) (vZ ht hi) B μ c.σ w args cargs K ?_ hR0;have l:=h;rw[htl]at h;obtain⟨hE,u⟩:=enter hR rfl g h hf;obtain⟨bd,d,D⟩:=he t o vs W S0 J l _ _ u;unfold DW at d;rw[l]at d;obtain⟨hg,d⟩:=am d;have E:args.length<=n.ntmps:=by rw[<-u.length];exact Nat.le_of_ble_eq_true hg
 refine⟨E,D _ (ba tab) _ _ ?_⟩;obtain⟨l1,l2⟩:=hE.len;have s:=jX bd at' (c:=lZ c M S0) hE.rel (DS u) d;refine de (ba tab) bd _ _ (λx ea σ' hx=> ?_) _ _ s;obtain⟨e',N,h2,h3,h4,h5,X⟩:=hx;subst h2
 have A:(match Ef e' N.S n.results with
   |some rs=>tx N.S S0.length (qR objs 0) (λ_=>[Nw rs]) (λ_=>Za) outs
   |none=>Z)=O o->(match Fq ea N.σ n.results with
   |some vs=>K (tO vs) N.σ
   |none=>False):=by
  intro Y;split at Y
  .rename_i rs hrs;obtain⟨us,h8,h9⟩:=Ki h4 h5 hrs;rw[h8];simp only;obtain⟨p',U,_,q3⟩:=ED Y;simp only at hp;rw[hp]at U;injection U with U
   subst U;obtain⟨hro,st',q4,q5⟩:=Ia q3;obtain⟨V,_⟩:=pN g;have F:=pL V;rw[List.nil_append]at F;simp only at a hS j I;rw[q5]at a
   have z: ∀(i:Nat) (o:OSk) (x:Src),objs[i]?=O o->o.ro=Za->M.m[i]?=O (O x)->x.k∈M.lent:=by
    intro i o x g1 g2 g3;unfold mS at g;obtain⟨st1,d1,g⟩:=ag g;obtain⟨st2,d2,g⟩:=ag g;obtain⟨st3,d3,g⟩:=ag g
    have:st3=M:=by
     grind
    subst this;exact Qj d3 i o x g1 g2 (by rw[Nat.zero_add];exact g3)
   obtain⟨ct,r1,r2,r3,r4,r5,r6⟩:=Ml hR rfl hE h3 h4 j I F z hro (by rw[<-l1];exact q4) a (.cons (QB h9) .nil) hS;cases r5 with
   |cons r5 _=>exact hK _ _ ⟨ct,r1,r2,r3,r4,r5,r6⟩
  .cases Y
 cases x with
 |exit i=>cases X
 |normal=>exact A X
 |ret=>exact A X
def Uh (es bytes:Nat)(z:List Value)(c n:AOp):AC:=
 .seq (.region [⟨O 2, .move<|.const<|.slice Z 0 0,Z⟩]) (.seq (.seq (.region [⟨O 3, .move<|.tmp 0,Z⟩,⟨O 4,c,Z⟩])<|.cond (.tmp 4) (.seq (.region [⟨O 2,n,Z⟩]) .ret) .skip)
  (.seq (.region [⟨O 5, .buildSlice es 0 z [],Z⟩,⟨O 6, .move<|.tmp 0,Z⟩,⟨O 7, .append es bytes (.tmp 5)<|.tmp 6,Z⟩,⟨O 2, .move<|.tmp 7,Z⟩]) .ret))
def PG (es bytes:Nat)(z:List Value):AFn:=⟨8,[.tmp 2],Uh es bytes z (.eqv 2 Zb (.tmp 3)<|.const<|.slice Z 0 0)<|.move<|.const<|.slice Z 0 0⟩
def au7 (es bytes:Nat)(z:List Value):AFn:=⟨8,[.tmp 2],Uh es bytes z (.move<|.const<|.bool Zb)<|.move<|.const<|.slice Z 0 0⟩
def aa0 (es bytes:Nat)(z:List Value):AFn:=⟨8,[.tmp 2],Uh es bytes z (.move<|.const<|.bool Za)<|.append es bytes (.const<|.slice Z 0 0)<|.tmp 0⟩
def yj (s:Sh):List Alt:=[⟨.ret,[],⟨[.full 0],[],[.arr Zb s]⟩⟩]
theorem DU {P:Program}{bytes:Nat}{z:List Value}{s:Sh}(j:Vc P f=O (PG es bytes z))
  (r: ∀t:B8<|tR.shs ⟨[.leaf<|.list s],[],[]⟩,ot id ⟨[.leaf<|.list s],[],[]⟩ (Qv _ t)=O ([.lst s t],[],[]))
  (u: ∀l:List<|El s,DW (au7 es bytes z) ⟨[],[]⟩ [.leaf<|.list s] [] (yj s) .no l=gd (fS (0+b8 l) bytes) (O l))
  (x:DW (aa0 es bytes z) ⟨[],[]⟩ [.leaf<|.list s] [] (yj s) .no ([]:List<|El s)=gd (fS (0+0) bytes) (O ([]:List<|El s))):
  fd P ⟨f,[.leaf<|.list s],[],yj s,λl:List (El s)=>gd (fS (0+b8 l) bytes)<|O l⟩:=by
 refine Ns (at':= .no) (tab:=⟨[],[]⟩) (fW.nil P) (aa.nil P) j (λt=>⟨_,r t⟩) λt o vs D S d C c a i=> ?_
 have m:vs=[.lst s t]:=by
  grind
 subst m;cases i with
 |cons i B=>
 cases B
 have no: ∀q n g (a:List Value),a=[.slice (O q) n g]->∃b,DW ⟨(PG es bytes z).ntmps,(PG es bytes z).results,b⟩ ⟨[],[]⟩ [.leaf<|.list s] [] (yj s) .no t=O o/\
   ∀T (_:pF T) Q σ,rD T b Q (bj.of a) σ->rD T (PG es bytes z).body Q (bj.of a) σ:=by
  rintro q n g a rfl;exact⟨_,(u t).trans d,λT _ Q σ h=>h⟩
 cases i with
 | @lst s l b p n g y A E F I J K L=>exact no _ _ _ _ rfl
 | @lstn s q A=>
  cases q with
  |some q=>exact no _ _ _ _ rfl
  |none=>exact⟨_,x.trans d,λT _ Q σ h=>h⟩
end
section
theorem Mp {P:Program}{a:B8 (tR.shs ⟨vals,[],objs⟩)->Option (pI outs)}(h: ∀t,a t=Z):fd P ⟨f,vals,objs,outs,a⟩:=by
 intro B μ σ w d cargs K l;have⟨c,b,z,t,o,p,v,n,m,S',q,r,u,s,x,g,j,i,_⟩:=l
 grind
end
open Go.Ab Go.ChangeShapes Go.WideShapes
section
def XO {P:Program}{d:B8 (tR.shs ⟨vals,[],[]⟩)->Option (pI F4)}(h:fd P ⟨f,vals,[],F4,d⟩)(l:W3 P w){args:List Value}(t:B8<|tR.shs ⟨vals,[],[]⟩)
  (b: ∀r∈rows,∀(i:Nat) (v:Value),r.cells[i]?=O v->∃v',w.cell? ⟨r.c,r.o+i,Z⟩=O v'/\VR (nY rows) v v') (a:F2 (VR<|nY rows) args cargs.toList)
  (p:F2 (VRel<|wy<|qE w.heap.size rows) vs args) (m:(bA (mS [] 0 [] ⟨vals,[],[]⟩ vs) λst=>QO _ st.ls)=O t) (n:d t=O Za) (q:Cl f=Zb:=by rfl):
  Calls P f cargs w λe w'=>e= .returned (.bool Za)/\Go.RowKit.Below w.heap.size w w':=by
 have⟨st,g,j⟩:=ag m;exact ae2 h l b a p g j n q
end
section
def Co {α δ:Type}{f:α->Option (α⊕δ)}{n:Nat}(F:Nat->α){c:δ}(o:n<9223372036854775808)(j: ∀i,i<n->f (F i)=O (.inl<|F<|i+1))(h:f (F n)=O (.inr c)):aq f fy (F 0)=O c:=by
 have a: ∀k i m,i+k=n->k<m->aq f m (F i)=O c:=by
  intro k;induction k with
  |zero=>
   intro i m d g;obtain⟨m,rfl⟩: ∃b,m=b+1:=⟨m-1,V1⟩
   have:i=n:=by omega
   subst this;show(f<|F i).bind _=_;rw[h];rfl
  |succ k l=>
   intro i m d g;obtain⟨m,rfl⟩: ∃b,m=b+1:=⟨m-1,V1⟩
   show(f<|F i).bind _=_;rw[j i V1];exact l (i+1) m V1 V1
 exact a n 0 fy V1 (by unfold fy;omega)
def iW {γ δ:Type}{f:(Int×γ)->Option ((Int×γ)⊕δ)}{n:Nat}(F:Nat->γ){c:δ}(b:n<9223372036854775808)(d: ∀i,i<n->f ((i:Int),F i)=O (.inl (((i+1:Nat):Int),F<|i+1)))(a:f ((n:Int),F n)=O (.inr c)):aq f fy (0,F 0)=O c:=
 Co (λi=>((i:Int),F i)) b d a
def rV {δ:Type}{f:Int->Option (Int⊕δ)}{n:Nat}{c:δ}(b:n<9223372036854775808)(d: ∀i:Nat,i<n->f (i:Int)=O (.inl ((i+1:Nat):Int)))(a:f (n:Int)=O (.inr c)):aq f fy 0=O c:=
 Co (λi=>(i:Int)) b d a
def bd5 (n:Int):IntKind.u64.wrap n=n % 18446744073709551616:=by rfl
def gU {n:Int}(h:0<=n/\n<18446744073709551616):IntKind.u64.wrap n=n:=by
 rw[bd5];omega
def Zj {n:Int}(h:0<=n/\n<18446744073709551616:=by omega):IntKind.u64.wrap n=n:=gU h
theorem bq {k n:Nat}(h:k<n):ix (k:Int) n=O k:=by
 unfold ix
 grind
theorem ic {a b:Int}{n:Nat}(h:0<=a/\a<=b/\b<=n):gT a b n=Za:=by
 unfold gT
 grind
def Zk {a b:Int}{n:Nat}(h:0<=a/\a<=b/\b<=n:=by omega):gT a b n=Za:=ic h
def Qu {a b:Int}(h:0<=a):Int.tdiv a b=a / b:=Int.tdiv_eq_ediv_of_nonneg h
end
section
open List renaming append_nil->aD,append_assoc->bB,length_append->cB,getElem?_eq_getElem->cV,length_cons->cW,length_take->cX
open Nat renaming beq->aB,eq_of_beq_eq_true->bD,zero_add->cD
open Option renaming map_some->cY
def fU (w:World):(s:Sh)->List Value->El s->Prop
 | .int k,d,n=>d=[.int k n]/\(Lit.int k n).wf=Za
 | .bool,d,b=>d=[.bool b]
 | .str,d,l=> ∃s:ByteArray,d=[.string s]/\au s=l/\s.size<=maxLen
 | .list s,d,l=>(d=[.slice Z 0 0]/\l=[])∨∃(a:Addr) (h g:Nat) (m:List<|El s),d=[.slice (O a) h g]/\h<=g/\g<=maxLen/\b8 m=g/\l=m.take h/\
   ∀i y,m[i]?=O y->∃q,(∀j z,q[j]?=O z->w.cell? (a.add<|i*s.w+j)=O z)/\fU w s q y
 | .pair a b,d,x=> ∃o p,d=o++p/\fU w a o x.1/\fU w b p x.2
def fU.len : ∀{s:Sh} {cs:List Value} {x:El s},fU w s cs x->b8 cs=s.w
 | .int k,_,_,⟨h,_⟩=>by subst h;rfl
 | .bool,_,_,h=>by
  have h:_=[Value.bool _]:=h;subst h;rfl
 | .str,_,_,⟨s,h,_⟩=>by subst h;rfl
 | .list s,_,_,h=>by
  rcases h with⟨h,_⟩|⟨a,len,d,m,h,_⟩<;>subst h<;>rfl
 | .pair a b,_,_,⟨j,l,h,g,i⟩=>by
  subst h;rw[cB,g.len,i.len];rfl
def ya (w:World)(rows:List Row):Prop:= ∀r∈rows,∀(i:Nat) (v:Value),r.cells[i]?=O v->∃a,w.cell? ⟨r.c,r.o+i,Z⟩=O a/\VR (nY rows) v a
theorem Qk (rows more:List Row):(nY rows).le<|nY<|rows++more:=by
 intro b g h;simp only[nY]at h⊢
 grind
theorem WH (a:Nat)(rows more:List Row):Le (wy<|qE a rows)<|wy<|qE a<|rows++more:=by
 have g: ∀k,ae ([]:ah) k= .dead:=λk=>by cases k<;>rfl
 refine⟨Nat.le_refl _,λk d h=>(Nat.not_lt_zero _ h).elim,λk _ h=> ?_,λk d b y h=>(Nat.not_lt_zero _ h).elim,λb y h _=> ?_,λb y _ _ h=>(LQ b<|.inl h).elim, ?_,rfl⟩
 .rfl
 .simp only[wy,qE]at h⊢
  grind
 show b8 rows<=b8 (rows++more);rw[cB];omega
def YG {μ μ':Mu}(h:μ.le μ'){l m:List Value}(a:F2 (VR μ) l m):F2 (VR μ') l m:=a.imp λ_ _ b=>b.mono h
def ya.app {more:List Row}(h:ya w rows)(g: ∀r∈more,∀(i:Nat) (v:Value),r.cells[i]?=O v->∃v',w.cell? ⟨r.c,r.o+i,Z⟩=O v'/\VR (nY<|rows++more) v v'):ya w<|rows++more:=by
 intro r hr i v a;rcases aF.1 hr with hr|hr
 .obtain⟨v',b,d⟩:=h r hr i v a;exact⟨v',b,d.mono<|Qk _ _⟩
 exact g r hr i v a
theorem at1 (a:Addr)(i j:Nat):(a.add i).add j=a.add (i+j):=by
 unfold Addr.add
 grind
structure Built (w:World)(rows more:List Row)(acs cs:List Value)(vs:List VV):Prop where
 ok:ya w (rows++more)
 vr:F2 (VR<|nY<|rows++more) acs cs
 vv:F2 (VRel<|wy<|qE w.heap.size<|rows++more) vs acs
def Built.app {b g:List Row}{a1 a2 c1 c2:List Value}{h i:List VV}(d:Built w rows b a1 c1 h)(a:Built w (rows++b) g a2 c2 i):Built w rows (b++g) (a1++a2) (c1++c2)<|h++i:=by
 refine⟨?_, ?_, ?_⟩
 .rw[<-bB];exact a.ok
 .rw[<-bB];exact(YG (Qk _ _) d.vr).append a.vr
 rw[<-bB];exact(VRel.frames (WH _ _ _) d.vv).append a.vv
def Built.nil (h:ya w rows):Built w rows [] [] [] []:=⟨by rw[aD];exact h, .nil, .nil⟩
theorem Y3 {w:World}{s:Sh}(r: ∀{cs:List Value} {x:El s},fU w s cs x->∀{rows:List Row},ya w rows->∃more b,Built w rows more b cs<|bn s x)(a:Addr): ∀(g:List<|El s) (k:Nat),
  (∀i y,g[i]?=O y->∃l,(∀j z,l[j]?=O z->w.cell? (a.add<|(k+i)*s.w+j)=O z)/\fU w s l y)->∀{rows:List Row},ya w rows->
  ∃more b d,Built w rows more b d (fh s g)/\b8 d=b8 g*s.w/\∀i z,d[i]?=O z->w.cell? (a.add<|k*s.w+i)=O z
 |[],k,_,rows,h=>⟨[],[],[], .nil h,V2,λi z q=>by simp at q⟩
 |y::g,k,p,rows,h=>by
  have⟨l,J,m⟩:=p 0 y rfl;have⟨D,t,o⟩:=r m h
  have⟨E,u,A,B,C,K⟩:=Y3 r a g (k+1) (λi F n=>by
   have⟨I,L,M⟩:=p (i+1) F (by simpa using n)
   grind) o.ok
  refine⟨D++E,t++u,l++A, ?_, ?_,λi z q=> ?_⟩
  .have:=o.app B;rw[fO];exact this
  .rw[cB,C,m.len,cW,Nat.succ_mul];omega
  .have N:=m.len
   grind
theorem build {w:World}: ∀(s:Sh) {cs:List Value} {x:El s},fU w s cs x->∀{rows:List Row},ya w rows->∃more T,Built w rows more T cs (bn s x)
 | .int k,_,n,⟨h,_⟩,rows,A=>by
  subst h;exact⟨[],_,by rw[aD];exact A, .cons (.int _ _) .nil, .cons (.int _ _) .nil⟩
 | .bool,_,b,h,rows,A=>by
  have h:_=[Value.bool _]:=h;subst h;exact⟨[],_,by rw[aD];exact A, .cons (.bool _) .nil, .cons (.bool _) .nil⟩
 | .str,_,l,⟨s,h,B,_⟩,rows,A=>by
  subst h;exact⟨[],_,by rw[aD];exact A, .cons (.string _) .nil, .cons (.str B) .nil⟩
 | .pair a b,_,x,⟨c1,c2,h,I,B⟩,rows,A=>by
  subst h;obtain⟨q,C,J⟩:=build a I A;obtain⟨m2,a2,h4⟩:=build b B J.ok;exact⟨q++m2,C++a2,J.app h4⟩
 | .list s,_,l,h,rows,A=>by
  rcases h with⟨h,B⟩|⟨a,g,d,Q,h,E,hcm,Y,V,hy⟩
  .subst h;subst B;exact⟨[],_,by rw[aD];exact A, .cons .nils .nil, .cons (.lstn λz N=>by cases N) .nil⟩
  .subst h;obtain⟨q,C,c1,I,B,J⟩:=Y3 (λu=>build s u) a Q 0 (λi y h=>by rw[cD];exact hy i y h) A;have hw:=mX s;rw[Y]at B;have U:C.length=d*s.w:=by rw[I.vr.length,B]
   let j:Row:=⟨a.block,a.off,d*s.w,s.w,C⟩
   have p:0<d->a.spot=Z/\a.block<w.heap.size:=by
    intro u;have F:0<c1.length:=by rw[B];exact Nat.mul_pos u hw
    have:=J 0 _<|cV F;rw[Nat.zero_mul,Nat.add_zero]at this;have t:=Yk this;exact⟨t,au4 (x:=⟨a.block,a.off+0,Z⟩)<|Ld t this⟩
   have D: ∀(rs:List Row),(rows++(q++[j])++rs)[(rows++q).length]?=O j:=by
    grind
   have M:(nY<|rows++(q++[j])).at (rows++q).length ⟨a.block,a.off,d*s.w,s.w,0,Z⟩:=by
    have:=D [];rw[aD]at this;refine⟨?_,rfl⟩;simp only[nY,this];rfl
   have W:ya w<|rows++(q++[j]):=by
    rw[<-bB];refine I.ok.app λr X i v hv=> ?_
    have:r=j:=by simpa using X
    subst this;obtain⟨v',q1,q2⟩:=I.vr.get i v hv;have u:=J i v' q1;rw[Nat.zero_mul,cD]at u
    have K:0<d:=by
     grind
    exact⟨v',Ld (p K).1 u,q2.mono<|Qk _ _⟩
   refine⟨q++[j],[.slice (O ⟨(rows++q).length,0,Z⟩) g d],W, ?_, ?_⟩
   .refine .cons ?_ .nil;by_cases u:d=0
    .have:g=0:=by omega
     subst u;subst this;exact .slice0 _ M
    .have t:=(p V1).1;obtain⟨b,o,sp⟩:=a;simp only at t;subst t;exact .slice (o:=0) M E (Nat.le_refl _) V2
   .refine .cons ?_ .nil;by_cases u:d=0
    .have e:g=0:=by omega
     subst u;subst e;rw[V,List.take_zero];exact .lstn λz N=>by injection N with N;rw[<-N]
    .have F:=(p V1).2
     have hm:(wy<|qE w.heap.size<|rows++(q++[j])).σ.m (rows++q).length=O ⟨C,Zb,s.w⟩:=by
      have:=D [];rw[aD]at this;simp only[wy,qE,this,zG];exact zE F
     have L:l.length=g:=by rw[V,cX];omega
     refine .lst (LQ _) hm rfl L.symm E ?_ ?_
     .show 0+g*s.w<=C.length;rw[U,cD];exact Nat.mul_le_mul_right _ E
     .show F2 _ _ ((C.drop 0).take<|g*s.w);rw[List.drop_zero,V]
      have h5:F2 (VRel<|wy<|qE w.heap.size<|rows++(q++[j])) (fh s Q) C:=by
       rw[<-bB];exact VRel.frames (WH _ _ _) I.vv
      have h6:fh s (Q.take g)=(fh s Q).take (g*s.w):=kU;rw[h6];exact h5.take _
def yS :List Sh->Sh
 |[]=> .bool
 |[a]=>a
 |a::b::r=> .pair a<|yS<|b::r
def So {w:World}: ∀{l1 d:List Sh} {c1 c2:List Value},l1≠[]->d≠[]->(∃x,fU w (yS l1) c1 x)->(∃x,fU w (yS d) c2 x)->∃x,fU w (yS<|l1++d) (c1++c2) x
 |[a],b::r,c1,c2,_,_,⟨x,g⟩,⟨y,h⟩=>⟨(x,y),c1,c2,rfl,g,h⟩
 |a::b::r,d,c1,c2,_,o,⟨x,i,j,l,g,h⟩,m=>by
  subst l;have⟨z,n⟩:=So (l1:=b::r) V2 o ⟨x.2,h⟩ m;exact⟨(x.1,z),i,j++c2,by rw[bB],g,n⟩
def G0 {α:Type}(P:Program)(r:TypeId->Option (List Sh))(b:α->TypeId)(off:α->Nat):List α->Nat->Option (List Sh)
 |[],_=>O []
 |f::l,o=>cond (aB (off f) o) (match r (b f)with
  |some (s::a)=>cond (aB (b8<|s::a)<|P.cellsOf<|b f) ((G0 P r b off l<|o+b8 (s::a)).map ((s::a)++ ·)) Z
  |_=>Z) Z
def tD (P:Program):Nat->TypeId->Option (List Sh)
 |0,_=>Z
 |n+1,t=>match P.underlying t with
  |some (.int k)=>O [.int k]
  |some .bool=>O [.bool]
  |some .string=>O [.str]
  |some (.slice e)=>(match tD P n e with
   |some (s::a)=>cond (aB (b8<|s::a)<|P.cellsOf e) (O [.list<|yS<|s::a]) Z
   |_=>Z)
  |some (.struct b)=>(match G0 P (tD P n) Field.type Field.offset b.toList 0 with
   |some L=>cond (aB (b8 L)<|P.cellsOf t) (O L) Z
   |none=>Z)
  |some (.array m e)=>(match G0 P (tD P n) (λ_=>e) (λi=>i*P.cellsOf e) (List.range m) 0 with
   |some L=>cond (aB (b8 L)<|P.cellsOf t) (O L) Z
   |none=>Z)
  |_=>Z
section
variable {H:Type} {enc:TypeId×Value->H} {P:Program} {w:World} {base:Nat} {held:Bool}
theorem Ea {α:Type}{n m:Nat}{a:α->TypeId}{off:α->Nat}(A: ∀{t:TypeId} {l:List Sh} {cs:List Value} {x:DataW H×List MemPlace},tD P n t=O l->l≠[]->DataW.trod enc P w base (λ_=>Za) held m t cs=O x->∃y,fU w (yS l) cs y){cs:List Value}:
  ∀(b:List α) (o:Nat) (L:List Sh),G0 P (tD P n) a off b o=O L->L≠[]->(∀(i:Nat) (f:α),b[i]?=O f->∃x,DataW.trod enc P w base (λ_=>Za) held m (a f) ((cs.drop<|off f).take<|P.cellsOf<|a f)=O x)->
   ∃y,fU w (yS L) ((cs.drop o).take<|b8 L) y
 |[],o,L,h,j,_=>by
  injection h with h
  exact(j h.symm).elim
 |f::b,o,L,h,j,u=>by
  have⟨y,z⟩:=u 0 f rfl;simp only[G0]at h;cases p:aB (off f) o with
  |false=>rw[p]at h;cases h
  |true=>
   have p:=bD p;subst p;rw[Nat.beq_refl,zC]at h;cases r:tD P n (a f)with
   |none=>rw[r]at h;cases h
   |some l=>
    rw[r]at h;cases l with
    |nil=>cases h
    |cons s B=>
     simp only at h;cases d:aB (b8<|s::B) (P.cellsOf<|a f)with
     |false=>rw[d]at h;cases h
     |true=>
      rw[d,zC]at h;have d:=bD d;rw[<-d]at z;have C:=A r V2 z;cases q:G0 P (tD P n) a off b (off f+b8 (s::B))with
      |none=>rw[q]at h;cases h
      |some L2=>
       rw[q,cY]at h;cases h;rw[cB,List.take_add,List.drop_drop];cases L2 with
       |nil=>
        grind
       |cons F E=>exact So V2 V2 C<|Ea A b _ _ q V2 λi g D=>u (i+1) g (by simpa using D)
theorem OE {β:Type}{p:Nat->β->Prop}: ∀(n:Nat),(∀i,i<n->∃y,p i y)->∃a:List β,b8 a=n/\∀i y,a[i]?=O y->p i y
 |0,_=>⟨[],rfl,λi y h=>by simp at h⟩
 |n+1,h=>by
  have⟨a,b,d⟩:=OE n λi j=>h i V1
  have⟨y,g⟩:=h n V1;refine⟨a++[y],by simp[b],λi z l=> ?_⟩
  grind
theorem Xi {a:Addr}{c:Nat}{b:List Value}(h:w.cells? base a c=O b):b8 b=c/\∀j z,b[j]?=O z->w.cell? (a.add j)=O z:=by
 unfold World.cells? at h;split at h
 .have d:=mapM_some_length h;rw[List.length_range]at d;refine⟨d,λj z i=> ?_⟩
  have g:j<c:=by
   grind
  have:=mapM_some_get h j j aY;rw[this,i]
 cases h
def ag7 : ∀(l:List Sh),l≠[]->(∀s∈l,s.w=1)->(yS l).w=b8 l
 |[a],_,h=>h a V2
 |a::b::r,_,h=>by
  show a.w+(yS<|b::r).w=_;rw[h a V2,ag7 (b::r) V2 λs d=>h s<|List.mem_cons_of_mem _ d];simp only[cW];omega
def PS {α:Type}{n:Nat}{b:α->TypeId}{off:α->Nat}(m: ∀{t:TypeId} {l:List Sh},tD P n t=O l->∀s∈l,s.w=1): ∀(a:List α) (o:Nat) (L:List Sh),G0 P (tD P n) b off a o=O L->∀s∈L,s.w=1
 |[],o,L,h=>by
  cases h;intro s r;cases r
 |f::a,o,L,h=>by
  simp only[G0]at h;cases i:aB (off f) o with
  |false=>rw[i]at h;cases h
  |true=>
   rw[i,zC]at h;cases g:tD P n (b f)with
   |none=>rw[g]at h;cases h
   |some l=>
    rw[g]at h;cases l with
    |nil=>cases h
    |cons s p=>
     simp only at h;cases j:aB (b8<|s::p) (P.cellsOf<|b f)with
     |false=>rw[j]at h;cases h
     |true=>
      rw[j,zC]at h;cases d:G0 P (tD P n) b off a (o+b8 (s::p))with
      |none=>rw[d]at h;cases h
      |some L2=>
       rw[d,cY]at h;cases h;intro q hq;rcases aF.1 hq with hq|hq
       .exact m g q hq
       .exact PS m a _ _ d q hq
theorem PU : ∀(n:Nat) {t:TypeId} {l:List Sh},tD P n t=O l->∀s∈l,s.w=1
 |0,t,l,h=>by cases h
 |n+1,t,l,h=>by
  have one: ∀{a:Sh},a.w=1->O [a]=O l->∀s∈l,s.w=1:=by
   grind
  simp only[tD]at h;split at h
  .exact one rfl h
  .exact one rfl h
  .exact one rfl h
  .split at h
   .rename_i e hu x s ss hr;cases b:aB (b8<|s::ss) (P.cellsOf e)with
    |false=>rw[b]at h;cases h
    |true=>rw[b,zC]at h;exact one rfl h
   .cases h
  .split at h
   .rename_i L hf;cases b:aB (b8 L) (P.cellsOf t)with
    |false=>rw[b]at h;cases h
    |true=>
     rw[b,zC]at h;cases h;exact PS (λh=>PU n h) _ _ _ hf
   .cases h
  .split at h
   .rename_i L hf;cases b:aB (b8 L) (P.cellsOf t)with
    |false=>rw[b]at h;cases h
    |true=>
     rw[b,zC]at h;cases h;exact PS (λh=>PU n h) _ _ _ hf
   .cases h
  .cases h
theorem Cv : ∀(n:Nat) {m:Nat} {t:TypeId} {l:List Sh} {cs:List Value} {x:DataW H×List MemPlace},tD P n t=O l->l≠[]->DataW.trod enc P w base (λ_=>Za) held m t cs=O x->∃y,fU w (yS l) cs y
 |0,m,t,l,cs,x,h,_,_=>by cases h
 |n+1,m,t,l,cs,x,h,E,u=>by
  simp only[tD]at h;split at h
  .rename_i k hu;cases h;have⟨a,d,_,J⟩:=DataW.trod_int hu u;exact⟨a,d,J⟩
  .rename_i hu;cases h;have⟨a,d,_⟩:=DataW.trod_bool hu u;exact⟨a,d⟩
  .rename_i hu;cases h;have⟨a,d,_,J⟩:=DataW.trod_string hu u;exact⟨_,a,d,rfl,J⟩
  .rename_i e hu;split at h
   .rename_i s ss hr;cases b:aB (b8<|s::ss) (P.cellsOf e)with
    |false=>rw[b]at h;cases h
    |true=>
     rw[b,zC]at h;cases h;have b:=bD b;have hw:(yS<|s::ss).w=P.cellsOf e:=by rw[ag7 _ V2<|PU n hr,b]
     rcases DataW.trod_slice hu u with⟨d,_⟩|⟨a,g,o,K,V,F,_,d,_,hb,Q,M,hel,he,p⟩
     .exact⟨([]:List<|El<|yS<|s::ss), .inl ⟨d,rfl⟩⟩
     .have D: ∀i,i<o->∃y:El<|yS<|s::ss,∃I,(∀j z,I[j]?=O z->w.cell? (a.add<|i*(yS<|s::ss).w+j)=O z)/\fU w (yS<|s::ss) I y:=by
       intro i U
       have r: ∃q,(w.cells? base (a.add<|i*P.cellsOf e) (P.cellsOf e)).bind (DataW.trod enc P w base (λ_=>Za) held F e)=O q:=by
        by_cases N:i<g
        .rw[he i N]
         grind
        .obtain⟨h8,h9⟩:=p.1 rfl;have:=h9 (i-g) V1
         grind
       have⟨q,hq⟩:=r;have⟨I,A,B⟩:=ag hq;have⟨y,C⟩:=Cv n hr V2 B;have⟨h4,X⟩:=Xi A;exact⟨y,I,λj z hz=>by rw[hw,<-at1];exact X j z hz,C⟩
      have⟨W,Y,h7⟩:=OE o D;exact⟨W.take g, .inr ⟨a,g,o,W,d,Q,M,Y,rfl,h7⟩⟩
   .cases h
  .rename_i fs hu;split at h
   .rename_i L hf;cases b:aB (b8 L) (P.cellsOf t)with
    |false=>rw[b]at h;cases h
    |true=>
     rw[b,zC]at h;cases h;have b:=bD b;have⟨xs,F,_,_,hl,T,hx⟩:=DataW.trod_struct hu u
     have:=Ea (cs:=cs) (λA B C=>Cv n (m:=F) A B C) fs.toList 0 _ hf E λi f U=>by
      grind
     grind
   .cases h
  .rename_i k e hu;split at h
   .rename_i L hf;cases b:aB (b8 L) (P.cellsOf t)with
    |false=>rw[b]at h;cases h
    |true=>
     rw[b,zC]at h;cases h;have b:=bD b;have⟨xs,F,_,_,hl,T,hx⟩:=DataW.trod_array hu u
     have:=Ea (cs:=cs) (λA B C=>Cv n (m:=F) A B C) (List.range k) 0 _ hf E λi f U=>by
      grind
     grind
   .cases h
  .cases h
end
def isAgg (P:Program)(t:TypeId):Bool:=match P.underlying t with
 |some (.struct _)|some (.array _ _)=>Za
 |_=>Zb
def Fv (w:World):(b:Bool)->(s:Sh)->Value->El s->Prop
 |true,s,v,x=> ∃a,v= .agg a/\fU w s a.toList x
 |false,s,v,x=>fU w s [v] x
theorem SA {H:Type}{enc:TypeId×Value->H}{P:Program}{base:Nat}{held:Bool}{n:Nat}{t:TypeId}{l:List Sh}{r:Reach}{b0:Nat}{d:DataW H}{s:List MemPlace}(h:tD P n t=O l)(j:l≠[])
  (a:Value.okWide P w r b0 t v) (p:DataW.Trod enc P w base (λ_=>Za) held t v d s): ∃x:El<|yS l,Fv w (isAgg P t) (yS l) v x:=by
 have⟨m,q⟩:=p;have⟨x,i⟩:=Cv n h j q;refine⟨x, ?_⟩
 have b:isAgg P t=Zb->(∀g,v≠ .agg g)->Fv w (isAgg P t) (yS l) v x:=by
  intro o u;rw[o]
  have:v.cells.toList=[v]:=by
   unfold Value.cells
   grind
  rw[this]at i;exact i
 cases n with
 |zero=>cases h
 |succ n=>
  simp only[tD]at h;split at h
  .rename_i k hu;refine b Zt λg e=> ?_
   subst e;simp[Value.okWide,hu,Cell.okWide,Cell.ok]at a
  .rename_i hu;refine b Zt λg e=> ?_
   subst e;simp[Value.okWide,hu,Cell.okWide,Cell.ok]at a
  .rename_i hu;refine b Zt λg e=> ?_
   subst e;simp[Value.okWide,hu,Cell.okWide,Cell.ok]at a
  .rename_i e hu;refine b Zt λg e=> ?_
   subst e;simp[Value.okWide,hu,Cell.okWide,Cell.ok]at a
  .rename_i fs hu;simp only[Value.okWide,hu]at a;obtain⟨g,rfl,_,_⟩:=a;rw[show isAgg P t=Za by simp[isAgg,hu]];exact⟨g,rfl,i⟩
  .rename_i k e hu;simp only[Value.okWide,hu]at a;obtain⟨g,rfl,_,_⟩:=a;rw[show isAgg P t=Za by simp[isAgg,hu]];exact⟨g,rfl,i⟩
  .cases h
@[reducible] def All :List (Bool×Sh)->Type
 |[]=>Unit
 |[k]=>El k.2
 |k::a::r=>El k.2×All (a::r)
def O9 (w:World):(ks:List<|Bool×Sh)->List Value->All ks->Prop
 |[],vs,_=>vs=[]
 |[k],vs,x=> ∃v,vs=[v]/\Fv w k.1 k.2 v x
 |k::b::r,vs,x=> ∃v a,vs=v::a/\Fv w k.1 k.2 v x.1/\O9 w (b::r) a x.2
def aL5 (k:Bool×Sh)(x:El k.2):VV:=cond k.1 (.agg<|bn k.2 x)<|(bn k.2 x).headD .undef
def YR :(ks:List<|Bool×Sh)->All ks->List VV
 |[],_=>[]
 |[k],x=>[aL5 k x]
 |k::a::r,x=>aL5 k x.1::YR (a::r) x.2
def NK {k:Bool×Sh}{x:El k.2}(h:Fv w k.1 k.2 v x)(i:ya w rows): ∃more m,Built w rows more [m] [v] [aL5 k x]:=by
 have⟨b,s⟩:=k;cases b with
 |true=>
  obtain⟨z,rfl,n⟩:=h;have⟨more,g,d⟩:=build s n i;exact⟨more, .agg g.toArray,d.ok, .cons (.agg (by simpa using d.vr)) .nil, .cons (.agg (by simpa using d.vv)) .nil⟩
 |false=>
  have⟨more,g,d⟩:=build s h i;have o:=d.vr;have p:=d.vv;cases o with
  | @cons a _ j _ q r=>
   cases r;refine⟨more,a,d.ok, .cons q .nil, ?_⟩;show F2 _ [(bn s x).headD .undef] _;generalize bn s x=l at*;cases p with
   |cons t u=>
    cases u;exact .cons t .nil
def K9 {w:World}: ∀(ks:List<|Bool×Sh) {vs:List Value} {x:All ks},O9 w ks vs x->∀{rows:List Row},ya w rows->∃more a,Built w rows more a vs (YR ks x)
 |[],vs,x,h,rows,b=>by
  have h:vs=[]:=h;subst h;exact⟨[],[], .nil b⟩
 |[k],vs,x,⟨v,h,g⟩,rows,b=>by
  subst h;have⟨more,d,i⟩:=NK g b;exact⟨more,[d],i⟩
 |k::m::r,vs,x,⟨v,p,h,g,i⟩,rows,b=>by
  subst h;have⟨n,d,j⟩:=NK g b;have⟨o,a,l⟩:=K9 (m::r) i j.ok;exact⟨n++o,d::a,j.app l⟩
def inK (k:IntKind)(n:Int):Prop:=match k with
 | .i64=> -9223372036854775808<=n/\n<=9223372036854775807
 | .u64=>0<=n/\n<=18446744073709551615
 | .u8=>0<=n/\n<=255
 |_=>True
def aP0 {k:IntKind}{n:Int}(h:(Lit.int k n).wf=Za):inK k n:=by
 cases k<;>first|trivial|exact aU5 h|exact aU6 h|exact bd4 h
def YD :(s:Sh)->El s->Prop
 | .int k,n=>inK k n
 | .bool,_=>True
 | .str,l=>b8 l<=9223372036854775807/\∀n∈l,0<=n/\n<=255
 | .list s,l=>b8 l<=9223372036854775807/\∀x∈l,YD s x
 | .pair a b,x=>YD a x.1/\YD b x.2
def fU.fine : ∀{s:Sh} {cs:List Value} {x:El s},fU w s cs x->YD s x
 | .int k,_,_,⟨_,h⟩=>aP0 h
 | .bool,_,_,_=>trivial
 | .str,_,_,⟨s,_,h,j⟩=>by
  subst h;refine⟨?_,λn m=> ?_⟩
  .unfold au;rw[List.length_map];unfold maxLen at j;simpa using j
  .unfold au at m;obtain⟨b,_,rfl⟩:=aE.1 m;have:=b.toNat_lt;omega
 | .list s,_,l,h=>by
  rcases h with⟨_,h⟩|⟨a,B,o,E,_,u,d,A,t,z⟩
  .subst h;exact⟨Nat.zero_le _,λx g=>by cases g⟩
  .subst t;refine⟨by rw[cX];unfold maxLen at d;omega,λx g=> ?_⟩;obtain⟨i,r,rfl⟩:=List.getElem_of_mem<|List.mem_of_mem_take g;have⟨F,_,h⟩:=z i _<|cV r;exact h.fine
 | .pair a b,_,_,⟨C,D,_,p,q⟩=>⟨p.fine,q.fine⟩
def Fv.fine {b:Bool}{s:Sh}{x:El s}(h:Fv w b s v x):YD s x:=by
 cases b with
 |true=>obtain⟨a,_,h⟩:=h;exact h.fine
 |false=>exact fU.fine h
def ae1 {P:Program}{a:B8 (tR.shs ⟨vals,[],[]⟩)->Option (pI F4)}(h:fd P ⟨f,vals,[],F4,a⟩)(j:W3 P w)(ks:List<|Bool×Sh)(x:All ks)(t:B8<|tR.shs ⟨vals,[],[]⟩)
  (i:O9 w ks cargs.toList x) (l:(bA (mS [] 0 [] ⟨vals,[],[]⟩ (YR ks x)) λst=>QO _ st.ls)=O t) (d:a t=O Za) (m:Cl f=Zb:=by rfl):
  Calls P f cargs w λe w'=>e= .returned (.bool Za)/\Go.RowKit.Below w.heap.size w w':=by
 obtain⟨rows,g,b⟩:=K9 ks i (rows:=[]) (λr d=>by cases d);exact XO h j t b.ok b.vr b.vv l d m
end
end Go.V
