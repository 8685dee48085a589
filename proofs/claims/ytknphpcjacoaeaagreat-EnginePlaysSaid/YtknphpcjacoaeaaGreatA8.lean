/- A part of the proof. No condition. -/
import Derived.Test.YtknphpcjacoaeaaGreatA7
import Derived.Test.YtknphpcjacoaeaaGreatA3
import Derived.IntWalk
set_option linter.unusedVariables false
set_option linter.unusedSimpArgs false
set_option linter.unusedSectionVars false
namespace Go.V
open Go.Ab
open Option renaming some->O,none->Y
open Bool renaming true->Za,false->Zb
open Decidable renaming decide->Zc
variable {c c' c0:Ctx}{ea ea':cm}{e:dk}{op:AOp}{v:Value}{Z Z1:Hp}{fx:List Nat}{f:FuncId}{chk:M9}{it:LItem}{S:ak}{vals:List Sk}{at':AT}{sk:zd}{vs:List VV}{objs:List OSk}{outs:List Alt}{tab:List FSum}
section
open Bool renaming and_eq_true -> aD, or_eq_true -> cD
open List renaming mem_cons_of_mem -> cB, map_congr_left -> fB
open Nat renaming beq -> aB, eq_of_beq_eq_true -> bB, lt_of_lt_of_le -> bD, beq_refl -> dB, le_of_ble_eq_true -> dD, le_refl -> eD
def wB {β:Type}(c:Ctx)(k:dk->ak->Option β)(y:β):cm->Hp->Prop:=λea Z'=> ∃a c',c'.Z=Z'/\Le c c'/\Rel c'/\ba c' a ea/\k a c'.S=O y
theorem wB.of {β:Type}{c1:Ctx}{k:dk->ak->Option β}{y:β}(h:Le c c1){Z':Hp}(i:wB c1 k y ea Z'):wB c k y ea Z':=by
 obtain⟨a,c',b,d,g⟩:=i;exact⟨a,c',b,h.trans d,g⟩
def wZ {β:Type}(c:Ctx)(k:AExit->dk->ak->Option β)(y:β):AExit->cm->Hp->Prop:=λx=>wB c (k x) y
section
variable {β:Type} {tab:Tab} {y:β}
theorem Pz : ∀{ops:List AOper} {c:Ctx} {e:dk} {ea:cm} {k:dk->ak->Option β},Rel c->ba c e ea->Im tab ops e c.S k=O y->Ab.Di (jf tab) (wB c k y) ops ea c.Z
 |[],c,e,ea,k,s,n,h=>⟨e,c,rfl,Le.refl c,s,n,h⟩
 |o::r,c,e,ea,k,s,n,h=>by
  have b: ∀m,ba c m ea->Py tab o.op m c.S (λv S'=>Im tab r (putO m o.dst v) S' k)=O y->cc (jf tab) o.op ea c.Z λv Z'=>Ab.Di (jf tab) (wB c k y) r (ea.putO o.dst v) Z':=by
   intro m j g;refine sm (cb tab) (λv Z' H=> ?_) (Lh s j g);obtain⟨I,c',C,B,D,_,E,F⟩:=H;subst C;exact Ab.GM (cb tab) (λea' Z'' q=>q.of B) _ _ _ (Pz D ((j.frame B).putO E) F)
  have skip: ∀m,ba c m ea->Im tab r (putO m o.dst (.tup [])) c.S k=O y->Ab.Di (jf tab) (wB c k y) r (ea.putO o.dst undef) c.Z:=λm j g=>Pz s (j.putO (.tup .nil)) g
  simp only[Im]at h;simp only[Ab.Di];split at h
  .rename_i x;have:wanted o ea=Za:=by simp only[wanted,x]
   rw[zE this];exact b e n h
  .rename_i t w x;split at h
   .rename_i p q;have l:=n t;rw[q]at l;have l:=l.bool_inv;have A:wanted o ea=(p==w):=by simp only[wanted,x,l]
    have a:ba c (uz e t (.bool p)) ea:=by
     have:=n.put (d:=t) (VRel.bool (c:=c) p);intro i;have g:=this i;unfold cm.put at g;by_cases z:i=t
     .rw[zE z]at g;subst z;rw[l];exact g
     .rw[zF z]at g;exact g
    rw[A];cases p<;>cases w<;>simp only[zC,zD]at h
    .rw[zE (by decide)];exact b _ a h
    .rw[zF (by decide)];exact skip _ a h
    .rw[zF (by decide)];exact skip _ a h
    .rw[zE (by decide)];exact b _ a h
   .rename_i q;have l:=n t;rw[q]at l
    have A:wanted o ea=Zb:=by
     simp only[wanted,x];generalize ea t=u at l;cases l;rfl
    rw[A,zF (by decide)];exact skip _ n h
   .cases h
def ao4 :Value->Option Nat
 | .pointer (O a)=>O a.block
 | .slice (O a) _ _=>O a.block
 |_=>Y
def Hw :AOp->Operand
 | .load x| .loadN _ x| .sliceArr _ _ x _ _| .slice _ x _ _=>x
 |_=> .global 0
theorem PP {Z':Hp}(t:op.isLoad=Za)(h:op.run ea Z=O (v,Z1))(d: ∀b,ao4 (ea.ev (Hw op))=O b->Z'.m b=Z.m b):op.run ea Z'=O (v,Z'):=by
 cases op<;>try(cases t;done)
 case load x=>
  simp only[AOp.run,Hw]at h d⊢;split at h
  .rename_i b o k;rw[k]at d;rw[d b rfl];split at h
   .rename_i i s;cases g:i.cells[o]? with
    |none=>rw[g]at h;cases h
    |some u=>
     rw[g]at h;injection h with h
     injection h with j q
     subst j;rfl
   .cases h
  .cases h
 case loadN n x=>
  simp only[AOp.run,Hw]at h d⊢;split at h
  .rename_i b o k;rw[k]at d;rw[d b rfl];split at h
   .rename_i i s;cases g:uK i o n with
    |none=>rw[g]at h;cases h
    |some u=>
     rw[g]at h;injection h with h
     injection h with j q
     subst j;rfl
   .cases h
  .cases h
 case slice es x lo hi=>
  cases lo with
  |none=>cases t
  |some l=>
   simp only[AOp.run,Hw]at h d⊢;split at h
   .rename_i a z p k;rw[k]at d
    have w:EG Z' es a (O l)=EG Z es a (O l):=by
     cases a with
     |none=>rfl
     |some a=>simp only[EG];rw[d a.block rfl]
    rw[w];cases g:(p==0||EG Z es a (O l))with
    |false=>rw[g]at h;simp at h
    |true=>
     rw[g,zE rfl]at h;rw[zE rfl];split at h
     .split at h
      .injection h with h
       injection h with j q
       subst j;rfl
      .cases h
     .cases h
   .cases h
 case sliceArr es n x lo hi=>
  simp only[AOp.run,Hw]at h d⊢;split at h
  .rename_i b o k;rw[k]at d;rw[d b rfl];split at h
   .rename_i i s;split at h
    .rename_i g;rw[zE g];split at h
     .split at h
      .split at h
       .rename_i r;injection h with h
        injection h with j q
        subst j;rw[zE r]
       .cases h
      .cases h
     .cases h
    .cases h
   .cases h
  .cases h
theorem av0 {q:Option Addr}(d:op.isLoad=Za)(a:ea.ev (Hw op)= .slice q 0 0)(h:op.run ea Z=O (v,Z1))(Z':Hp):op.run ea Z'=O (v,Z'):=by
 cases op<;>try(cases d;done)
 case load x=>
  simp only[Hw]at a;simp only[AOp.run,a]at h;cases h
 case loadN n x=>
  simp only[Hw]at a;simp only[AOp.run,a]at h;cases h
 case slice es x lo hi=>
  simp only[Hw]at a;simp only[AOp.run,a,beq_self_eq_true,Bool.true_or,if_true]at h⊢;split at h
  .split at h
   .injection h with h
    injection h with b g
    subst b;rfl
   .cases h
  .cases h
 case sliceArr es n x lo hi=>
  simp only[Hw]at a;simp only[AOp.run,a]at h;cases h
def J7 (c:Ctx)(p:Hp->Prop):Option (Option Nat)->Prop
 |none=>True
 |some Y=>p c.Z/\∀Z',(∀b y,c.Z.m b=O y->¬c.mut b->Z'.m b=O y)->p Z'
 |some (O q)=>(ae c.S q).dim≠Y/\p c.Z/\∀Z',(∀b,c.μ q=O b->Z'.m b=c.Z.m b)->p Z'
inductive ChkRel (c:Ctx):List (Nat×(Hp->Prop))->M9->Prop where
 |nil:ChkRel c [] []
 |cons {i:Nat} {p:Hp->Prop} {s:Option (Option Nat)} {l:List (Nat×(Hp->Prop))} {m:M9}:J7 c p s->ChkRel c l m->ChkRel c ((i,p)::l) ((i,s)::m)
theorem J7.now {p:Hp->Prop}{s:Option Nat}(h:J7 c p (O s)):p c.Z:=by
 cases s with
 |none=>exact h.1
 |some q=>exact h.2.1
theorem J7.next {p:Hp->Prop}{d:List Nat}(k:Le c c')(z:zX d c c'): ∀{s:Option (Option Nat)},J7 c p s->J7 c' p (match s with
  |some (O q)=>cond (qj q d) Y (O (O q))
  |s=>s)
 |none,_=>trivial
 |some Y,h=>by
  refine⟨h.2 _ λb y n m=>(k.rd b y n m).1,λZ' j=>h.2 Z' λb y n m=> ?_⟩;obtain⟨a,o⟩:=k.rd b y n m;exact j b y a o
 |some (O q),h=>by
  cases i:qj q d with
  |true=>
   show J7 c' p (cond (qj q d) Y (O (O q)));rw[i];exact trivial
  |false=>
   show J7 c' p (cond (qj q d) Y (O (O q)));rw[i];obtain⟨a,o,r⟩:=h;have A:q∉d:=λe=>by rw[oH.2 e]at i;cases i
   obtain⟨t,u⟩:=z q (qu a) A a
   have l:c'.μ q=c.μ q:=by
    cases g:(ae c'.S q).dim with
    |none=>exact(t g).elim
    |some x=>exact(k.al q x (qu a) g).2
   exact⟨t,r _ u,λZ' j=>r Z' λb w=>by rw[j b (by rw[l];exact w),u b w]⟩
theorem ChkRel.next {c c':Ctx}{d:List Nat}(h:Le c c')(g:zX d c c'): ∀{l:List (Nat×(Hp->Prop))} {m:M9},ChkRel c l m->ChkRel c' l (Oa d m)
 |_,_, .nil=> .nil
 |_,_, .cons (s:=s) i j=>by
  have a:=i.next h g
  have b:=ChkRel.next h g j
  cases s with
  |none=>exact .cons a b
  |some s=>
   cases s with
   |none=>exact .cons a b
   |some q=>exact .cons a b
theorem Dh : ∀m:M9,Oa [] m=m
 |[]=>rfl
 |(i,Y)::r=>by simp only[Oa,Dh r]
 |(i,O Y)::r=>by simp only[Oa,Dh r]
 |(i,O (O q))::r=>by simp only[Oa,Dh r,qj,zD]
theorem Kt {c:Ctx}{a:List Nat}: ∀{l:List (Nat×(Hp->Prop))} {m:M9},ChkRel c l m->pP a m=Za->B5 a c.Z l
 |_,_, .nil,_=>trivial
 |_,_, .cons (i:=i) (s:=s) g d,h=>by
  simp only[pP]at h;simp only[B5]
  have j:a.contains i=qj i a:=by
   cases b:qj i a with
   |true=>simpa using oH.1 b
   |false=>
    cases k:a.contains i with
    |false=>rfl
    |true=>
     have:i∈a:=by simpa using k
     rw[oH.2 this]at b;cases b
  rw[j];cases b:qj i a with
  |false=>
   rw[b,zD]at h;rw[zF (by decide)];exact Kt d h
  |true=>
   rw[b,zC]at h;rw[zE rfl];cases s with
   |none=>cases h
   |some s=>exact⟨g.now,Kt d h⟩
theorem Rz (X:Rel c)(T:ba c e ea)(C:op.isLoad=Za)(h:op.run ea c.Z=O (v,Z1)):J7 c (λZ'=>op.run ea Z'=O (v,Z')) (aG1 c.S op e):=by
 have z:=cd T (Hw op);have t:op.run ea c.Z=O (v,c.Z):=PP C h λ_ _=>rfl
 have M:J7 c (λZ'=>op.run ea Z'=O (v,Z')) (ap6 c.S (ev e (Hw op))):=by
  generalize ev e (Hw op)=P at*
  have g: ∀q,CR P=O q->(∀b,ao4 (ea.ev (Hw op))=O b->(ae c.S q).dim≠Y->c.μ q=O b)->J7 c (λZ'=>op.run ea Z'=O (v,Z')) (cond (ae c.S q).live (O (O q)) Y):=by
   intro q U a;cases I:(ae c.S q).live with
   |false=>trivial
   |true=>
    obtain⟨W,k⟩:=yt I;exact⟨by rw[k];simp,t,λZ' D=>PP C h λb A=>D b (a b A (by rw[k];simp))⟩
  have p:(∀b,ao4 (ea.ev (Hw op))=O b->∃y,c.Z.m b=O y/\¬c.mut b)->J7 c (λZ'=>op.run ea Z'=O (v,Z')) (O Y):=by
   intro a;refine⟨t,λZ' D=>PP C h λb A=> ?_⟩;obtain⟨y,w,r⟩:=a b A;rw[D b y w r,w]
  cases P<;>simp only[ap6,CR]<;>try exact trivial
  case ptr q o=>
   refine g q rfl λb a k=> ?_
   cases z with
   |ptr E F u=>
    cases j:(ae c.S q).dim with
    |none=>exact(k j).elim
    |some d=>
     obtain⟨B,w,r⟩:=u d j;rw[r]at a;injection a with a
     subst a;exact w
  case it q l=>
   refine g q rfl λb a k=> ?_
   obtain⟨s,_,u⟩:=z.it_inv;cases j:(ae c.S q).dim with
   |none=>exact(k j).elim
   |some d=>
    obtain⟨B,w,r⟩:=u d j;rw[r]at a;cases a
  case bld q=>
   refine g q rfl λb a k=> ?_
   cases z with
   |bld _ _ u=>
   cases j:(ae c.S q).dim with
   |none=>exact(k j).elim
   |some d=>
    obtain⟨B,w,r⟩:=u d j;rw[r]at a;cases a
  case pix q o n i=>
   refine g q rfl λb a k=> ?_
   cases z with
   |pix E F hi u=>
    cases j:(ae c.S q).dim with
    |none=>exact(k j).elim
    |some d=>
     obtain⟨B,w,r⟩:=u d j;rw[r]at a;injection a with a
     subst a;exact w
  case pel q i o=>
   refine g q rfl λb a k=> ?_
   cases z with
   |pel E F u=>
    cases j:(ae c.S q).dim with
    |none=>exact(k j).elim
    |some d=>
     obtain⟨B,w,r⟩:=u d j;rw[r]at a;injection a with a
     subst a;exact w
  case full q=>
   refine g q rfl λb a k=> ?_
   cases z with
   |full E F u=>
    cases j:(ae c.S q).dim with
    |none=>exact(k j).elim
    |some d=>
     obtain⟨n,_,r⟩:=u d j;rcases r with⟨r,_⟩|⟨B,Q,V,r,H,_⟩
     .rw[r]at a;cases a
     .rw[r]at a;injection a with a
      subst a;exact H
  case part q lo n=>
   refine g q rfl λb a k=> ?_
   cases z with
   |part E F u=>
    cases j:(ae c.S q).dim with
    |none=>exact(k j).elim
    |some d=>
     rcases u d j with⟨r,_⟩|⟨B,Q,V,r,H,_⟩
     .rw[r]at a;cases a
     .rw[r]at a;injection a with a
      subst a;exact H
  case pin s x o=>
   refine p λb a=> ?_
   generalize ea.ev (Hw op)=N at*;cases z with
   |pin J L C hf=>
    injection a with a
    subst a;exact⟨_,L,J⟩
  case lst s l=>
   generalize K:ea.ev (Hw op)=N at*;cases z with
   |lstn U=>
    refine⟨t,λZ' D=> ?_⟩;have:=av0 C K h;exact this Z'
   |lst J L _ _ _ _ _=>
    refine p λb a=> ?_
    injection a with a
    subst a;exact⟨_,L,J⟩
  case nils=>
   refine p λb a=> ?_
   generalize ea.ev (Hw op)=N at*;cases z;cases a
 cases op<;>first|(cases C;done)|exact M
theorem IE {T:Ab.mE}{e:cm}(a:op.still=Za){k:Value->Hp->Prop}:(match op.run e Z with
  |some (v,Z')=>k v Z'
  |none=>False)=cc T op e Z k:=by
 cases op<;>first|(cases a;done)|rfl
theorem ag5 {it:SItem}{a:List (Nat×(Hp->Prop))}{k:M9->dk->ak->Option β}(B:Rel c)(m:ba c e ea)(D:ChkRel c a chk)(h:Mq tab it chk e c.S k=O y){Q:List (Nat×(Hp->Prop))->cm->Hp->Prop}
  (A: ∀c' b d e' ea',Le c c'->Rel c'->ChkRel c' b d->ba c' e' ea'->k d e' c'.S=O y->Q b ea' c'.Z):
  if it.mover then cc (jf tab) it.o.op ea c.Z (λv Z'=>B5 it.chks Z' a/\Q a (ea.putO it.o.dst v) Z')
  else match it.o.op.run ea c.Z with
   |some (v,_)=>Q (if it.keep then(it.idx,λZ'=>it.o.op.run ea Z'=O (v,Z'))::a else a) (ea.putO it.o.dst v) c.Z
   |none=>False:=by
 unfold Mq at h;cases K:it.mover with
 |true=>
  rw[K,zC]at h;rw[zE rfl];obtain⟨j,z⟩:=aw h;refine sm (cb tab) (λv Z' L=> ?_) (Lh B m z);obtain⟨M,c',l,n,g,s,t,u⟩:=L;subst l;have q:=D.next n s
  exact⟨Kt q j,A c' a _ _ _ n g q ((m.frame n).putO t) u⟩
 |false=>
  rw[K,zD]at h;rw[zF (by decide)];obtain⟨j,z⟩:=aw h;rw[aD]at j;have l:=Lh B m z;rw[<-IE j.1]at l;cases x:it.o.op.run ea c.Z with
  |none=>rw[x]at l;exact l
  |some p=>
   obtain⟨v,Z1⟩:=p;rw[x]at l;obtain⟨M,c',n,g,s,t,u,w⟩:=l;simp only
   have J:Lg tab it.o.op e c.S=[]:=by
    have:=j.1;cases I:it.o.op<;>rw[I]at this<;>first|(cases this;done)|rfl
   have q:=D.next g t
   rw[J,Dh]at q;have C:Z1=c.Z:=KC j.1 x;rw[<-C,<-n];cases E:it.keep with
   |false=>
    rw[E,zD]at w;rw[zF (by decide)];exact A c' a chk _ _ g s q ((m.frame g).putO u) w
   |true=>
    rw[E,zC]at w;rw[zE rfl];have H:it.o.op.isLoad=Za:=by have:=j.2;rw[E]at this;simpa using this
    have F:=Rz B m H x;have r:=(ChkRel.cons (i:=it.idx) F D).next g t
    rw[J,Dh]at r;exact A c' _ _ _ _ g s r ((m.frame g).putO u) w
end
structure LeV (c c':Ctx):Prop where
 len:c.S.length<=c'.S.length
 al: ∀k d,k<c.S.length->(ae c'.S k).dim=O d->(ae c.S k).dim=O d/\c'.μ k=c.μ k
 ln: ∀k d b y,k<c.S.length->(ae c'.S k).dim=O d->c.μ k=O b->c.Z.m b=O y->∃y',c'.Z.m b=O y'/\y'.cells.length=y.cells.length
 rd: ∀b y,c.Z.m b=O y->¬c.mut b->c'.Z.m b=O y/\¬c'.mut b
theorem KH.frameV (h:LeV c c'){k o n:Nat}{d:Nat×Nat}{a:Value}(m:k<c.S.length)(l:(ae c'.S k).dim=O d)(u:KH c k o n d a):KH c' k o n d a:=by
 obtain⟨A,j⟩:=h.al k d m l;rcases u with⟨rfl,rfl,rfl,g,x⟩|⟨b,p,y,rfl,g,q,r,w,s⟩
 .exact .inl ⟨rfl,rfl,rfl,j.trans g,x⟩
 .obtain⟨z,i,t⟩:=h.ln k d b y m l g w;exact .inr ⟨b,p,z,rfl,j.trans g,q,r,i,by rw[t];exact s⟩
theorem VRel.frameV {c c':Ctx}(h:LeV c c'): ∀{v:VV} {a:Value},VRel c v a->VRel c' v a
 |_,_, .undef a=> .undef a
 |_,_, .bool b=> .bool b
 |_,_, .int k n=> .int k n
 |_,_, .str z=> .str z
 |_,_, .nilp=> .nilp
 |_,_, .nils=> .nils
 |_,_, .nilf=> .nilf
 |_,_, .ptr j g q=> .ptr (bD j h.len) g λd i=>by
  obtain⟨g,o⟩:=h.al _ d j i;obtain⟨b,p,r⟩:=q d g;exact⟨b,o.trans p,r⟩
 |_,_, .it j g z q=> .it (bD j h.len) g z λd i=>by
  obtain⟨g,o⟩:=h.al _ d j i;obtain⟨b,p,r⟩:=q d g;exact⟨b,o.trans p,r⟩
 |_,_, .bld j g q=> .bld (bD j h.len) g λd i=>by
  obtain⟨g,o⟩:=h.al _ d j i;obtain⟨b,p,r⟩:=q d g;exact⟨b,o.trans p,r⟩
 |_,_, .pix j g A q=> .pix (bD j h.len) g A λd i=>by
  obtain⟨g,o⟩:=h.al _ d j i;obtain⟨b,p,r⟩:=q d g;exact⟨b,o.trans p,r⟩
 |_,_, .pel j g q=> .pel (bD j h.len) g λd i=>by
  obtain⟨g,o⟩:=h.al _ d j i;obtain⟨b,p,r⟩:=q d g;exact⟨b,o.trans p,r⟩
 |_,_, .pin s t B u=> .pin (h.rd _ _ t s).2 (h.rd _ _ t s).1 B (go u)
 |_,_, .lstn x=> .lstn x
 |_,_, .tgtn x=> .tgtn x
 |_,_, .tgt s t w p u=> .tgt (h.rd _ _ t s).2 (h.rd _ _ t s).1 w p (go u)
 |_,_, .lst s t w g o p u=> .lst (h.rd _ _ t s).2 (h.rd _ _ t s).1 w g o p (go u)
 |_,_, .full j g q=> .full (bD j h.len) g λd i=>by
  obtain⟨g,o⟩:=h.al _ d j i;obtain⟨n,p,r⟩:=q d g;exact⟨n,p,r.frameV h j i⟩
 |_,_, .part j g q=> .part (bD j h.len) g λd i=>by
  obtain⟨g,o⟩:=h.al _ d j i;exact(q d g).frameV h j i
 |_,_, .fn g o=> .fn (go g) (go o)
 |_,_, .agg g=> .agg (go g)
 |_,_, .tup g=> .tup (go g)
where
 go: ∀{l:List VV} {m:List Value},F2 (VRel c) l m->F2 (VRel c') l m
  |_,_, .nil=> .nil
  |_,_, .cons g o=> .cons (VRel.frameV h g) (go o)
theorem VRel.framesV (h:LeV c c'){l:List VV}{m:List Value}(a:F2 (VRel c) l m):F2 (VRel c') l m:=a.imp λ_ _ b=>b.frameV h
theorem ba.frameV (h:ba c e ea)(a:LeV c c'):ba c' e ea:=λt=>(h t).frameV a
def vS (op:AOp)(ea:cm)(x:Ab.Blk)(a:Nat->Value):Prop:= ∀Z:Hp,op.run ea Z=O (a Z.n,Z.add x)
theorem vS.unique {x j:Ab.Blk}{i a:Nat->Value}(h:vS op ea x i)(k:vS op ea j a):x=j/\i=a:=by
 have d: ∀n,i n=a n/\x=j:=by
  intro n;have b:=h ⟨λ_=>Y,n⟩;rw[k ⟨λ_=>Y,n⟩]at b;injection b with b
  injection b with b l
  refine⟨b.symm, ?_⟩;have g:=congrArg (λs:Hp=>s.m n) l;simp only[Hp.add,if_true]at g;injection g with g
  exact g.symm
 exact⟨(d 0).2,funext λn=>(d n).1⟩
theorem TU {x:Operand}(h: ∀t∈Wf x,ea' t=ea t):ea'.ev x=ea.ev x:=by
 cases x with
 |tmp t=>exact h t (by simp[Wf])
 |_=>rfl
theorem vS.same {x:Ab.Blk}{i:Nat->Value}(h:vS op ea x i)(k:CX op=Za)(g: ∀t∈D3 op,ea' t=ea t):vS op ea' x i:=by
 intro Z;have a:=h Z;cases op<;>first|(cases k;done)|skip
 case alloc es z=>exact a
 case makeSlice es bytes z l m=>
  have d:ea'.ev l=ea.ev l:=TU λt b=>g t (by simp[D3,b])
  have j:ea'.ev m=ea.ev m:=TU λt b=>g t (by simp[D3,b])
  simp only[AOp.run]at a⊢;rw[d,j];exact a
 case buildSlice es ln z ps=>
  have d:(ps.map λ(o,s,x)=>(o,s,ea'.ev x))=ps.map λ(o,s,x)=>(o,s,ea.ev x):=by
   apply fB;rintro⟨o,s,x⟩ n;simp only;rw[TU λt b=>g t (List.mem_flatMap.2 ⟨_,n,b⟩)]
  simp only[AOp.run]at a⊢;rw[d];exact a
theorem Qr {c c':Ctx}: ∀{l:List VV} {m:List Value},l.all ac3=Za->F2 (VRel c) l m->F2 (VRel c') l m
 |_,_,_, .nil=> .nil
 |v::l,_,h, .cons a b=>by
  rw[List.all_cons,aD]at h;refine .cons ?_ (Qr h.2 b);cases a<;>first|(cases h.1;done)|skip
  .exact .bool _
  .exact .int _ _
  .exact .str (by assumption)
structure FreshFact (op:AOp)(ea:cm)(blk:Blk)(w:Bool)(x:Ab.Blk)(vf:Nat->Value):Prop where
 run:vS op ea x vf
 fz:blk.frozen=Zb
 dm: ∃dm cs rest,blk.dim=O dm/\1<=dm.1/\x.es=dm.1/\x.own=Za/\x.cells=cs++rest/\∀c':Ctx,F2 (VRel c') blk.vals cs
 vv: ∀(c':Ctx) (k b:Nat),k<c'.S.length->ae c'.S k=blk->c'.μ k=O b->c'.Z.m b=O x->VRel c' (vvF w k) (vf b)
theorem Kl {β:Type}{k:Blk->Bool->Option β}{y:β}(H:ba c e ea)(h:Gp op e k=O y):CX op=Za/\∃blk w x V,k blk w=O y/\FreshFact op ea blk w x V:=by
 cases op<;>simp only[Gp]at h<;>first|(cases h;done)|skip
 case alloc es z=>
  obtain⟨j,A⟩:=aw h;have j:=dD j;refine⟨rfl,_,_,⟨z,Za,es⟩,λn=> .pointer (O ⟨n,0,Y⟩),A,⟨λZ=>rfl,(BW es z).2.1,⟨(es,z.length),z,[],(BW es z).1,j,rfl,rfl,by simp,λc'=>(BW es z).2.2 c'⟩,λc' k b p M D E=> ?_⟩⟩;refine .ptr p rfl λd g=>⟨b,D,rfl⟩
 case makeSlice es bytes z l m=>
  have L:=cd H l;have D:=cd H m;split at h
  .rename_i X a k2 b s j A M;rw[j]at L;rw[A]at D;obtain⟨K,p⟩:=aw h;simp only[aD]at K;obtain⟨⟨⟨⟨u,i⟩,o⟩,B⟩,C⟩:=K;have u:=bB u;have i:=of_decide_eq_true i;have o:=of_decide_eq_true o;have B:=of_decide_eq_true B;have C:=dD C;have N: ∀c':Ctx,F2 (VRel c') (du s (yy s)) z:=λc'=>Fi (c:=c') M
   have I:z.length=s.w:=by rw[<-(N c).length,er]
   have W:b<=bytes*b:=by
    have:(1:Int)*b<=bytes*b:=Int.mul_le_mul_of_nonneg_right (by omega) (by omega);omega
   refine⟨rfl,_,_,⟨eo z b.toNat,Za,es⟩,λn=> .slice (O ⟨n,0,Y⟩) a.toNat b.toNat,p,⟨λZ=> ?_,rfl,⟨(s.w,(List.replicate a.toNat (yy s)).length*s.w),eo z a.toNat,eo z (b.toNat-a.toNat),rfl,qU s,u,rfl, ?_,λc'=> ?_⟩,λc' k q p t r E=> ?_⟩⟩
   .simp only[AOp.run,L.int_inv,D.int_inv];rw[zE ⟨i,o,by omega,by omega⟩]
   .show eo z b.toNat=_;rw[<-Su]
    congr 1
    omega
   .show F2 (VRel c') (ib s (List.replicate a.toNat (yy s))) (eo z a.toNat);rw[vV];generalize a.toNat=n;induction n with
    |zero=>exact .nil
    |succ n P=>
     simp only[eo,List.replicate_succ,List.flatten_cons]at P⊢;exact(N c').append P
   .refine .full p rfl λd g=> ?_
    rw[t]at g;injection g with g
    subst g;refine⟨a.toNat,by simp, .inr ⟨q,b.toNat,_,by simp,r,by simp,by omega,E, ?_⟩⟩;rw[Nat.zero_add];show b.toNat*s.w<=(eo z b.toNat).length;rw[Sv,I];exact eD _
  .cases h
 case buildSlice es ln z ps=>
  split at h
  .rename_i Q U;obtain⟨j,A⟩:=aw h;simp only[aD]at j;obtain⟨⟨⟨⟨u,i⟩,o⟩,B⟩,C⟩:=j;have i:=bB i;have o:=dD o;obtain⟨J,T,F⟩:=B1 H ps U (MY ln z);refine⟨C,_,_,⟨J,Za,es⟩,λn=> .slice (O ⟨n,0,Y⟩) ln ln,A,⟨λZ=> ?_,rfl,⟨(es,Q.length),J,[],rfl,o,rfl,rfl,by simp,λc'=>Qr B F⟩,λc' k q p t r E=> ?_⟩⟩
   .simp only[AOp.run,T];rw[zE (oE F u)]
   .refine .full p rfl λd g=> ?_
    rw[t]at g;injection g with g
    subst g;refine⟨ln,i, .inr ⟨q,ln,_,by simp,r,by simp[i],eD _,E, ?_⟩⟩;rw[Nat.zero_add];show ln*es<=J.length;rw[<-F.length];exact Nat.le_of_eq i
  .cases h
theorem uy {i q:Nat}: ∀{l:List Nat},l.Nodup->(q∈JZ i l↔q∈l/\q≠i)
 |[],_=>by simp[JZ]
 |a::r,h=>by
  obtain⟨j,k⟩:=List.nodup_cons.1 h;simp only[JZ];cases d:aB a i with
  |true=>
   have:=bB d;subst this;rw[zC];constructor
   .intro hq;exact⟨cB _ hq,λe=>j (e▸hq)⟩
   .rintro⟨hq,m⟩;rcases List.mem_cons.1 hq with rfl|hq
    .exact(m rfl).elim
    .exact hq
  |false=>
   have g:a≠i:=λe=>by subst e;rw[dB]at d;cases d
   rw[zD,List.mem_cons,List.mem_cons,uy k];constructor
   .rintro(rfl|⟨h3,b⟩)
    .exact⟨.inl rfl,g⟩
    .exact⟨.inr h3,b⟩
   .rintro⟨rfl|h3,b⟩
    .exact .inl rfl
    .exact .inr ⟨h3,b⟩
theorem No {i:Nat}: ∀{l:List Nat},l.Nodup->(JZ i l).Nodup
 |[],h=>h
 |a::r,h=>by
  obtain⟨d,b⟩:=List.nodup_cons.1 h;simp only[JZ];cases j:aB a i with
  |true=>exact b
  |false=>
   rw[zD,List.nodup_cons];exact⟨λg=>d ((uy b).1 g).1,No b⟩
section
variable {tab:Tab} {ops:List (AOper×List Nat)}
structure InvL (ops:List (AOper×List Nat))(c0 c:Ctx)(e:dk)(ea:cm)(ach:List (Nat×(Hp->Prop)))(chk:M9)(P ls nd:List Nat)(r:List LItem)(pd:Nat->Nat):Prop where
 le:Le c0 ⟨c.μ,c.S,c.Z,c0.fb⟩
 R:Rel c
 E:ba c e ea
 K:ChkRel c ach chk
 ks:ach.map (·.1)=ls
 nd:pP nd chk=Za
 fb: ∀b,c.fb b↔(c0.fb b∨∃q∈P,pd q=b)
 nod:P.Nodup
 inj: ∀q q',q∈P->q'∈P->pd q=pd q'->q=q'
 new: ∀q∈P,c0.Z.n<=pd q
 pend: ∀q∈P,CX (cw ops q).op=Za/\∃x vf,vS (cw ops q).op ea x vf/\c.Z.m (pd q)=O x/\∀t,(cw ops q).dst=O t->ea t=vf (pd q)
 und: ∀it∈r,aB it.kind 2=Za->∀t,(cw ops it.i).dst=O t->qe e t= .undef
 ds:RJ ops r=Za
theorem J7.frameV {p:Hp->Prop}(A:Rel c)(C:LeV c c')(B: ∀q,q<c.S.length->ae c'.S q=ae c.S q)(l: ∀q,q<c.S.length->c'.μ q=c.μ q)(u: ∀b y,c.Z.m b=O y->c'.Z.m b=O y): ∀{s:Option (Option Nat)},J7 c p s->J7 c' p s
 |none,_=>trivial
 |some Y,h=>by
  refine⟨h.2 _ λb y n _=>u b y n,λZ' k=>h.2 Z' λb y n D=> ?_⟩;obtain⟨g,o⟩:=C.rd b y n D;exact k b y g o
 |some (O q),h=>by
  obtain⟨g,o,r⟩:=h;have x:=qu g
  have i: ∀b,c.μ q=O b->c'.Z.m b=c.Z.m b:=by
   intro b i;cases w:(ae c.S q).dim with
   |none=>exact(g w).elim
   |some d=>
    obtain⟨_,a⟩:=A.blk q d w;rcases a with⟨_,a⟩|⟨F,y,H,z,a,t,_⟩
    .rw[i]at a;cases a
    .rw[i]at a;injection a with a
     subst a;rw[t];exact u _ _ t
  exact⟨by rw[B q x];exact g,r _ i,λZ' E=>r Z' λb j=>(E b (by rw[l q x];exact j)).trans (i b j)⟩
theorem ChkRel.frameV (d:Rel c)(i:LeV c c')(g: ∀q,q<c.S.length->ae c'.S q=ae c.S q)(a: ∀q,q<c.S.length->c'.μ q=c.μ q)(h: ∀b y,c.Z.m b=O y->c'.Z.m b=O y): ∀{l:List (Nat×(Hp->Prop))} {m:M9},ChkRel c l m->ChkRel c' l m
 |_,_, .nil=> .nil
 |_,_, .cons j k=> .cons (j.frameV d i g a h) (k.frameV d i g a h)
theorem CZ {c:Ctx}{m:Nat}{b:List Nat}: ∀{l:List (Nat×(Hp->Prop))} {chk:M9},ChkRel c l chk->pP b chk=Za->(∀i∈l.map (·.1),AZ ops i m=Za∨qj i b=Za)->G5 ops m c.Z l
 |_,_, .nil,_,_=>trivial
 |_,_, .cons (i:=i) (s:=s) n o,h,g=>by
  simp only[pP]at h;simp only[G5];have a:pP b _=Za->G5 ops m c.Z _:=λh3=>CZ o h3 λj p=>g j (by simp only[List.map_cons];exact cB _ p)
  cases d:AZ ops i m with
  |true=>
   rw[zE rfl];cases k:qj i b with
   |false=>rw[k,zD]at h;exact a h
   |true=>
    rw[k,zC]at h;cases s with
    |none=>cases h
    |some s=>exact a h
  |false=>
   rw[zF (by decide)];rcases g i (by simp)with h3|h3
   .rw[d]at h3;cases h3
   .rw[h3,zC]at h;cases s with
    |none=>cases h
    |some s=>exact⟨n.now,a h⟩
theorem Y9 {β:Type}{ach:List (Nat×(Hp->Prop))}{P ls nd:List Nat}{r:List LItem}{pd:Nat->Nat}{k:dk->ak->Option β}{y:β}(h0:Rel c0)
  (l:InvL ops c0 c e ea ach chk P ls nd (it::r) pd) (hk:aB it.kind 2=Za) (hP:it.i∈P) (h:Oh tab ops (it::r) chk e c.S k=O y):
  ∃c' e',c'.Z=c.Z/\InvL ops c0 c' e' ea ach chk (JZ it.i P) ls nd r pd/\Oh tab ops r chk e' c'.S k=O y:=by
 have hk3:aB it.kind 3=Zb:=by rw[bB hk];rfl
 simp only[Oh,hk,hk3,zC,zD]at h;obtain⟨hfb,blk,w,x',vf',h1,h2⟩:=Kl l.E h;obtain⟨_,x,vf,h3,h4,h5⟩:=l.pend _ hP;obtain⟨ex,ef⟩:=h2.run.unique h3;subst ex;subst ef;obtain⟨dm,cs,rest,d1,d2,d3,d4,d5,d6⟩:=h2.dm;have p:(c.S++[blk]).length=c.S.length+1:=by simp
 have W:=l.ds;simp only[RJ,aD]at W
 let b:=pd it.i
 let c':Ctx:=⟨λq=>if q=c.S.length then O b else c.μ q,c.S++[blk],c.Z,λq=>c0.fb q∨∃j∈JZ it.i P,pd j=q⟩
 have J:c.fb b:=(l.fb b).2 (.inr ⟨it.i,hP,rfl⟩);have F: ∀q,q<c.S.length->ae c'.S q=ae c.S q:=λq a=>qS a
 have s: ∀q,q<c.S.length->c'.μ q=c.μ q:=λq a=>zF (Nat.ne_of_lt a)
 have L:ae c'.S c.S.length=blk:=WM;have g:c'.μ c.S.length=O b:=zE rfl
 have I: ∀q,c'.fb q->c.fb q:=by
  rintro q (a|⟨j,T,rfl⟩)
  .exact(l.fb q).2 (.inl a)
  .exact(l.fb _).2 (.inr ⟨j,((uy l.nod).1 T).1,rfl⟩)
 have V: ¬c'.fb b:=by
  rintro(a|⟨j,T,hjb⟩)
  .have:=h0.fbl _ a;have:=l.new _ hP;omega
  .obtain⟨D,B⟩:=(uy l.nod).1 T;exact B (l.inj _ _ D hP hjb)
 have U: ∀q,c'.own q->c.own q∨q=b:=by
  rintro q ⟨j,D,B⟩;by_cases T:j<c.S.length
  .rw[F j T]at D;rw[s j T]at B;exact .inl ⟨j,D,B⟩
  .by_cases hj3:j=c.S.length
   .subst hj3;rw[g]at B;injection B with B
    exact .inr B.symm
   .rw[AG (by show c'.S.length<=j;rw[p];omega)]at D;cases D
 have hV:LeV c c':=by
  refine⟨by rw[p];omega,λq d a o=> ?_,λq d A N a o hm H=>⟨N,H,rfl⟩,λA N H X=>⟨H,λhm=> ?_⟩⟩
  .rw[F q a]at o;exact⟨o,s q a⟩
  .rcases hm with hm|hm
   .rcases U A hm with hm|hm
    .exact X (.inl hm)
    .subst hm;exact X (.inr J)
   .exact X (.inr (I _ hm))
 have hR':Rel c':=by
  refine⟨l.R.ok,λq M A a m hm C=> ?_,λq d o=> ?_,λq A o hm=> ?_,λA hb'=>l.R.fbl _ (I _ hb')⟩
  .have z: ∀j,(ae c'.S j).dim≠Y->j<c.S.length∨j=c.S.length:=by
    intro j T;have:=qu T;rw[p]at this;omega
   rcases z q (qP a)with h6|h6
   .rcases z M m with h7|h7
    .rw[F q h6]at a;rw[F M h7]at m;rw[s q h6]at hm;rw[s M h7]at C;exact l.R.inj q M A a m hm C
    .subst h7;rw[g]at C;injection C with C
     subst C;rw[s q h6]at hm;rw[F q h6]at a;exact(l.R.fbk q _ (qP a) hm J).elim
   .rcases z M m with h7|h7
    .subst h6;rw[g]at hm;injection hm with hm
     subst hm;rw[s M h7]at C;rw[F M h7]at m;exact(l.R.fbk M _ m C J).elim
    .rw[h6,h7]
  .by_cases a:q<c.S.length
   .rw[F q a]at o⊢;obtain⟨h6,h7⟩:=l.R.blk q d o;refine⟨h6, ?_⟩;rcases h7 with⟨h7,h8⟩|⟨A,N,cs',rest',h7,h8,h9,h10,h11,h12⟩
    .exact .inl ⟨h7,by rw[s q a];exact h8⟩
    .exact .inr ⟨A,N,cs',rest',by rw[s q a];exact h7,h8,h9,h10,h11,VRel.framesV hV h12⟩
   .by_cases hq2:q=c.S.length
    .subst hq2;rw[L]at o⊢;rw[d1]at o;injection o with o
     subst o;exact⟨d2, .inr ⟨b,x',cs,rest,g,h4,d3,λ_=>d4,d5,d6 c'⟩⟩
    .rw[AG (by show c'.S.length<=q;rw[p];omega)]at o;cases o
  .by_cases a:q<c.S.length
   .rw[F q a]at o;rw[s q a]at hm;exact λhf=>l.R.fbk q A o hm (I _ hf)
   .have:=qu o;rw[p]at this;have hq2:q=c.S.length:=by omega
    subst hq2;rw[g]at hm;injection hm with hm
    subst hm;exact V
 have hvv:VRel c' (vvF w c.S.length) (vf' b):=h2.vv c' c.S.length b (by rw[p];omega) L g h4
 have hE':ba c' (putO e (cw ops it.i).dst (vvF w c.S.length)) ea:=by
  have hE:=l.E.frameV hV;cases o:(cw ops it.i).dst with
  |none=>exact hE
  |some t=>
   intro t';show VRel c' (qe (uz e t _) t') (ea t');rw[AA];by_cases ht:t'=t
   .subst ht;rw[zE rfl,h5 _ o];exact hvv
   .rw[zF ht];exact hE t'
 refine⟨c',_,rfl,⟨?_,hR',hE',l.K.frameV l.R hV F s (λ_ _ H=>H),l.ks,l.nd,λq=>Iff.rfl,No l.nod,λq M a m=>l.inj q M ((uy l.nod).1 a).1 ((uy l.nod).1 m).1,λq a=>l.new q ((uy l.nod).1 a).1,λq a=>l.pend q ((uy l.nod).1 a).1, ?_,W.2⟩,h1⟩
 .have u:=l.le;refine⟨Nat.le_trans u.len (by show c.S.length<=c'.S.length;rw[p];omega),λq d a o=> ?_,λq hf o=> ?_,λq d A N a o hm H=> ?_,λA N H X=>u.un A N H X,λA N H X ho=> ?_,u.n,rfl⟩
  .have m:q<c.S.length:=bD a u.len;have:=F q m;rw[show(⟨c'.μ,c'.S,c'.Z,c0.fb⟩:Ctx).S=c'.S from rfl,this]at o;obtain⟨h6,h7⟩:=u.al q d a o;exact⟨h6,(s q m).trans h7⟩
  .have m:q<c.S.length:=bD (qu o) u.len;exact(F q m).trans (u.fz q hf o)
  .have m:q<c.S.length:=bD a u.len;have:=F q m;rw[show(⟨c'.μ,c'.S,c'.Z,c0.fb⟩:Ctx).S=c'.S from rfl,this]at o;exact u.ln q d A N a o hm H
  .have ho':c'.own A:=ho;rcases U A ho' with ho2|ho2
   .exact u.ow A N H X ho2
   .subst ho2;have:=h0.ok _ _ H;have:=l.new _ hP;omega
 .intro it' Q hk' t ht;have hu:=l.und it' (cB _ Q) hk' t ht;cases o:(cw ops it.i).dst with
  |none=>exact hu
  |some t'=>
   show qe (uz e t' _) t=_;rw[AA];by_cases htt:t=t'
   .subst htt;have:=List.all_eq_true.1 W.1 it' Q;rw[hk,hk']at this;simp only[Bool.not_true,Bool.false_or,neO,o,ht,dB]at this;cases this
   .rw[zF htt];exact hu
theorem Wk {β:Type}{b:List (Nat×(Hp->Prop))}{P ls nd:List Nat}{r:List LItem}{pd:Nat->Nat}{k:dk->ak->Option β}{y:β}
  (a:InvL ops c0 c e ea b chk P ls nd (it::r) pd) (g:aB it.kind 3=Za) (h:Oh tab ops (it::r) chk e c.S k=O y):
  InvL ops c0 c e ea b chk P ls nd r pd/\Oh tab ops r chk e c.S k=O y:=by
 simp only[Oh,g,zC]at h;obtain⟨_,_,_,_,_,i,_⟩:=Kl a.E h;have d:=a.ds;simp only[RJ,aD]at d;exact⟨⟨a.le,a.R,a.E,a.K,a.ks,a.nd,a.fb,a.nod,a.inj,a.new,a.pend,λj l g t m=>a.und j (cB _ l) g t m,d.2⟩,i⟩
theorem LS {β:Type}{c0:Ctx}{ea:cm}{d:List (Nat×(Hp->Prop))}{chk:M9}{ls w:List Nat}{pd:Nat->Nat}{k:dk->ak->Option β}{y:β}{i:Nat}(n:Rel c0): ∀(r:List LItem) {P P':List Nat} {it:LItem} {r':List LItem} {c:Ctx} {e:dk},GI r P i=O (P',it,r')->
  InvL ops c0 c e ea d chk P ls w r pd->Oh tab ops r chk e c.S k=O y->
  ∃c' e',c'.Z=c.Z/\InvL ops c0 c' e' ea d chk P' ls w (it::r') pd/\Oh tab ops (it::r') chk e' c'.S k=O y/\aB it.kind 2=Zb/\it.i=i/\∀q∈P',q∈P
 |[],P,P',it,r',c,e,h,_,_=>by cases h
 |a::r,P,P',it,r',c,e,h,l,u=>by
  simp only[GI]at h;cases b:aB a.kind 3 with
  |true=>
   rw[b,zC]at h;obtain⟨g,j⟩:=Wk l b u;exact LS n r h g j
  |false=>
  rw[b,zD]at h;cases m:aB a.kind 2 with
  |false=>
   rw[m,zD]at h;cases p:aB a.i i with
   |false=>rw[p]at h;cases h
   |true=>
    rw[p,zC]at h;injection h with h
    injection h with g h
    injection h with j o
    subst g;subst j;subst o;exact⟨c,e,rfl,l,u,m,bB p,λq t=>t⟩
  |true=>
   rw[m,zC]at h;cases s:qj a.i P with
   |false=>rw[s]at h;cases h
   |true=>
    rw[s,zC]at h;obtain⟨H,I,g,j,o⟩:=Y9 n l m (oH.1 s) u;obtain⟨x,z,A,B,C,D,E,F⟩:=LS n r h j o;exact⟨x,z,A.trans g,B,C,D,E,λq t=>((uy l.nod).1 (F q t)).1⟩
theorem TV {β:Type}{c0:Ctx}{ea:cm}{j:List (Nat×(Hp->Prop))}{chk:M9}{ls u:List Nat}{pd:Nat->Nat}{k:dk->ak->Option β}{y:β}(l:Rel c0): ∀(r:List LItem) {P:List Nat} {c:Ctx} {e:dk},XQ r P=Za->
  InvL ops c0 c e ea j chk P ls u r pd->Oh tab ops r chk e c.S k=O y->wB c0 k y ea c.Z
 |[],P,c,e,h,d,i=>by
  have s:P=[]:=by
   cases P with
   |nil=>rfl
   |cons a r=>simp[XQ]at h
  subst s
  have o:c.fb=c0.fb:=by
   funext b
   refine propext ((d.fb b).trans ⟨λh=> ?_, .inl⟩);rcases h with h|⟨q,t,_⟩
   .exact h
   .cases t
  refine⟨e,c,rfl, ?_,d.R,d.E,i⟩;have:=d.le;rw[<-o]at this;exact this
 |a::r,P,c,e,h,d,i=>by
  simp only[XQ]at h;cases g:aB a.kind 3 with
  |true=>
   rw[g,zC]at h;obtain⟨m,n⟩:=Wk d g i;exact TV l r h m n
  |false=>
  rw[g,zD]at h;simp only[aD]at h;obtain⟨w,x,m,n,p⟩:=Y9 l d h.1.1 (oH.1 h.1.2) i;rw[<-m];exact TV l r h.2 n p
theorem Ol {β:Type}{c:Ctx}{ea:cm}{chk:M9}{k:dk->ak->Option β}{y:β}{m:Nat}: ∀(r:List LItem) {e e':dk} {S:ak},PG ops r m=Za->ba c e ea->(∀t∈D3 (cw ops m).op,qe e' t=qe e t)->Oh tab ops r chk e' S k=O y->∃x F,CX (cw ops m).op=Za/\vS (cw ops m).op ea x F
 |[],e,e',S,h,_,_,_=>by cases h
 |a::r,e,e',S,h,H,B,b=>by
  have u: ∀(V:VV),Lv (cw ops a.i).dst (D3 (cw ops m).op)=Za->∀t∈D3 (cw ops m).op,qe (putO e' (cw ops a.i).dst V) t=qe e t:=by
   intro V p t T;rw[<-B t T];cases X:(cw ops a.i).dst with
   |none=>rfl
   |some U=>
    show qe (uz e' U _) t=_;rw[AA];by_cases E:t=U
    .subst E;rw[X]at p;simp only[Lv]at p;rw[oH.2 T]at p;cases p
    .rw[zF E]
  have d: ∀{γ:Type} {P:Blk->Bool->Option γ} {z:γ},Gp (cw ops m).op e' P=O z->∃x F,CX (cw ops m).op=Za/\vS (cw ops m).op ea x F:=by
   intro γ P z b
   have M:Gp (cw ops m).op e P=O z:=by
    cases g:(cw ops m).op<;>rw[g]at b B<;>simp only[Gp]at b<;>first|(cases b;done)|skip
    case alloc es z=>exact b
    case makeSlice es bytes z l q=>
     have J:ev e' l=ev e l:=by
      cases l with
      |tmp t=>exact B t (by simp[D3,Wf])
      |_=>rfl
     have W:ev e' q=ev e q:=by
      cases q with
      |tmp t=>exact B t (by simp[D3,Wf])
      |_=>rfl
     rw[J,W]at b;exact b
    case buildSlice es ln z ps=>
     have J:EH e' ps=EH e ps:=by
      unfold EH;apply fB;rintro⟨o,s,x⟩ hx;simp only
      have:ev e' x=ev e x:=by
       cases x with
       |tmp t=>exact B t (List.mem_flatMap.2 ⟨_,hx,by simp[Wf]⟩)
       |_=>rfl
      rw[this]
     rw[J]at b;exact b
   obtain⟨hf,A,w,x,F,_,C⟩:=Kl H M;exact⟨x,F,hf,C.run⟩
  simp only[PG]at h;cases n:aB a.kind 3 with
  |true=>
   rw[n,zC,cD]at h;simp only[Oh,n,zC]at b;rcases h with h|h
   .rw[bB h]at b;exact d b
   .have j:Oh tab ops r chk e' S k=O y:=by
     cases g:(cw ops a.i).op<;>rw[g]at b<;>simp only[Gp]at b<;>first|(cases b;done)|skip
     case alloc es z=>exact(aw b).2
     case makeSlice es bytes z l q=>
      split at b
      .exact(aw b).2
      .cases b
     case buildSlice es ln z ps=>
      split at b
      .exact(aw b).2
      .cases b
    exact Ol r h H B j
  |false=>
  rw[n,zD]at h;simp only[cD,aD]at h;rcases h with⟨I,h⟩|⟨⟨⟨I,D⟩,p⟩,C⟩
  .simp only[Oh,I,n,zC,zD]at b;by_cases Q:a.i=m
   .rw[Q]at b;exact d b
   .rcases h with h|⟨p,C⟩
    .exact(Q (bB h)).elim
    .have j: ∃A w,Oh tab ops r chk (putO e' (cw ops a.i).dst (vvF w S.length)) (S++[A]) k=O y:=by
      cases g:(cw ops a.i).op<;>rw[g]at b<;>simp only[Gp]at b<;>first|(cases b;done)|skip
      case alloc es z=>exact⟨_,_,(aw b).2⟩
      case makeSlice es bytes z l q=>
       split at b
       .exact⟨_,_,(aw b).2⟩
       .cases b
      case buildSlice es ln z ps=>
       split at b
       .exact⟨_,_,(aw b).2⟩
       .cases b
     obtain⟨A,w,N⟩:=j;exact Ol r C H (u _ p) N
  .have L:aB a.kind 2=Zb:=by rw[bB I];rfl
   have K:aB a.kind 1=Zb:=by rw[bB I];rfl
   simp only[Oh,L,K,n,zD]at b;obtain⟨_,b⟩:=aw b;cases g:(cw ops a.i).op<;>rw[g]at D<;>first|(cases D;done)|skip
   case move x=>
    rw[g]at b;simp only[Py,AOp.isLoad,zD]at b;obtain⟨_,b⟩:=aw b;exact Ol r C H (u _ p) b
theorem YQ {F:Nat->Prop}: ∀{l:List Nat},(∀m∈l,F m)->Rd F l
 |[],_=>trivial
 |[m],h=>h m (by simp)
 |m::b::r,h=>⟨h m (by simp),YQ λq a=>h q (cB _ a)⟩
theorem aK3 {D:List Nat}{i:Nat}(h:mD ops D=O i): ∃p,ops[i]?=O (cw ops i,p)/\(cw ops i).op.still=Za:=by
 unfold mD at h;have b:=List.find?_some h;simp only[aD]at b;have a:=b.2;unfold GG at a;unfold cw;split at a
 .rename_i o p d;rw[d];exact⟨p,rfl,a⟩
 .cases a
theorem av3 {D:List Nat}{m:Nat}(h:m∈dj ops D): ∃p,ops[m]?=O (cw ops m,p)/\(cw ops m).op.still=Zb:=by
 unfold dj at h;obtain⟨a,d⟩:=List.mem_filter.1 h;have a:=List.mem_range.1 a;simp only[aD]at d;have b:=d.2;unfold GG at b;unfold cw;rw[List.getElem?_eq_getElem a]at b⊢;exact⟨_,rfl,by simpa using b⟩
theorem aa9 {a:Nat}{g:Bool}{P:List Nat}{r:List LItem}(h:J1 ops a g P r=Za){q:Nat}(i:q∈P):(∀t,(cw ops a).dst=O t->(cw ops q).dst≠O t)/\∀t,(cw ops a).dst=O t->t∉D3 (cw ops q).op:=by
 simp only[J1,aD]at h;have b:=List.all_eq_true.1 h.1 q i;rw[aD]at b;refine⟨λt d e=> ?_,λt d j=> ?_⟩
 .have:=b.1;rw[d,e]at this;simp only[neO,dB]at this;cases this
 .have:=b.2;rw[d]at this;simp only[Lv]at this;rw[oH.2 j]at this;cases this
theorem aK9 {a:Nat}{b:Bool}{P:List Nat}{r:List LItem}(h:J1 ops a b P r=Za)(g:it∈r)(l:aB it.kind 2=Za)(j:b=Za->it.i≠a){t:Nat}(m:(cw ops a).dst=O t):(cw ops it.i).dst≠O t:=by
 simp only[J1,aD]at h;have d:=List.all_eq_true.1 h.2 it g
 have k:(b&&aB it.i a)=Zb:=by
  cases b with
  |false=>rfl
  |true=>exact Bool.eq_false_iff.2 λe=>j rfl (bB e)
 rw[l,k]at d;intro e;rw[m,e]at d;simp only[Bool.not_true,Bool.false_or,neO,dB]at d;cases d
theorem LD {d:Option Nat}{t:Nat}(h: ∀a,d=O a->t≠a):(ea.putO d v) t=ea t:=by
 cases d with
 |none=>rfl
 |some a=>exact zF (h a rfl)
theorem ay6 {d:Option Nat}{v:VV}{t:Nat}(h: ∀a,d=O a->t≠a):qe (putO e d v) t=qe e t:=by
 cases d with
 |none=>rfl
 |some a=>
  show qe (uz e a v) t=_;rw[AA,zF (h a rfl)]
theorem InvL.on {w a:List (Nat×(Hp->Prop))}{d:M9}{P ls p nd s:List Nat}{r:List LItem}{pd:Nat->Nat}{i:Nat}{M:VV}
  (g:InvL ops c0 c e ea w chk P ls nd (it::r) pd) (I:J1 ops i Zb P r=Za) (l:Le c c') (T:Rel c') (V:VRel c' M v) (Q:ChkRel c' a d) (D:a.map (·.1)=p) (F:pP s d=Za):
  InvL ops c0 c' (putO e (cw ops i).dst M) (ea.putO (cw ops i).dst v) a d P p s r pd:=by
 have o:=g.ds;simp only[RJ,aD]at o;refine⟨?_,T,(g.E.frame l).putO V,Q,D,F,λb=>by rw[l.fb];exact g.fb b,g.nod,g.inj,g.new,λq H=> ?_,λj K L t m=> ?_,o.2⟩
 .have z:=g.le;have A:Le ⟨c.μ,c.S,c.Z,c0.fb⟩ ⟨c'.μ,c'.S,c'.Z,c0.fb⟩:=⟨l.len,l.al,l.fz,l.ln,l.un,l.ow,l.n,rfl⟩;exact z.trans A
 .obtain⟨J,x,vf,z,A,N⟩:=g.pend q H;obtain⟨W,X⟩:=aa9 I H;refine⟨J,x,vf,z.same J λt m=>LD λu k e=>X u k (e▸m),l.un _ _ A λU=> ?_,λt m=> ?_⟩
  .obtain⟨j,B,C⟩:=U;exact g.R.fbk j _ (qP B) C ((g.fb _).2 (.inr ⟨q,H,rfl⟩))
  .rw[LD λu k e=>W u k (e▸m)];exact N t m
 .rw[ay6 λu k e=>aK9 I K L (λh=>by cases h) k (e▸m)];exact g.und j (cB _ K) L t m
theorem TT {β:Type}{c0:Ctx}{k:dk->ak->Option β}{y:β}(h0:Rel c0): ∀(f:Nat) {D P ls nd:List Nat} {r:List LItem} {c:Ctx} {e:dk} {ea:cm} {C:List (Nat×(Hp->Prop))} {chk:M9} {pd:Nat->Nat},TL ops f D P ls nd r=Za->InvL ops c0 c e ea C chk P ls nd r pd->Oh tab ops r chk e c.S k=O y->
  KK (jf tab) (wB c0 k y) ops f D C ea c.Z
 |0,D,P,ls,nd,r,c,e,ea,C,chk,pd,h,g,hv=>TV h0 r h g hv
 |f+1,D,P,ls,nd,r,c,e,ea,C,chk,pd,h,g,hv=>by
  simp only[TL]at h;simp only[KK];cases hns:mD ops D with
  |some i=>
   rw[hns]at h;simp only[aD]at h⊢;obtain⟨hg,h⟩:=h;obtain⟨p,ho,M⟩:=aK3 hns;rw[ho]
   have hw:wanted (cw ops i) ea=Za:=by
    unfold wanted;cases hgg:(cw ops i).guard with
    |none=>rfl
    |some q=>rw[hgg]at hg;cases hg
   simp only[hw,if_true];cases hs:GI r P i with
   |none=>rw[hs]at h;cases h
   |some q=>
    obtain⟨P',it,r'⟩:=q;rw[hs]at h;simp only[aD]at h;obtain⟨⟨hk0,hd⟩,hc⟩:=h;obtain⟨c1,e1,h1,B,h3,h4,h5,h6⟩:=LS h0 r hs g hv;subst h5;have W:aB it.kind 1=Zb:=by rw[bB hk0];rfl
    have hk3:aB it.kind 3=Zb:=by rw[bB hk0];rfl
    simp only[Oh,h4,W,hk3,zD]at h3;obtain⟨_,h3⟩:=aw h3;have j:=Lh B.R B.E h3;rw[<-IE M,h1]at j;cases hr:(cw ops it.i).op.run ea c.Z with
    |none=>rw[hr]at j;exact j.elim
    |some q=>
     obtain⟨v,Z1⟩:=q;rw[hr]at j;obtain⟨vv,c2,g1,g2,g3,g4,g5,g6⟩:=j;simp only
     have hdd:Lg tab (cw ops it.i).op e1 c1.S=[]:=by
      cases hop:(cw ops it.i).op<;>rw[hop]at M<;>first|(cases M;done)|rfl
     have hZ1:Z1=c.Z:=KC M hr;obtain⟨X,g8⟩:=aw g6;have U:=B.K.next g2 g4
     rw[hdd,Dh]at U
     have N: ∀{I:List (Nat×(Hp->Prop))} {J:M9} {ls':List Nat},ChkRel c2 I J->I.map (·.1)=ls'->pP it.need J=Za->Oh tab ops r' J (putO e1 (cw ops it.i).dst vv) c2.S k=O y->TL ops f (it.i::D) P' ls' it.need r'=Za->
       KK (jf tab) (wB c0 k y) ops f (it.i::D) I (ea.putO (cw ops it.i).dst v) c.Z:=by
      intro I J ls' q1 q2 q3 q4 q5;have:=TT h0 f q5 (B.on hd g2 g3 g5 q1 q2 q3) q4;rw[g1,hZ1]at this;exact this
     cases hld:(cw ops it.i).op.isLoad with
     |false=>
      rw[hld]at X g8 hc;rw[zF (by decide)];exact N U B.ks X g8 hc
     |true=>
      rw[hld]at X g8 hc;rw[zE rfl];have hkp:=Rz B.R B.E hld (by rw[h1];exact hr);have hn2:=(ChkRel.cons (i:=it.i) hkp B.K).next g2 g4
      rw[hdd,Dh]at hn2;exact N hn2 (by rw[List.map_cons,B.ks];rfl) X g8 hc
  |none=>
   rw[hns]at h;simp only at h⊢
   have each: ∀{ms:List Nat},(∀m∈ms,m∈dj ops D)->(ms.all λm=>(cw ops m).guard.isNone&&cond (CX (cw ops m).op)
    (!qj m P&&r.any (λit=>aB it.kind 2&&aB it.i m)&&(VL (cw ops m).op||PG ops r m)&&J1 ops m Za P r&&Lv (cw ops m).dst (D3 (cw ops m).op)&&ls.all (λi=>AZ ops i m||qj i nd)&&TL ops f (m::D) (m::P) ls nd r)
    (match GI r P m with
    |some (P',it,r')=>aB it.kind 1&&J1 ops m Zb P' r'&&ls.all (λi=>AZ ops i m||qj i it.chks)&&TL ops f (m::D) P' ls it.need r'
    |none=>Zb))=Za->Rd (λm=>match ops[m]? with
     |some (o,_)=>if wanted o ea then cc (jf tab) o.op ea c.Z λv Z'=>G5 ops m Z' C/\KK (jf tab) (wB c0 k y) ops f (m::D) C (ea.putO o.dst v) Z'
      else KK (jf tab) (wB c0 k y) ops f (m::D) C (ea.putO o.dst undef) c.Z
     |none=>False) ms:=by
    intro ms hms hall;refine YQ λm hm=> ?_
    have h:=List.all_eq_true.1 hall m hm;simp only[aD]at h;obtain⟨hg,h⟩:=h;obtain⟨p,ho,M⟩:=av3 (hms m hm);rw[ho]
    have hw:wanted (cw ops m) ea=Za:=by
     unfold wanted;cases hgg:(cw ops m).guard with
     |none=>rfl
     |some q=>rw[hgg]at hg;cases hg
    simp only[hw,if_true];cases V:CX (cw ops m).op with
    |false=>
     rw[V,zD]at h;cases hs:GI r P m with
     |none=>rw[hs]at h;cases h
     |some q=>
      obtain⟨P',it,r'⟩:=q;rw[hs]at h;simp only[aD]at h;obtain⟨⟨⟨W,hd⟩,hls⟩,hc⟩:=h;obtain⟨c1,e1,h1,B,h3,h4,h5,h6⟩:=LS h0 r hs g hv;subst h5;have hk3:aB it.kind 3=Zb:=by rw[bB W];rfl
      simp only[Oh,h4,W,hk3,zD,zC]at h3;have j:=Lh B.R B.E h3;rw[h1]at j;refine sm (cb tab) (λv Z' hx=> ?_) j;obtain⟨vv,c2,g1,g2,g3,g4,g5,g6⟩:=hx;obtain⟨X,g8⟩:=aw g6;rw[aD]at X;have U:=B.K.next g2 g4
      subst g1;refine⟨CZ U X.1 λi hi=> ?_,TT h0 f hc (B.on hd g2 g3 g5 U B.ks X.2) g8⟩;rw[B.ks]at hi;have:=List.all_eq_true.1 hls i hi;rw[cD]at this;exact this
    |true=>
     rw[V,zC]at h;simp only[aD]at h;obtain⟨⟨⟨⟨⟨⟨hnm,hany⟩,hor⟩,hd⟩,w⟩,hls⟩,hc⟩:=h;have A:m∉P:=λe=>by rw[oH.2 e]at hnm;cases hnm
     obtain⟨x,vf,hF⟩: ∃x vf,vS (cw ops m).op ea x vf:=by
      rw[cD]at hor;rcases hor with hor|hor
      .cases hop:(cw ops m).op<;>rw[hop]at hor<;>first|(cases hor;done)|skip
       case alloc es z=>exact⟨⟨z,Za,es⟩,λn=> .pointer (O ⟨n,0,Y⟩),λZ=>rfl⟩
      .obtain⟨x,vf,_,h1⟩:=Ol r hor g.E (λt _=>rfl) hv;exact⟨x,vf,h1⟩
     let c':Ctx:=⟨c.μ,c.S,c.Z.add x,λb=>c.fb b∨b=c.Z.n⟩
     have s: ∀b y,c.Z.m b=O y->(c.Z.add x).m b=O y:=by
      intro b y H;have:=g.R.ok b y H;simp only[Hp.add];rw[Zh];exact H
     have hV:LeV c c':=by
      refine⟨eD _,λq d hq u=>⟨u,rfl⟩,λq d b y hq u hm H=>⟨y,s b y H,rfl⟩,λb y H U=>⟨s b y H,λhm=> ?_⟩⟩;rcases hm with hm|hm|hm
      .exact U (.inl hm)
      .exact U (.inr hm)
      .have:=g.R.ok b y H;omega
     have hR':Rel c':=by
      refine⟨λb y H=> ?_,g.R.inj,λq d u=> ?_,λq b u hm hf=> ?_,λb hb=> ?_⟩
      .simp only[c',Hp.add]at H⊢;split at H
       .omega
       .have:=g.R.ok b y H;omega
      .obtain⟨h6,j⟩:=g.R.blk q d u;refine⟨h6, ?_⟩;rcases j with j|⟨b',y',cs',T,j,h8,h9,h10,h11,h12⟩
       .exact .inl j
       .exact .inr ⟨b',y',cs',T,j,s _ _ h8,h9,h10,h11,VRel.framesV hV h12⟩
      .rcases hf with hf|hf
       .exact g.R.fbk q b u hm hf
       .subst hf;have hdm':(ae c.S q).dim≠Y:=u;cases hd2:(ae c.S q).dim with
        |none=>exact hdm' hd2
        |some d=>
         obtain⟨_,j⟩:=g.R.blk q d hd2;have hm':c.μ q=O c.Z.n:=hm;rcases j with⟨_,j⟩|⟨b',y',cs',T,j,h8,_⟩
         .rw[hm']at j;cases j
         .rw[hm']at j;injection j with j
          subst j;have:=g.R.ok _ _ h8;omega
      .show b<c.Z.n+1;rcases hb with hb|hb
       .have:=g.R.fbl b hb;omega
       .omega
     have hK':=g.K.frameV g.R hV (λ_ _=>rfl) (λ_ _=>rfl) s;refine ck (hF c.Z) ⟨CZ hK' g.nd λi hi=> ?_, ?_⟩
     .rw[g.ks]at hi;have:=List.all_eq_true.1 hls i hi;rw[cD]at this;exact this
     .refine TT (c:=c') (pd:=λq=>if q=m then c.Z.n else pd q) h0 f hc ⟨?_,hR', ?_,hK',g.ks,g.nd,λb=> ?_,List.nodup_cons.2 ⟨A,g.nod⟩,λq q' hq hq' he=> ?_,λq hq=> ?_,λq hq=> ?_,g.und,g.ds⟩ hv
      .have F:=g.le;refine⟨F.len,F.al,F.fz,λq d b y hq u hm H=> ?_,λb y H U=>s _ _ (F.un b y H U),F.ow,Nat.le_trans F.n (Nat.le_succ _),rfl⟩;obtain⟨y',q1,q2⟩:=F.ln q d b y hq u hm H;exact⟨y',s _ _ q1,q2⟩
      .have hE:=g.E.frameV hV;intro t;cases hdst:(cw ops m).dst with
       |none=>exact hE t
       |some t'=>
        show VRel c' (qe e t) (if t=t' then _ else ea t);by_cases htt:t=t'
        .subst htt;rw[zE rfl];obtain⟨it,hit,L⟩:=List.any_eq_true.1 hany;rw[aD]at L;have hitm:=bB L.2;subst hitm;rw[g.und it hit L.1 _ hdst];exact .undef _
        .rw[zF htt];exact hE t
      .constructor
       .rintro(hb|hb)
        .rcases(g.fb b).1 hb with hb|⟨q,hq,hb⟩
         .exact .inl hb
         .refine .inr ⟨q,cB _ hq, ?_⟩;show(if q=m then c.Z.n else pd q)=b;rw[zF (λe:q=m=>A (e▸hq))];exact hb
        .exact .inr ⟨m,List.mem_cons_self,by simp[hb]⟩
       .rintro(hb|⟨q,hq,hb⟩)
        .exact .inl ((g.fb b).2 (.inl hb))
        .rcases List.mem_cons.1 hq with rfl|hq
         .simp only[if_true]at hb;exact .inr hb.symm
         .have hb:(if q=m then c.Z.n else pd q)=b:=hb;rw[zF (λe:q=m=>A (e▸hq))]at hb;exact .inl ((g.fb b).2 (.inr ⟨q,hq,hb⟩))
      .have hlt: ∀q∈P,pd q<c.Z.n:=λq hq=>g.R.fbl _ ((g.fb _).2 (.inr ⟨q,hq,rfl⟩))
       have he:(if q=m then c.Z.n else pd q)=if q'=m then c.Z.n else pd q':=he
       rcases List.mem_cons.1 hq with rfl|hq1
       .rcases List.mem_cons.1 hq' with rfl|hq2
        .rfl
        .rw[zE rfl,zF (λe:q'=q=>A (e▸hq2))]at he;have:=hlt _ hq2;omega
       .rw[zF (λe:q=m=>A (e▸hq1))]at he;rcases List.mem_cons.1 hq' with rfl|hq2
        .rw[zE rfl]at he;have:=hlt _ hq1;omega
        .rw[zF (λe:q'=m=>A (e▸hq2))]at he;exact g.inj q q' hq1 hq2 he
      .show c0.Z.n<=(if q=m then c.Z.n else pd q);rcases List.mem_cons.1 hq with rfl|hq
       .rw[zE rfl];exact g.le.n
       .rw[zF (λe:q=m=>A (e▸hq))];exact g.new q hq
      .show CX (cw ops q).op=Za/\∃x1 vf1,vS (cw ops q).op (ea.putO (cw ops m).dst (vf c.Z.n)) x1 vf1/\c'.Z.m (if q=m then c.Z.n else pd q)=O x1/\∀t,(cw ops q).dst=O t->ea.putO (cw ops m).dst (vf c.Z.n) t=vf1 (if q=m then c.Z.n else pd q)
       rcases List.mem_cons.1 hq with rfl|hq
       .rw[zE rfl];refine⟨V,x,vf,hF.same V λt ht=>LD λt' Q e=> ?_,zE rfl,λt ht=> ?_⟩
        .subst e;rw[Q]at w;simp only[Lv]at w;rw[oH.2 ht]at w;cases w
        .rw[ht];exact zE rfl
       .rw[zF (λe:q=m=>A (e▸hq))];obtain⟨hf',x',vf',q1,q2,q3⟩:=g.pend q hq;obtain⟨k1,k2⟩:=aa9 hd hq;refine⟨hf',x',vf',q1.same hf' λt ht=>LD λt' Q e=>k2 t' Q (e▸ht),s _ _ q2,λt ht=> ?_⟩;rw[LD λt' Q e=>k1 t' Q (e▸ht)];exact q3 t ht
   cases hrm:dj ops D with
   |nil=>rw[hrm]at h;exact TV h0 r h g hv
   |cons a l=>
    rw[hrm]at h;exact each (λm hm=>by rw[hrm];exact hm) h
end
end
section
open Bool renaming and_eq_true -> aB
open List renaming mem_cons_self -> aD, mem_cons_of_mem -> cB, mem_of_getElem? -> cD
open Nat renaming beq -> bB, zero_add -> bD, eq_of_beq_eq_true -> dB
section
variable {tab:Tab}
theorem Wm {t:Nat}{p:Bool}(b:ba c e ea)(g:qe e t= .bool p):ba c (uz e t (.bool p)) ea:=by
 have a:=b t;rw[g]at a;have a:=a.bool_inv;intro i;rw[AA];by_cases d:i=t
 .subst d;rw[zE rfl,a];exact .bool _
 .rw[zF d];exact b i
theorem Kk {β:Type}{y:β}: ∀{s:List SItem} {c:Ctx} {e:dk} {ea:cm} {chk:M9} {a:List (Nat×(Hp->Prop))} {k:dk->ak->Option β},Rel c->ba c e ea->ChkRel c a chk->yo tab s chk e c.S k=O y->UV (jf tab) (wB c k y) s a ea c.Z
 |[],c,e,ea,chk,a,k,x,m,B,h=>⟨e,c,rfl,Le.refl c,x,m,h⟩
 |it::r,c,e,ea,chk,a,k,x,m,B,h=>by
  have d: ∀l,ba c l ea->Mq tab it chk l c.S (λi D S'=>yo tab r i D S' k)=O y->
    (if it.mover then cc (jf tab) it.o.op ea c.Z (λv Z'=>B5 it.chks Z' a/\UV (jf tab) (wB c k y) r a (ea.putO it.o.dst v) Z')
    else match it.o.op.run ea c.Z with
     |some (v,_)=>UV (jf tab) (wB c k y) r (if it.keep then(it.idx,λZ'=>it.o.op.run ea Z'=O (v,Z'))::a else a) (ea.putO it.o.dst v) c.Z
     |none=>False):=by
   intro l n A;refine ag5 (Q:=λg ea' Z'=>UV (jf tab) (wB c k y) r g ea' Z') x n B A λc' g i D ea' F H I J K=> ?_
   exact IV (cb tab) (λE Z'' q=>q.of F) _ _ _ _ (Kk H J I K)
  have skip: ∀l,ba c l ea->yo tab r chk (putO l it.o.dst (.tup [])) c.S k=O y->UV (jf tab) (wB c k y) r a (ea.putO it.o.dst undef) c.Z:=λl n A=>Kk x (n.putO (.tup .nil)) B A
  simp only[yo]at h;simp only[UV];split at h
  .rename_i z;have:wanted it.o ea=Za:=by simp only[wanted,z]
   rw[zE this];exact d e m h
  .rename_i t w z;split at h
   .rename_i p q;have j:=m t;rw[q]at j;have j:=j.bool_inv;have C:wanted it.o ea=(p==w):=by simp only[wanted,z,j]
    have b:=Wm m q;rw[C];cases p<;>cases w<;>simp only[zC,zD]at h
    .rw[zE (by decide)];exact d _ b h
    .rw[zF (by decide)];exact skip _ b h
    .rw[zF (by decide)];exact skip _ b h
    .rw[zE (by decide)];exact d _ b h
   .rename_i q;have j:=m t;rw[q]at j
    have C:wanted it.o ea=Zb:=by
     simp only[wanted,z];generalize ea t=u at j;cases j;rfl
    rw[C,zF (by decide)];exact skip _ m h
   .cases h
def wA (as:List Nat)(e e':cm):Prop:= ∀t,t∉as->e' t=e t
theorem wA.refl (as:List Nat)(e:cm):wA as e e:=λ_ _=>rfl
theorem wA.put {as:List Nat}{e e':cm}{d:Option Nat}(h:wA as e e')(b: ∀t,t∈TQ d->t∈as):wA as e (e'.putO d v):=by
 intro t a;cases d with
 |none=>exact h t a
 |some d=>
  have:t≠d:=by rintro rfl;exact a (b t (List.mem_singleton.2 rfl))
  simp only[cm.putO,cm.put,zF this];exact h t a
theorem KE {T:Ab.mE}(b:yM T){Q:cm->Hp->Prop}{as:List Nat}{e0:cm}: ∀{ops:List AOper} {e:cm} {Z:Hp},(∀o,o∈ops->∀t,t∈TQ o.dst->t∈as)->wA as e0 e->Ab.Di T Q ops e Z->Ab.Di T (λe' Z'=>wA as e0 e'/\Q e' Z') ops e Z
 |[],e,Z,_,a,h=>⟨a,h⟩
 |o::r,e,Z,d,a,h=>by
  simp only[Ab.Di]at h⊢;have i: ∀o,o∈r->∀t,t∈TQ o.dst->t∈as:=λo j=>d o (cB _ j)
  split at h
  .rename_i g;rw[zE g];exact sm b (λv Z' k=>KE b i (a.put (d o aD)) k) h
  .rename_i g;rw[zF g];exact KE b i (a.put (d o aD)) h
theorem LY {T:Ab.mE}(d:yM T){Q:cm->Hp->Prop}{as:List Nat}{e0:cm}: ∀{a:List SItem} {chk:List (Nat×(Hp->Prop))} {e:cm} {Z:Hp},(∀o,o∈a->∀t,t∈TQ o.o.dst->t∈as)->wA as e0 e->UV T Q a chk e Z->UV T (λe' Z'=>wA as e0 e'/\Q e' Z') a chk e Z
 |[],chk,e,Z,_,b,h=>⟨b,h⟩
 |it::r,chk,e,Z,g,b,h=>by
  simp only[UV]at h⊢;have j: ∀o,o∈r->∀t,t∈TQ o.o.dst->t∈as:=λo m=>g o (cB _ m)
  split at h
  .rename_i k;rw[zE k];split at h
   .rename_i i;rw[zE i];exact sm d (λv Z' l=>⟨l.1,LY d j (b.put (g it aD)) l.2⟩) h
   .rename_i i;rw[zF i];split at h
    .exact LY d j (b.put (g it aD)) h
    .exact h.elim
  .rename_i k;rw[zF k];exact LY d j (b.put (g it aD)) h
theorem Vk {F G:Nat->Prop}(h: ∀m,F m->G m): ∀{l:List Nat},Rd F l->Rd G l
 |[],_=>trivial
 |[m],q=>h m q
 |m::a::r,q=>⟨h m q.1,Vk h q.2⟩
theorem IT {T:Ab.mE}(q:yM T){Q:cm->Hp->Prop}{as:List Nat}{e0:cm}{ops:List (AOper×List Nat)}(d: ∀o,o∈ops->∀t,t∈TQ o.1.dst->t∈as): ∀(f:Nat) {D:List Nat} {chk:List (Nat×(Hp->Prop))} {e:cm} {Z:Hp},wA as e0 e->KK T Q ops f D chk e Z->KK T (λe' Z'=>wA as e0 e'/\Q e' Z') ops f D chk e Z
 |0,D,chk,e,Z,j,h=>⟨j,h⟩
 |f+1,D,chk,e,Z,j,h=>by
  simp only[KK]at h⊢;cases u:mD ops D with
  |some i=>
   rw[u]at h;simp only at h⊢;cases k:ops[i]? with
   |none=>rw[k]at h;exact h
   |some p=>
    obtain⟨o,s⟩:=p;rw[k]at h;have b:(o,s)∈ops:=cD k;simp only at h⊢;split at h
    .rename_i n;rw[zE n];split at h
     .rename_i v Z' r;exact IT q d f (j.put (d _ b)) h
     .exact h.elim
    .rename_i n;rw[zF n];exact IT q d f (j.put (d _ b)) h
  |none=>
   rw[u]at h;simp only at h⊢;cases r:dj ops D with
   |nil=>rw[r]at h;exact⟨j,h⟩
   |cons a l=>
    rw[r]at h;simp only at h⊢;refine Vk (λm b=> ?_) h;cases k:ops[m]? with
    |none=>rw[k]at b;exact b
    |some p=>
     obtain⟨o,s⟩:=p;rw[k]at b;have g:(o,s)∈ops:=cD k;simp only at b⊢;split at b
     .rename_i n;rw[zE n];exact sm q (λv Z' w=>⟨w.1,IT q d f (j.put (d _ g)) w.2⟩) b
     .rename_i n;rw[zF n];exact IT q d f (j.put (d _ g)) b
theorem AM {T:Ab.mE}(m:yM T){as:List Nat}{e0:cm}: ∀(c:AC) {Q:AExit->cm->Hp->Prop} {e:cm} {Z:Hp},Iw c=Za->(∀t,t∈oF c->t∈as)->wA as e0 e->Bv T c Q e Z->Bv T c (λx e' Z'=>wA as e0 e'/\Q x e' Z') e Z
 | .skip,_,_,_,_,_,j,h=>⟨j,h⟩
 | .exit _,_,_,_,_,_,j,h=>⟨j,h⟩
 | .ret,_,_,_,_,_,j,h=>⟨j,h⟩
 | .region ops,Q,e,Z,_,k,j,h=>KE m (λo r t l=>k t (List.mem_flatMap.2 ⟨o,r,l⟩)) j h
 | .sched A,Q,e,Z,_,k,j,h=>LY m (λo r t l=>k t (List.mem_flatMap.2 ⟨o,r,l⟩)) j h
 | .draw ops,Q,e,Z,_,k,j,h=>IT m (λo r t l=>k t (List.mem_flatMap.2 ⟨o,r,l⟩)) _ j h
 | .seq a b,Q,e,Z,p,k,j,h=>by
  simp only[Iw,aB]at p;have q:=AM m a p.1 (λt l=>k t (List.mem_append.2 (.inl l))) j h;refine i8 m a _ _ (λx e' Z' s=> ?_) e Z q;obtain⟨g,d⟩:=s;cases x with
  |normal=>exact AM m b p.2 (λt l=>k t (List.mem_append.2 (.inr l))) g d
  |exit i=>exact⟨g,d⟩
  |ret=>exact⟨g,d⟩
 | .cond c a b,Q,e,Z,p,k,j,h=>by
  simp only[Iw,aB]at p;simp only[Bv]at h⊢;split at h
  .exact AM m a p.1 (λt l=>k t (List.mem_append.2 (.inl l))) j h
  .exact AM m b p.2 (λt l=>k t (List.mem_append.2 (.inr l))) j h
  .exact h.elim
 | .block id b,Q,e,Z,p,k,j,h=>by
  have q:=AM m b p k j h;refine i8 m b _ _ (λx e' Z' s=> ?_) e Z q;obtain⟨g,d⟩:=s;cases x with
  |normal=>exact⟨g,d⟩
  |exit i=>
   simp only at d⊢;split at d
   .rename_i u;rw[zE u];exact⟨g,d⟩
   .rename_i u;rw[zF u];exact⟨g,d⟩
  |ret=>exact⟨g,d⟩
 | .loop b,Q,e,Z,p,k,j,h=>by
  obtain⟨n,w⟩:=h;refine⟨n, ?_⟩;induction n generalizing e Z with
  |zero=>exact w.elim
  |succ n z=>
   simp only[nZ]at w⊢;have q:=AM m b p k j w;refine i8 m b _ _ (λx e' Z' s=> ?_) e Z q;obtain⟨g,d⟩:=s;cases x with
   |normal=>exact z _ _ g d
   |exit i=>exact⟨g,d⟩
   |ret=>exact⟨g,d⟩
theorem Mo {N:Nat}{vals:List VV}{t:HE sk.shs}(h:Pr S N fx sk vals=O t):sk.noRo=Za/\∃st,qO S N fx sk vals=O st/\WU sk.shs t=st.ls:=by
 unfold Pr at h;obtain⟨a,b⟩:=aw h;obtain⟨st,d,g⟩:=ah b;exact⟨a,st,d,Jn g⟩
theorem ar5 {N:Nat}{vals:List VV}{t:HE sk.shs}(h:YZ S N fx sk vals=O t):sk.fxRo=Za/\∃st,qO S N fx sk vals=O st/\WU sk.shs t=st.ls:=by
 unfold YZ at h;obtain⟨a,b⟩:=aw h;obtain⟨st,d,g⟩:=ah b;exact⟨a,st,d,Jn g⟩
theorem I6 {S:ak}{N:Nat}{fx:List Nat}{vals:List Nat->List VV}{d:XK->Bool}: ∀{l:List Alt} {s:zf l},A3 S N fx vals d l=O s->∃p,ap0 l s=O p/\d p.1.x=Za/\Pr S N fx p.1.sk (vals p.1.ts)=O p.2
 |[],s,h=>by cases h
 |[a],s,h=>by
  simp only[A3]at h;cases g:d a.x with
  |false=>rw[g]at h;cases h
  |true=>rw[g]at h;exact⟨⟨a,s⟩,rfl,g,h⟩
 |a::b::r,s,h=>by
  simp only[A3]at h;split at h
  .rename_i t i;injection h with h
   subst h;cases g:d a.x with
   |false=>rw[g]at i;cases i
   |true=>rw[g]at i;exact⟨⟨a,t⟩,rfl,g,i⟩
  .obtain⟨q,k,j⟩:=ah h;injection j with j
   subst j;obtain⟨p,m,n,o⟩:=I6 k;exact⟨p,m,n,o⟩
theorem XK.is_out {x:XK}{y:AExit}(h:x.is y=Za):x.out=y:=by
 cases x<;>cases y<;>simp only[XK.is]at h<;>first|rfl|(cases h;done)|skip
 rename_i i j;rw[show(XK.exit i).out=AExit.exit i from rfl,dB h]
theorem LF {c:Ctx}: ∀{ts:List Nat} {e:dk} {ea:cm} {vs:List VV},ba c e ea->F2 (VRel c) vs (ts.map ea)->ba c (Wn e ts vs) ea
 |[],e,ea,vs,a,b=>by
  cases b;exact a
 |t::ts,e,ea,vs,a,b=>by
  cases b with
  |cons g h=>
   have:=LF a h;intro i;simp only[Wn,AA];by_cases d:i=t
   .subst d;rw[zE rfl];exact g
   .rw[zF d];exact this i
theorem Ml : ∀{ts:List Nat} {e:dk} {t:Nat},qe (Ii e ts) t= .undef∨(t∉ts/\qe (Ii e ts) t=qe e t)
 |[],e,t=> .inr ⟨by simp,rfl⟩
 |a::ts,e,t=>by
  simp only[Ii,AA];by_cases h:t=a
  .rw[zE h];exact .inl rfl
  .rw[zF h];rcases Ml (ts:=ts) (e:=e) (t:=t)with b|⟨b,d⟩
   .exact .inl b
   .exact .inr ⟨by simp[h,b],d⟩
theorem I3 {as:List Nat}(d:ba c e ea)(g:wA as ea ea'):ba c (Ii e as) ea':=by
 intro t;rcases Ml (ts:=as) (e:=e) (t:=t)with h|⟨a,b⟩
 .rw[h];exact .undef _
 .rw[b,g t a];exact d t
theorem Oq {c:Ctx}{e:dk}{ea:cm}(a:ba c e ea): ∀ts:List Nat,F2 (VRel c) (ts.map (qe e)) (ts.map ea)
 |[]=> .nil
 |t::ts=> .cons (a t) (Oq a ts)
theorem Ud {β:Type}{c1:Ctx}{e0:dk}{d:cm}{mov b:List Nat}{a:List Alt}{s:zf a}{k:AExit->dk->ak->Option β}{y:β}{e':dk}{x:AExit}(M:Rel c)(n:ba c e0 d)(g:Rel c')(P:Within c c1 fx mov)(i:Rel c1)(r:Le c1 c')(t:N4 c.S fx=Za)
  (o:wA b d ea') (m:ba c' e' ea') (N:A3 c'.S c.S.length fx (λts=>ts.map (qe e')) (λy=>y.is x) a=O s) (h:aI7 e0 c.S fx mov b a s k=O y):wZ c k y x ea' c'.Z:=by
 obtain⟨p,H,I,J⟩:=I6 N;obtain⟨u,Q,K,L⟩:=Mo J;unfold aI7 at h;rw[TC,H]at h;simp only[zG]at h;rw[XK.is_out I]at h;unfold IH at h;rw[L]at h;cases l:tT id p.1.sk Q.ls with
 |none=>rw[l]at h;cases h
 |some q=>
  obtain⟨vs,w,A⟩:=q;rw[l]at h;simp only[Bool.false_or]at h;cases j:AJ fx w (nE fx mov (G1 vs w A) 0 c.S)with
  |none=>rw[j]at h;cases h
  |some S2=>
   rw[j]at h;obtain⟨B,C,D,z,E,F⟩:=aJ3 M g P i r t u K l (Oq m _) j;refine⟨_,B,C,z,E,LF (I3 (n.frame z) o) F, ?_⟩;rw[D];exact h
theorem Xq :yA S (nE fx [] Za 0 S):=by
 refine⟨qd,λk=> ?_⟩;by_cases a:k<S.length
 .rw[qc a];simp only[qj,zD,bD];cases qj k fx with
  |true=>exact .inl rfl
  |false=>exact .inr rfl
 .rw[AG (by rw[qd];omega),AG (by omega)];exact .inl rfl
def bx6 (c:Ctx)(e0:dk)(d:cm)(fx mov a:List Nat)(ts:List Nat)(sk:zd)(t:HE sk.shs)(ea:cm)(Z:Hp):Prop:=
 ∃b g,b.Z=Z/\IH e0 c.S fx mov a Za ts sk t=O (g,b.S)/\Rel b/\ba b g ea/\Within c b fx mov/\wA a d ea
theorem Qw {e0 e1:dk}{S1:ak}{mov a ts:List Nat}{t:HE sk.shs}(h:IH e0 S fx mov a Za ts sk t=O (e1,S1)): ∃vs b bs S',tT id sk (WU sk.shs t)=O (vs,b,bs)/\AJ fx b (nE fx mov Za 0 S)=O S'/\e1=Wn (Ii e0 a) ts vs/\S1=S'++bs:=by
 unfold IH at h;split at h
 .rename_i vs b bs j;simp only[Bool.true_or]at h;split at h
  .rename_i S' i;injection h with h
   injection h with d g
   exact⟨vs,b,bs,S',j,i,d.symm,g.symm⟩
  .cases h
 .cases h
theorem Nv {ops:List (AOper×List Nat)}: ∀{r:List LItem} {it:LItem} {t:Nat},it∈r->bB it.kind 2=Za->(cw ops it.i).dst=O t->t∈Jd ops r
 |a::r,it,t,h,b,d=>by
  simp only[Jd];rcases List.mem_cons.1 h with rfl|h
  .rw[b,zC,d];exact aD
  .have:=Nv h b d;cases bB a.kind 2 with
   |false=>exact this
   |true=>exact List.mem_append.2 (.inr this)
theorem cg {α γ:Type}(f:α->Option (α⊕γ))(n:Nat)(a:α):am f (n+1) a=(f a).bind λs=>bc s (am f n) O:=rfl
theorem M4 {f:(AExit->cm->Hp->Prop)->cm->Hp->Prop}(d: ∀(Q Q':AExit->cm->Hp->Prop),(∀x e Z,Q x e Z->Q' x e Z)->∀e Z,f Q e Z->f Q' e Z){Q:AExit->cm->Hp->Prop}:
  ∀(n m:Nat) (e:cm) (Z:Hp),n<=m->nZ f Q n e Z->nZ f Q m e Z
 |0,_,_,_,_,h=>h.elim
 |n+1,0,_,_,a,_=>absurd a (Nat.not_succ_le_zero _)
 |n+1,m+1,e,Z,a,h=>by
  simp only[nZ]at h⊢;refine d _ _ (λx g Z' b=> ?_) e Z h;cases x with
  |normal=>exact M4 d n m g Z' (Nat.le_of_succ_le_succ a) b
  |exit id=>exact b
  |ret=>exact b
theorem Lt {b:AC}(g: ∀(at':AT) {β:Type} {y:β} {c:Ctx} {e:dk} {ea:cm} {k:AExit->dk->ak->Option β},Rel c->ba c e ea->eval tab b at' β e c.S k=O y->Bv (jf tab) b (wZ c k y) ea c.Z):
  ∀(at':AT) {β:Type} {y:β} {c:Ctx} {e:dk} {ea:cm} {k:AExit->dk->ak->Option β},Rel c->ba c e ea->PQ (eval tab b) at' β e c.S k=O y->nZ (Bv (jf tab) b) (wZ c k y) at'.rounds ea c.Z
 | .n l r,β,y,c,e,ea,k,a,d,h=>by
  simp only[PQ]at h;have w:=g l a d h;simp only[AT.rounds,nZ];refine i8 (cb tab) b _ _ (λx ea' Z' B=> ?_) ea c.Z w;obtain⟨s,c',z,j,o,p,q⟩:=B;subst z;cases x with
  |normal=>exact IW (i8 (cb tab) b) (λx t Z'' A=>wB.of j A) _ _ _ (Lt g r o p q)
  |exit i=>exact⟨s,c',rfl,j,o,p,q⟩
  |ret=>exact⟨s,c',rfl,j,o,p,q⟩
 | .sz m l r,β,y,c,e,ea,k,a,d,h=>by
  simp only[PQ]at h;simp only[AT.rounds];cases u:bB m c.S.length with
  |true=>
   rw[u]at h;exact M4 (i8 (cb tab) b) _ _ _ _ (Nat.le_add_right _ _) (Lt g l a d h)
  |false=>
   rw[u]at h;exact M4 (i8 (cb tab) b) _ _ _ _ (Nat.le_add_left _ _) (Lt g r a d h)
 | .no,_,_,_,_,_,_,_,_,h=>by cases h
 | .lp _ _ _ _,_,_,_,_,_,_,_,_,h=>by cases h
 | .jn _ _ _ _ _,_,_,_,_,_,_,_,_,h=>by cases h
 | .dr _,_,_,_,_,_,_,_,_,h=>by cases h
theorem vU : ∀(ac:AC) (at':AT) {β:Type} {y:β} {c:Ctx} {e:dk} {ea:cm} {k:AExit->dk->ak->Option β},Rel c->ba c e ea->eval tab ac at' β e c.S k=O y->Bv (jf tab) ac (wZ c k y) ea c.Z
 | .skip,_,_,_,c,e,ea,k,g,d,h=>⟨e,c,rfl,Le.refl c,g,d,h⟩
 | .exit i,_,_,_,c,e,ea,k,g,d,h=>⟨e,c,rfl,Le.refl c,g,d,h⟩
 | .ret,_,_,_,c,e,ea,k,g,d,h=>⟨e,c,rfl,Le.refl c,g,d,h⟩
 | .region ops,_,_,_,c,e,ea,k,g,d,h=>Pz g d h
 | .sched its,_,_,_,c,e,ea,k,g,d,h=>Kk g d .nil h
 | .draw ops,at',_,y,c,e,ea,k,g,d,h=>by
  simp only[eval]at h;split at h
  .rename_i L _;obtain⟨P,h⟩:=aw h;rw[aB]at P;refine TT g ops.length (pd:=λ_=>0) P.1 ⟨Le.refl c,g,I3 d (wA.refl _ ea), .nil,rfl,rfl,λb=>⟨.inl,λh=> ?_⟩,List.nodup_nil,(λ_ _ h=>by cases h),(λ_ h=>by cases h),(λ_ h=>by cases h),λit hit V t Q=> ?_,P.2⟩ h
   .rcases h with h|⟨_,h,_⟩
    .exact h
    .cases h
   .rcases @Ml (Jd ops (Gr ops L L [])) e t with h1|⟨h1,_⟩
    .exact h1
    .exact(h1 (Nv hit V Q)).elim
  .cases h
 | .seq a b,at',β,y,c,e,ea,k,g,d,h=>by
  have M: ∀l r,(eval tab a l β e c.S λx B S'=>match x with
    | .normal=>eval tab b r β B S' k
    |x=>k x B S')=O y->Bv (jf tab) (.seq a b) (wZ c k y) ea c.Z:=by
   intro l r h1;refine i8 (cb tab) a _ _ (λx ea' Z' hx=> ?_) ea c.Z (vU a l g d h1);obtain⟨B,c',h2,A,F,H,w⟩:=hx;subst h2;cases x with
   |normal=>exact i8 (cb tab) b _ _ (λx ea'' Z'' hp=>wB.of A hp) _ _ (vU b r F H w)
   |exit i=>exact⟨B,c',rfl,A,F,H,w⟩
   |ret=>exact⟨B,c',rfl,A,F,H,w⟩
  simp only[eval]at h;split at h
  .rename_i fx D C l r _;obtain⟨P,h⟩:=aw h;rw[aB]at P;obtain⟨s,h1,h2⟩:=ah h;have X:yA c.S (nE (fx++D) [] Za 0 c.S):=Xq;have hR1:Rel ⟨c.μ,nE (fx++D) [] Za 0 c.S,c.Z,c.fb⟩:=X.rel g
   have hw:Within c ⟨c.μ,nE (fx++D) [] Za 0 c.S,c.Z,c.fb⟩ fx D:=by
    refine⟨X.le,λq hq hn W=> ?_,λ_ _ _ _ _ _ _ _ hy=>hy⟩;show ae (nE (fx++D) [] Za 0 c.S) q=_;rw[qc hq];simp only[qj,zD,bD];rcases W with W|hz
    .rw[nG (by simp[hn,W])];rfl
    .cases qj q (fx++D)with
     |true=>exact(E9 hz).symm
     |false=>rfl
   have A:=AM (cb tab) (as:=oF a) (e0:=ea) a P.2 (λt Q=>Q) (wA.refl _ ea) (vU a l (c:=⟨c.μ,nE (fx++D) [] Za 0 c.S,c.Z,c.fb⟩) hR1 (d.frame X.le) h1);refine i8 (cb tab) a _ _ (λx ea' Z' hx=> ?_) ea c.Z A;obtain⟨V,B,c',F,H,w,h7,h8⟩:=hx;subst F;have N:=Ud g d w hw hR1 H P.1 V h7 h8 h2;cases x with
   |normal=>
    obtain⟨E,c2,g1,g2,g3,g4,g5⟩:=N;rw[<-g1];exact i8 (cb tab) b _ _ (λx ea'' Z'' hp=>wB.of g2 hp) _ _ (vU b r g3 g4 g5)
   |exit i=>exact N
   |ret=>exact N
  .exact M _ _ h
  .exact M _ _ h
 | .cond t a b,at',β,y,c,e,ea,k,g,d,h=>by
  simp only[eval]at h;split at h
  .rename_i p hp;have Q:=cd d t;rw[hp]at Q;have Q:=Q.bool_inv
   have U: ∀(e1 E:dk) (l r:AT),ba c e1 ea∨p=Zb->ba c E ea∨p=Za->cond p (eval tab a l β e1 c.S k) (eval tab b r β E c.S k)=O y->Bv (jf tab) (.cond t a b) (wZ c k y) ea c.Z:=by
    intro e1 E l r h1 h2 A;simp only[Bv,Q];cases p with
    |true=>
     rcases h1 with h1|h1
     .exact vU a l g h1 A
     .cases h1
    |false=>
     rcases h2 with h2|h2
     .exact vU b r g h2 A
     .cases h2
   have pb: ∀(i:Nat),t= .tmp i->(ba c (uz e i (.bool Za)) ea∨p=Zb)/\(ba c (uz e i (.bool Zb)) ea∨p=Za):=by
    intro i hi;subst hi;have:=Wm d hp;cases p with
    |true=>exact⟨.inl this, .inr rfl⟩
    |false=>exact⟨.inr rfl, .inl this⟩
   split at h
   .exact U _ _ _ _ (pb _ rfl).1 (pb _ rfl).2 h
   .exact U _ _ _ _ (pb _ rfl).1 (pb _ rfl).2 h
   .exact U _ _ _ _ (.inl d) (.inl d) h
   .exact U _ _ _ _ (.inl d) (.inl d) h
  .cases h
 | .block id b,at',β,y,c,e,ea,k,g,d,h=>by
  simp only[eval]at h;refine i8 (cb tab) b _ _ (λx ea' Z' hx=> ?_) ea c.Z (vU b _ g d h);obtain⟨B,c',h2,A,F,H,w⟩:=hx;cases x with
  |normal=>exact⟨B,c',h2,A,F,H,w⟩
  |ret=>exact⟨B,c',h2,A,F,H,w⟩
  |exit i=>
   simp only at w⊢;cases hi:bB i id with
   |true=>
    rw[hi]at w;rw[zE (dB hi)];exact⟨B,c',h2,A,F,H,w⟩
   |false=>
    rw[hi]at w;rw[zF (λe=>by rw[e,Nat.beq_refl]at hi;cases hi)];exact⟨B,c',h2,A,F,H,w⟩
 | .loop b,at',β,y,c,e,ea,k,g,d,h=>by
  simp only[eval]at h;split at h
  .rename_i fx head C l _;obtain⟨P,h⟩:=aw h;rw[aB,aB]at P;obtain⟨⟨g1,g2⟩,g3⟩:=P;split at h
   .rename_i st hd;obtain⟨t0,h1,h⟩:=ah h;obtain⟨s,h2,A⟩:=ah h
    have round: ∀(n:Nat) (t:HE head.sk.shs) (I:cm) (Z1:Hp),bx6 c e ea fx (sB st.m) (oF b) head.ts head.sk t I Z1->am (λt=>match IH e c.S fx (sB st.m) (oF b) Za head.ts head.sk t with
      |some (e1,S1)=>eval tab b l (HE head.sk.shs⊕zf C) e1 S1 λx B S'=>(match x with
       | .normal=>(YZ S' c.S.length fx head.sk (head.ts.map (qe B))).bind λt=>O (.inl t)
       |x=>(A3 S' c.S.length fx (λts=>ts.map (qe B)) (λy=>y.is x) C).bind λs=>O (.inr s))
      |none=>Y) n t=O s->nZ (Bv (jf tab) b) (wZ c k y) n I Z1:=by
     intro n;induction n with
     |zero=>intro t I Z1 _ hl;cases hl
     |succ n ih=>
      intro t I Z1 hH hl;rw[cg]at hl;obtain⟨z,hl1,o⟩:=ah hl;obtain⟨c1,e1,q1,q2,q3,q4,q5,q6⟩:=hH;subst q1;rw[q2]at hl1;simp only at hl1;have F:=AM (cb tab) (as:=oF b) (e0:=ea) b g3 (λt Q=>Q) q6 (vU b l q3 q4 hl1);simp only[nZ];refine i8 (cb tab) b _ _ (λx ea' Z' hx=> ?_) I c1.Z F;obtain⟨V,B,c',H,w,h7,h8,N⟩:=hx;subst H;cases x with
      |normal=>
       simp only at N⊢;obtain⟨t',J,u⟩:=ah N;injection u with u
       subst u;simp only[bc]at o;refine ih t' ea' c'.Z ?_ o;obtain⟨hro,st',h12,h13⟩:=ar5 J
       have j: ∃E S2,IH e c.S fx (sB st.m) (oF b) Za head.ts head.sk t'=O (E,S2):=by
        cases n with
        |zero=>cases o
        |succ n=>
         rw[cg]at o;obtain⟨z',K,_⟩:=ah o;cases hz:IH e c.S fx (sB st.m) (oF b) Za head.ts head.sk t' with
         |none=>rw[hz]at K;cases K
         |some q=>exact⟨q.1,q.2,rfl⟩
       obtain⟨E,S2,j⟩:=j;obtain⟨vs,fs,bs,S3,r1,r2,r3,r4⟩:=Qw j;rw[h13]at r1;obtain⟨ct,u1,u2,u3,u4,u5,u6,u7,u8⟩:=aU5 g h7 q5 q3 w g2 hro h12 r1 (Oq h8 _) r2;refine⟨ct,E,u1,by rw[j,r4,u2],u6, ?_,SC u5 r2 u2 λq hq hn W T b' y' hb hy=> ?_,V⟩
       .rw[r3];exact LF (I3 (d.frame u5) V) u7
       .refine(u8 q hq hn ?_).2 b' y' hb hy;obtain⟨v1,v2,v3,_⟩:=nM r2;rw[qd]at v2;rw[u2,qS (by rw[v2];exact hq),v3 q hn,qc hq,bD,nG hn];rcases W with W|hz
        .rw[nG W,zD,zD,zC,gp];exact T
        .rw[hz];cases qj q (sB st.m)with
         |true=>exact T
         |false=>rw[zD,zD,zC,gp];exact T
      |exit i=>
       simp only at N⊢;obtain⟨s',J,u⟩:=ah N;injection u with u
       subst u;simp only[bc]at o;injection o with o
       subst o;exact Ud g d h7 q5 q3 w g2 V h8 J A
      |ret=>
       simp only at N⊢;obtain⟨s',J,u⟩:=ah N;injection u with u
       subst u;simp only[bc]at o;injection o with o
       subst o;exact Ud g d h7 q5 q3 w g2 V h8 J A
    refine⟨cj,round cj t0 ea c.Z ?_ h2⟩
    have j: ∃E S2,IH e c.S fx (sB st.m) (oF b) Za head.ts head.sk t0=O (E,S2):=by
     have hb:cj=(cj-1)+1:=rfl;rw[hb,cg]at h2;obtain⟨z',K,_⟩:=ah h2;cases hz:IH e c.S fx (sB st.m) (oF b) Za head.ts head.sk t0 with
     |none=>rw[hz]at K;cases K
     |some q=>exact⟨q.1,q.2,rfl⟩
    obtain⟨E,S2,j⟩:=j;obtain⟨vs,fs,bs,S3,r1,r2,r3,r4⟩:=Qw j;rw[Jn h1]at r1;obtain⟨ct,u1,u2,u3,u4,u5,u6,u7⟩:=ag3 g g2 g1 hd r1 (Oq d _) r2;refine⟨ct,E,u1,by rw[j,r4,u2],u6, ?_,SC u5 r2 u2 λq hq hn W T b' y' hb hy=>by rw[u1];exact hy,wA.refl _ _⟩;rw[r3];exact LF (I3 (d.frame u5) (wA.refl _ _)) u7
   .cases h
  .exact⟨_,Lt (λat'' {β y c e ea k} g d h=>vU b at'' g d h) at' g d h⟩
end
end
section
open Nat renaming le_of_ble_eq_true -> aB, zero_add -> aD
theorem Ot {c:Ctx}{e:dk}{ea:cm}(A:Rel c)(s:ba c e ea): ∀{I:List ARes} {vs:List VV},LI e c.S I=O vs->∃w,MP ea c.Z I=O w/\F2 (VRel c) vs w
 |[],vs,h=>by injection h with h;subst h;exact⟨[],rfl, .nil⟩
 |r::I,vs,h=>by
  simp only[LI]at h;obtain⟨v,d,h⟩:=ah h;obtain⟨Q,L,h⟩:=ah h;injection h with h
  subst h;obtain⟨w,M,N⟩:=Ot A s L
  have H: ∃u,Qh ea c.Z r=O u/\VRel c v u:=by
   cases r with
   |tmp t=>
    simp only[aM6]at d;injection d with d
    subst d;exact⟨_,rfl,s t⟩
   |cell t=>
    simp only[aM6]at d;split at d
    .rename_i b o F;split at d
     .rename_i x z l k;have p:=s t;rw[F]at p;cases p with
      |ptr P _ D=>
       have g:(ae c.S b).dim=O (x,l.length):=by rw[k];rfl
       obtain⟨K,E,B⟩:=D _ g;have m:=A.stands g E;rw[k]at m;obtain⟨y,a,j,i,q⟩:=m.get d;refine⟨a, ?_,q⟩;rw[aD]at i;simp only[Qh,B,j,zG,i]
     .cases d
    .cases d
   |cellN t n=>
    simp only[aM6]at d;split at d
    .rename_i b o F;split at d
     .rename_i x z l k;cases C:Nat.ble (o+n) l.length with
      |false=>rw[C]at d;cases d
      |true=>
       rw[C]at d;injection d with d
       subst d;have p:=s t;rw[F]at p;cases p with
       |ptr P _ D=>
        have g:(ae c.S b).dim=O (x,l.length):=by rw[k];rfl
        obtain⟨K,E,B⟩:=D _ g;have m:=A.stands g E;rw[k]at m;obtain⟨y,J,j,i,q⟩:=m.read (aB C);rw[aD]at i;refine⟨.agg J.toArray, ?_, .agg (by simp only[Blk.vals]at q;simpa using q)⟩;simp only[Qh,B,j,zG,i,Option.map_some]
     .cases d
    .cases d
  obtain⟨u,j,i⟩:=H;exact⟨u::w,by simp only[MP,j,M], .cons i N⟩
theorem UR {d:List Value}(h:F2 (VRel c) vs d):VRel c (WY vs) (D2 d):=by
 cases h with
 |nil=>exact .tup .nil
 |cons b a=>
  cases a with
  |nil=>exact b
  |cons a g=>exact .tup (by simpa using F2.cons b (F2.cons a g))
theorem O7 {as:List Value}(h:F2 (VRel c) vs as):ba c vs (cm.of as):=by
 intro t
 have g: ∀(l:List VV) (i:Nat),qe l i=(l[i]?).getD .undef:=by
  intro l;induction l with
  |nil=>intro i;simp[qe]
  |cons a l k=>intro i;cases i with
   |zero=>simp[qe]
   |succ i=>simp[qe,k]
 rw[g];unfold cm.of;cases j:vs[t]? with
 |none=>exact .undef _
 |some v=>
  obtain⟨a,b,d⟩:=h.get t v j;rw[b];exact d
theorem Pc : ∀{n q:Nat},q<n->q∈Pb n
 |n+1,q,h=>by
  by_cases e:q=n
  .subst e;exact List.mem_cons_self
  .exact List.mem_cons_of_mem _ (Pc (by omega))
theorem az7 {P:Program}{tab:Tab}{r:HE (zd.shs ⟨vals,[],objs⟩)->Option (zf outs)}(ht:gr P tab.fs)(hi:aa P tab.is)
  (he: ∀t o,r t=O o->Mr P f tab vals objs outs at' t=O o):dq P ⟨f,vals,objs,outs,r⟩:=by
 intro B μ Z w h l K hs Q ha;obtain⟨c,vals',H,t,o,p,v,fs,bs,S',h1,hR,hf,a,hl,j,E,F,hp,d,hS,hK⟩:=hs;subst h1;have b:=he t o F;unfold Mr at b;split at b
 .rename_i s vs fs0 S0 W z;obtain⟨hg,b⟩:=aw b;refine as6 W (cb tab) (IL ht hi) B μ c.Z w h l K ?_ Q ha;have V:WU (zd.shs ⟨vals,[],objs⟩) t=H.ls:=Jn hl;rw[V]at z;obtain⟨N,A⟩:=enter hR rfl a z hf;have C:h.length<=s.ntmps:=by rw[<-A.length];exact aB hg
  refine⟨C, ?_⟩;obtain⟨l1,l2⟩:=N.len;have n:=vU s.body at' (c:=pN c H S0) N.rel (O7 A) b;refine i8 (cb tab) s.body _ _ (λx ea Z' hx=> ?_) _ _ n;obtain⟨e',c',h2,h3,h4,h5,L⟩:=hx;subst h2
  have u:(match LI e' c'.S s.results with
    |some rs=>A3 c'.S S0.length (yp objs 0) (λ_=>[WY rs]) (λ_=>Za) outs
    |none=>Y)=O o->(match MP ea c'.Z s.results with
    |some vs=>K (D2 vs) c'.Z
    |none=>False):=by
   intro M;split at M
   .rename_i rs U;obtain⟨us,h8,h9⟩:=Ot h4 h5 U;rw[h8];simp only;obtain⟨p',I,_,q3⟩:=I6 M;simp only at hp;rw[hp]at I;injection I with I
    subst I;obtain⟨T,st',q4,q5⟩:=Mo q3;obtain⟨J,_⟩:=tS a;have D:=tQ J;rw[List.nil_append]at D;simp only at d hS j E;rw[q5]at d
    have q: ∀(i:Nat) (o:OSk) (x:Src),objs[i]?=O o->o.ro=Za->H.m[i]?=O (O x)->x.k∈H.lent:=by
     intro i o x g1 g2 g3;unfold qO at a;obtain⟨st1,d1,a⟩:=ah a;obtain⟨st2,d2,a⟩:=ah a;obtain⟨g,d3,a⟩:=ah a
     have:g=H:=by
      cases hb:(JX ([]++sB g.m)&&Gm ([]++nN (FSum.ins ⟨f,vals,objs,outs,r⟩).free g.m) g.lent)with
      |false=>rw[hb]at a;cases a
      |true=>rw[hb]at a;injection a
     subst this;exact UE d3 i o x g1 g2 (by rw[aD];exact g3)
    obtain⟨ct,r1,r2,r3,r4,X,r6⟩:=Qi hR rfl N h3 h4 j E D q T (by rw[<-l1];exact q4) d (.cons (UR h9) .nil) hS;cases X with
    |cons X _=>exact hK _ _ ⟨ct,r1,r2,r3,r4,X,r6⟩
   .cases M
  cases x with
  |exit i=>cases L
  |normal=>exact u L
  |ret=>exact u L
 .cases b
theorem Sn {P:Program}{a:List Inl}{b:HE (zd.shs ⟨vals,[],objs⟩)->Option (zf outs)}(i:gr P tab)(g:aa P a)
  (d: ∀t,Mr P f ⟨tab,a⟩ vals objs outs at' t=b t):dq P ⟨f,vals,objs,outs,b⟩:=az7 (tab:=⟨tab,a⟩) i g λt o h=>(d t).trans h
theorem az6 {P:Program}{a:HE (zd.shs ⟨vals,[],objs⟩)->Option (zf outs)}(d:gr P tab)
  (b: ∀t,Mr P f ⟨tab,[]⟩ vals objs outs at' t=a t):dq P ⟨f,vals,objs,outs,a⟩:=Sn d (aa.nil P) b
theorem aq {P:Program}{b:List Inl}(W:gr P tab)(Q:aa P b):Xl P ⟨f,bl P f ⟨tab,b⟩ at'⟩:=by
 intro B μ Z w d g K V p M;obtain⟨β,y,c,vals,k,C,L,z,a,J⟩:=V;subst C;simp only[bl]at a;split at a
 .rename_i j s;obtain⟨N,a⟩:=aw a;refine as6 s (cb ⟨tab,b⟩) (IL (tab:=⟨tab,b⟩) W Q) B μ c.Z w d g K ?_ p M;have m:d.length<=j.ntmps:=by rw[<-z.length];exact aB N
  refine⟨m, ?_⟩;have h:=vU j.body at' (c:=c) L (O7 z) a;refine i8 (cb ⟨tab,b⟩) j.body _ _ (λx ea Z' X=> ?_) _ _ h;obtain⟨A,c',D,E,u,F,n⟩:=X;subst D
  have l:(match LI A c'.S j.results with
    |some t=>k (WY t) c'.S
    |none=>Y)=O y->(match MP ea c'.Z j.results with
    |some vs=>K (D2 vs) c'.Z
    |none=>False):=by
   intro o;split at o
   .rename_i t r;obtain⟨us,H,I⟩:=Ot u F r;rw[H];exact J _ _ ⟨WY t,c',rfl,E,u,λq U T=>(T (Pc U)).elim,UR I,o⟩
   .cases o
  cases x with
  |exit i=>cases n
  |normal=>exact l n
  |ret=>exact l n
 .cases a
def Kn :List Alt:=[⟨.ret,[],⟨[.leaf .bool],[],[]⟩⟩]
def A6 (Z:Hp):Ctx:=⟨λ_=>Y,[],Z,λ_=>False⟩
theorem XV (h:Z.Ok):Rel (A6 Z):=
 ⟨h,λk j b i _ _ _=>(by cases i),λk d a=>(by cases a),λk b a=>(a rfl).elim,λb g=>g.elim⟩
theorem PN (b:Nat): ¬(A6 Z).mut b:=by
 rintro(⟨k,h,_⟩|h)
 .cases h
 .exact h
theorem au1 {P:Program}{l:HE (zd.shs ⟨vals,[],[]⟩)->Option (zf Kn)}(h:dq P ⟨f,vals,[],Kn,l⟩){w:World}(u:ae2 P w){rows:List Row}{d:List Value}{cargs:Array Value}{st:DSt}{t:HE (zd.shs ⟨vals,[],[]⟩)}
  (k: ∀r∈rows,∀(i:Nat) (v:Value),r.cells[i]?=O v->∃v',w.cell? ⟨r.c,r.o+i,Y⟩=O v'/\VR (sj rows) v v') (j:F2 (VR (sj rows)) d cargs.toList)
  (A:F2 (VRel (A6 (uX w.heap.size rows))) vs d) (a:qO [] 0 [] ⟨vals,[],[]⟩ vs=O st) (x:UZ _ st.ls=O t) (z:l t=O Za):
  Calls P f cargs w λe w'=>e= .returned (.bool Za)/\Go.RowKit.Below w.heap.size w w':=by
 have q:st.m=[]:=by
  unfold qO at a;obtain⟨B,D,a⟩:=ah a;obtain⟨s,E,a⟩:=ah a;obtain⟨b,g,a⟩:=ah a
  have:b=st:=by
   cases n:(JX ([]++sB b.m)&&Gm ([]++nN ([]:List OSk) b.m) b.lent)with
   |false=>rw[n]at a;cases a
   |true=>rw[n]at a;injection a
  subst this;simp only[ym]at g;cases n:Nat.beq 0 s.m.length with
  |false=>rw[n]at g;cases g
  |true=>
   rw[n]at g;injection g with g
   subst g;exact List.length_eq_zero_iff.1 (Nat.eq_of_beq_eq_true n).symm
 refine bb4 (S:=(FSum.mk f vals [] Kn l).spec) h u k j ?_;refine⟨A6 (uX w.heap.size rows),vs,st,t,Za,⟨⟨.ret,[],⟨[.leaf .bool],[],[]⟩⟩,Za⟩, .bool Za,[],[],cond (G1 [.bool Za] [] []) (G3 st.lent []) [],rfl,XV aM8,A,a,x,by rw[q];rfl,by rw[q];rfl,z,rfl,rfl,by rw[q];rfl, ?_⟩;rintro r Z' ⟨C,_,_,_,_,p,_⟩;exact p.bool_inv
end
section
open List renaming getElem?_eq_getElem -> aB
theorem ai0 {α γ:Type}{f:α->Option (α⊕γ)}(I:α->Prop)(m:α->Nat)(Q:γ->Prop)(h: ∀a,I a->(∃b,f a=O (.inl b)/\I b/\m b<m a)∨∃c,f a=O (.inr c)/\Q c): ∀(n:Nat) (a:α),I a->m a<n->∃c,am f n a=O c/\Q c:=by
 intro n;induction n with
 |zero=>intro a _ d;omega
 |succ n l=>
  intro a k p;rcases h a k with⟨b,d,g,o⟩|⟨c,d,g⟩
  .obtain⟨c,i,j⟩:=l b g (by omega);exact⟨c,by rw[cg,d];exact i,j⟩
  .exact⟨c,by rw[cg,d];rfl,g⟩
theorem qR {α γ:Type}{f:α->Option (α⊕γ)}{a:α}(I:α->Prop)(m:α->Nat)(Q:γ->Prop)(d:I a)(g:m a<18446744073709551616)(h: ∀a,I a->(∃b,f a=O (.inl b)/\I b/\m b<m a)∨∃c,f a=O (.inr c)/\Q c): ∃c,am f cj a=O c/\Q c:=
 ai0 I m Q h cj a d g
theorem Oo {α γ:Type}{f:α->Option (α⊕γ)}{a:α}{c:γ}(I:α->Prop)(m:α->Nat)(d:I a)(k:m a<18446744073709551616)(h: ∀a,I a->(∃b,f a=O (.inl b)/\I b/\m b<m a)∨f a=O (.inr c)):am f cj a=O c:=by
 obtain⟨c',g,i⟩:=qR I m (· =c) d k λa j=>by
  rcases h a j with h|h
  .exact .inl h
  .exact .inr ⟨c,h,rfl⟩
 rw[g,i]
theorem ag {α:Type}{p:Prop}[Decidable p]{x y:α}:cond (decide p) x y=if p then x else y:=by by_cases h:p<;>simp[h]
theorem bw {β:Type}{x:Option β}:gd Za x=x:=rfl
theorem ba6 {β:Type}{p:Prop}[Decidable p]{x:Option β}(h:p):gd (decide p) x=x:=by rw[zB h];rfl
theorem ca {β:Type}{n b:Nat}{x:Option β}(h:n*b<=140737488355328)(a:1<=b):gd (ip n b) x=x:=by
 have:ip n b=Za:=by
  unfold ip;rw[zB h,Bool.true_and];exact Nat.ble_eq_true_of_le a
 rw[this];rfl
theorem bh {α:Type}{l:List α}{i:Nat}(h:i<l.length):rd l (i:Int)=O l[i]:=by
 unfold rd;rw[Zf,zC,Int.toNat_natCast,aB h]
theorem Uw {α:Type}{l:List α}{i:Int}(a:0<=i)(h:i<l.length):rd l i=O (l[i.toNat]'(by omega)):=by
 unfold rd;rw[zB a,zC,aB (by omega)]
theorem ad {n:Int}(h: -9223372036854775808<=n/\n<=9223372036854775807):IntKind.i64.wrap n=n:=IntWalk.i64_in _ h
theorem Zi {n:Int}(h: -9223372036854775808<=n/\n<=9223372036854775807:=by omega):IntKind.i64.wrap n=n:=ad h
theorem ej {α γ β:Type}{a:α}{f:α->Option β}{g:γ->Option β}:bc (.inl a) f g=f a:=rfl
theorem bg {α γ β:Type}{a:γ}{f:α->Option β}{g:γ->Option β}:bc (.inr a) f g=g a:=rfl
end
end Go.V
