/- A part of the proof. No condition. -/
import Derived.Test.YtlmlogmcgeijcaaGreatDoorA8
set_option linter.unusedVariables false
set_option linter.unusedSimpArgs false
set_option linter.unusedSectionVars false
namespace Go.V
open Go.Ab
open Option renaming some->O,none->Y
open Bool renaming true->Za,false->Zb
open Decidable renaming decide->Zc
variable {c c' c0:Ctx}{ea:cf}{e:cm}{op:AOp}{v:Value}{chk:Fi}{x:Ab.Blk}{it:LItem}{Z Z1:Hp}
section
open Bool renaming and_eq_true -> aD, or_eq_true -> cD, false_or -> cM, not_true -> cN
open List renaming mem_cons_of_mem -> bD, mem_cons_self -> cK, mem_cons -> cO, map_congr_left -> cS
open Nat renaming beq -> aB, eq_of_beq_eq_true -> bB, lt_of_lt_of_le -> cB, beq_refl -> cL, le_of_ble_eq_true -> cP, le_refl -> cQ, le_trans -> cR
def pc {β:Type}(c:Ctx)(k:cm->ai->Option β)(y:β):cf->Hp->Prop:=λea Z'=> ∃a c',c'.Z=Z'/\Le c c'/\dv c'/\au c' a ea/\k a c'.S=O y
theorem pc.of {β:Type}{c1:Ctx}{k:cm->ai->Option β}{y:β}(h:Le c c1){Z':Hp}(g:pc c1 k y ea Z'):pc c k y ea Z':=by
 obtain⟨a,c',b,d,f⟩:=g;exact⟨a,c',b,h.trans d,f⟩
def qv {β:Type}(c:Ctx)(k:AExit->cm->ai->Option β)(y:β):AExit->cf->Hp->Prop:=λx=>pc c (k x) y
section
variable {β:Type} {tab:Tab} {y:β}
theorem K0 : ∀{ops:List AOper} {c:Ctx} {e:cm} {ea:cf} {k:cm->ai->Option β},dv c->au c e ea->DT tab ops e c.S k=O y->Ab.yF (fA tab) (pc c k y) ops ea c.Z
 |[],c,e,ea,k,q,m,h=>⟨e,c,rfl,Le.refl c,q,m,h⟩
 |o::r,c,e,ea,k,q,m,h=>by
  have b: ∀l,au c l ea->HV tab o.op l c.S (λv S'=>DT tab r (putO l o.dst v) S' k)=O y->bu (fA tab) o.op ea c.Z λv Z'=>Ab.yF (fA tab) (pc c k y) r (ea.putO o.dst v) Z':=by
   intro l g f;refine kC (br tab) (λv Z' I=> ?_) (te q g f);obtain⟨J,c',D,B,E,_,F,H⟩:=I;subst D;exact Ab.Cr (br tab) (λC Z'' n=>n.of B) _ _ _ (K0 E ((g.frame B).putO F) H)
  have skip: ∀l,au c l ea->DT tab r (putO l o.dst (.tup [])) c.S k=O y->Ab.yF (fA tab) (pc c k y) r (ea.putO o.dst undef) c.Z:=λl g f=>K0 q (g.putO (.tup .nil)) f
  simp only[DT]at h;simp only[Ab.yF];split at h
  .rename_i s;have:wanted o ea=Za:=by simp only[wanted,s]
   rw[zE this];exact b e m h
  .rename_i t w s;split at h
   .rename_i p n;have j:=m t;rw[n]at j;have j:=j.bool_inv;have A:wanted o ea=(p==w):=by simp only[wanted,s,j]
    have a:au c (pP e t (.bool p)) ea:=by
     have:=m.put (d:=t) (VRel.bool (c:=c) p);intro i;have f:=this i;unfold cf.put at f;by_cases z:i=t
     .rw[zE z]at f;subst z;rw[j];exact f
     .rw[zF z]at f;exact f
    rw[A];cases p<;>cases w<;>simp only[zC,zD]at h
    .rw[zE (by decide)];exact b _ a h
    .rw[zF (by decide)];exact skip _ a h
    .rw[zF (by decide)];exact skip _ a h
    .rw[zE (by decide)];exact b _ a h
   .rename_i n;have j:=m t;rw[n]at j
    have A:wanted o ea=Zb:=by
     simp only[wanted,s];generalize ea t=u at j;cases j;rfl
    rw[A,zF (by decide)];exact skip _ m h
   .cases h
def Xa :Value->Option Nat
 | .pointer (O a)=>O a.block
 | .slice (O a) _ _=>O a.block
 |_=>Y
def Da :AOp->Operand
 | .load x| .loadN _ x| .sliceArr _ _ x _ _| .slice _ x _ _=>x
 |_=> .global 0
theorem Lj {Z':Hp}(s:op.isLoad=Za)(h:op.run ea Z=O (v,Z1))(d: ∀b,Xa (ea.ev (Da op))=O b->Z'.m b=Z.m b):op.run ea Z'=O (v,Z'):=by
 cases op<;>try(cases s;done)
 case load x=>
  simp only[AOp.run,Da]at h d⊢;split at h
  .rename_i b o j;rw[j]at d;rw[d b rfl];split at h
   .rename_i g r;cases f:g.cells[o]? with
    |none=>rw[f]at h;cases h
    |some u=>
     rw[f]at h;injection h with h
     injection h with i p
     subst i;rfl
   .cases h
  .cases h
 case loadN n x=>
  simp only[AOp.run,Da]at h d⊢;split at h
  .rename_i b o j;rw[j]at d;rw[d b rfl];split at h
   .rename_i g r;cases f:pz g o n with
    |none=>rw[f]at h;cases h
    |some u=>
     rw[f]at h;injection h with h
     injection h with i p
     subst i;rfl
   .cases h
  .cases h
 case slice es x lo hi=>
  cases lo with
  |none=>cases s
  |some l=>
   simp only[AOp.run,Da]at h d⊢;split at h
   .rename_i a w k j;rw[j]at d
    have t:Au Z' es a (O l)=Au Z es a (O l):=by
     cases a with
     |none=>rfl
     |some a=>simp only[Au];rw[d a.block rfl]
    rw[t];cases f:(k==0||Au Z es a (O l))with
    |false=>rw[f]at h;simp at h
    |true=>
     rw[f,zE rfl]at h;rw[zE rfl];split at h
     .split at h
      .injection h with h
       injection h with i p
       subst i;rfl
      .cases h
     .cases h
   .cases h
 case sliceArr es n x lo hi=>
  simp only[AOp.run,Da]at h d⊢;split at h
  .rename_i b o j;rw[j]at d;rw[d b rfl];split at h
   .rename_i g r;split at h
    .rename_i f;rw[zE f];split at h
     .split at h
      .split at h
       .rename_i q;injection h with h
        injection h with i p
        subst i;rw[zE q]
       .cases h
      .cases h
     .cases h
    .cases h
   .cases h
  .cases h
theorem Yg {q:Option Addr}(d:op.isLoad=Za)(a:ea.ev (Da op)= .slice q 0 0)(h:op.run ea Z=O (v,Z1))(Z':Hp):op.run ea Z'=O (v,Z'):=by
 cases op<;>try(cases d;done)
 case load x=>
  simp only[Da]at a;simp only[AOp.run,a]at h;cases h
 case loadN n x=>
  simp only[Da]at a;simp only[AOp.run,a]at h;cases h
 case slice es x lo hi=>
  simp only[Da]at a;simp only[AOp.run,a,beq_self_eq_true,Bool.true_or,if_true]at h⊢;split at h
  .split at h
   .injection h with h
    injection h with b f
    subst b;rfl
   .cases h
  .cases h
 case sliceArr es n x lo hi=>
  simp only[Da]at a;simp only[AOp.run,a]at h;cases h
structure LeV (c c':Ctx):Prop where
 len:c.S.length<=c'.S.length
 al: ∀k d,k<c.S.length->(ae c'.S k).dim=O d->(ae c.S k).dim=O d/\c'.μ k=c.μ k
 ln: ∀k d b y,k<c.S.length->(ae c'.S k).dim=O d->c.μ k=O b->c.Z.m b=O y->∃y',c'.Z.m b=O y'/\y'.cells.length=y.cells.length
 rd: ∀b y,c.Z.m b=O y->¬c.mut b->c'.Z.m b=O y/\¬c'.mut b
theorem LeV.trans {a b:Ctx}(h:LeV a b)(k:LeV b c):LeV a c:=by
 refine⟨cR h.len k.len,λq d f j=> ?_,λq d x y f j o m=> ?_,λx y m u=> ?_⟩
 .obtain⟨g,i⟩:=k.al q d (cB f h.len) j;obtain⟨n,l⟩:=h.al q d f g;exact⟨n,i.trans l⟩
 .obtain⟨g,i⟩:=k.al q d (cB f h.len) j;obtain⟨n,l⟩:=h.al q d f g;obtain⟨w,p,r⟩:=h.ln q d x y f g o m;obtain⟨z,s,t⟩:=k.ln q d x w (cB f h.len) j (l.trans o) p;exact⟨z,s,t.trans r⟩
 .obtain⟨g,i⟩:=h.rd x y m u;exact k.rd x y g i
theorem Le.toV (h:Le c c'):LeV c c':=⟨h.len,h.al,h.ln,h.rd⟩
theorem LeV.refl (c:Ctx):LeV c c:=(Le.refl c).toV
theorem Ga.frameV (h:LeV c c'){k m n:Nat}{d:Nat×Nat}{a:Value}(l:k<c.S.length)(j:(ae c'.S k).dim=O d)(t:Ga c k m n d a):Ga c' k m n d a:=by
 obtain⟨A,i⟩:=h.al k d l j;rcases t with⟨rfl,rfl,rfl,f,w⟩|⟨b,o,y,rfl,f,p,q,u,r⟩
 .exact .inl ⟨rfl,rfl,rfl,i.trans f,w⟩
 .obtain⟨z,g,s⟩:=h.ln k d b y l j f u;exact .inr ⟨b,o,z,rfl,i.trans f,p,q,g,by rw[s];exact r⟩
theorem VRel.frameV {c c':Ctx}(h:LeV c c'): ∀{v:VV} {a:Value},VRel c v a->VRel c' v a
 |_,_, .undef a=> .undef a
 |_,_, .bool b=> .bool b
 |_,_, .int k n=> .int k n
 |_,_, .str z=> .str z
 |_,_, .nilp=> .nilp
 |_,_, .nils=> .nils
 |_,_, .nilf=> .nilf
 |_,_, .ptr i f p=> .ptr (cB i h.len) f λd g=>by
  obtain⟨f,j⟩:=h.al _ d i g;obtain⟨b,o,q⟩:=p d f;exact⟨b,j.trans o,q⟩
 |_,_, .it i f z p=> .it (cB i h.len) f z λd g=>by
  obtain⟨f,j⟩:=h.al _ d i g;obtain⟨b,o,q⟩:=p d f;exact⟨b,j.trans o,q⟩
 |_,_, .bld i f p=> .bld (cB i h.len) f λd g=>by
  obtain⟨f,j⟩:=h.al _ d i g;obtain⟨b,o,q⟩:=p d f;exact⟨b,j.trans o,q⟩
 |_,_, .pix i f A p=> .pix (cB i h.len) f A λd g=>by
  obtain⟨f,j⟩:=h.al _ d i g;obtain⟨b,o,q⟩:=p d f;exact⟨b,j.trans o,q⟩
 |_,_, .pel i f p=> .pel (cB i h.len) f λd g=>by
  obtain⟨f,j⟩:=h.al _ d i g;obtain⟨b,o,q⟩:=p d f;exact⟨b,j.trans o,q⟩
 |_,_, .pin r s B t=> .pin (h.rd _ _ s r).2 (h.rd _ _ s r).1 B (go t)
 |_,_, .lstn w=> .lstn w
 |_,_, .tgtn w=> .tgtn w
 |_,_, .tgt r s u o t=> .tgt (h.rd _ _ s r).2 (h.rd _ _ s r).1 u o (go t)
 |_,_, .lst r s u f j o t=> .lst (h.rd _ _ s r).2 (h.rd _ _ s r).1 u f j o (go t)
 |_,_, .full i f p=> .full (cB i h.len) f λd g=>by
  obtain⟨f,j⟩:=h.al _ d i g;obtain⟨n,o,q⟩:=p d f;exact⟨n,o,q.frameV h i g⟩
 |_,_, .part i f p=> .part (cB i h.len) f λd g=>by
  obtain⟨f,j⟩:=h.al _ d i g;exact(p d f).frameV h i g
 |_,_, .fn f j=> .fn (go f) (go j)
 |_,_, .agg f=> .agg (go f)
 |_,_, .tup f=> .tup (go f)
where
 go: ∀{l:List VV} {m:List Value},F2 (VRel c) l m->F2 (VRel c') l m
  |_,_, .nil=> .nil
  |_,_, .cons f j=> .cons (VRel.frameV h f) (go j)
theorem VRel.framesV (h:LeV c c'){l:List VV}{m:List Value}(a:F2 (VRel c) l m):F2 (VRel c') l m:=a.imp λ_ _ b=>b.frameV h
theorem au.frameV (h:au c e ea)(a:LeV c c'):au c' e ea:=λt=>(h t).frameV a
def PJ (c:Ctx)(p:Hp->Prop)(f:ai->Bool):Prop:= ∀c',LeV c c'->dv c'->f c'.S=Za->p c'.Z
theorem PJ.next {p:Hp->Prop}{f:ai->Bool}(h:PJ c p f)(d:LeV c c'):PJ c' p f:=λa b=>h a (d.trans b)
def FF (c:Ctx)(p:Hp->Prop):Option (Option Nat)->Prop
 |none=>True
 |some Y=>p c.Z/\∀Z',(∀b y,c.Z.m b=O y->¬c.mut b->Z'.m b=O y)->p Z'
 |some (O q)=>(ae c.S q).dim≠Y/\p c.Z/\∀Z',(∀b,c.μ q=O b->Z'.m b=c.Z.m b)->p Z'
inductive ChkRel (c:Ctx):List (Nat×(Hp->Prop))->Fi->Prop where
 |nil:ChkRel c [] []
 |cons {i:Nat} {p:Hp->Prop} {s:Option (Option Nat)} {f:ai->Bool} {l:List (Nat×(Hp->Prop))} {m:Fi}:FF c p s->PJ c p f->ChkRel c l m->ChkRel c ((i,p)::l) ((i,s,f)::m)
theorem FF.now {p:Hp->Prop}{s:Option Nat}(h:FF c p (O s)):p c.Z:=by
 cases s with
 |none=>exact h.1
 |some q=>exact h.2.1
theorem FF.next {p:Hp->Prop}{d:List Nat}(j:Le c c')(z:uR d c c'): ∀{s:Option (Option Nat)},FF c p s->FF c' p (match s with
  |some (O q)=>cond (kB q d) Y (O (O q))
  |s=>s)
 |none,_=>trivial
 |some Y,h=>by
  refine⟨h.2 _ λb y m l=>(j.rd b y m l).1,λZ' i=>h.2 Z' λb y m l=> ?_⟩;obtain⟨a,n⟩:=j.rd b y m l;exact i b y a n
 |some (O q),h=>by
  cases g:kB q d with
  |true=>
   show FF c' p (cond (kB q d) Y (O (O q)));rw[g];exact trivial
  |false=>
   show FF c' p (cond (kB q d) Y (O (O q)));rw[g];obtain⟨a,n,o⟩:=h;have A:q∉d:=λe=>by rw[jH.2 e]at g;cases g
   obtain⟨r,t⟩:=z q (me a) A a
   have k:c'.μ q=c.μ q:=by
    cases f:(ae c'.S q).dim with
    |none=>exact(r f).elim
    |some w=>exact(j.al q w (me a) f).2
   exact⟨r,o _ t,λZ' i=>o Z' λb u=>by rw[i b (by rw[k];exact u),t b u]⟩
theorem ChkRel.next {c c':Ctx}{d:List Nat}(g:Le c c')(h:uR d c c'): ∀{l:List (Nat×(Hp->Prop))} {m:Fi},ChkRel c l m->ChkRel c' l (JM d m)
 |_,_, .nil=> .nil
 |_,_, .cons (s:=s) i a j=>by
  have b:=i.next g h
  have f:=ChkRel.next g h j
  have a:=a.next g.toV
  cases s with
  |none=>exact .cons b a f
  |some s=>
   cases s with
   |none=>exact .cons b a f
   |some q=>exact .cons b a f
theorem yE : ∀m:Fi,JM [] m=m
 |[]=>rfl
 |(i,Y,_)::r=>by simp only[JM,yE r]
 |(i,O Y,_)::r=>by simp only[JM,yE r]
 |(i,O (O q),_)::r=>by simp only[JM,yE r,kB,zD]
theorem Ce {c:Ctx}{a:List Nat}(d:dv c): ∀{l:List (Nat×(Hp->Prop))} {m:Fi},ChkRel c l m->A8 c.S a m=Za->xh a c.Z l
 |_,_, .nil,_=>trivial
 |_,_, .cons (i:=i) (s:=s) (f:=f) k p g,h=>by
  simp only[A8]at h;simp only[xh]
  have n:a.contains i=kB i a:=by
   cases b:kB i a with
   |true=>simpa using jH.1 b
   |false=>
    cases o:a.contains i with
    |false=>rfl
    |true=>
     have:i∈a:=by simpa using o
     rw[jH.2 this]at b;cases b
  rw[n];cases b:kB i a with
  |false=>
   rw[b,zD]at h;rw[zF (by decide)];exact Ce d g h
  |true=>
   rw[b,zC]at h;rw[zE rfl];cases s with
   |none=>
    simp only at h;cases j:f c.S with
    |false=>rw[j]at h;cases h
    |true=>
     rw[j,zC]at h;exact⟨p c (LeV.refl c) d j,Ce d g h⟩
   |some s=>exact⟨k.now,Ce d g h⟩
theorem mJ {T:Ab.fM}{e:cf}(a:op.still=Za){k:Value->Hp->Prop}:(match op.run e Z with
  |some (v,Z')=>k v Z'
  |none=>False)=bu T op e Z k:=by
 cases op<;>first|(cases a;done)|rfl
theorem Sv {s t:ByteArray}(h:cw s=cw t):s=t:=by
 unfold cw at h;have d:=List.map_inj_right (λa b (h:((a.toNat:Nat):Int)=(b.toNat:Int))=>UInt8.toNat_inj.1 (Int.ofNat.inj h))|>.1 h
 obtain⟨⟨s⟩⟩:=s;obtain⟨⟨t⟩⟩:=t;simp only at d;rw[d]
theorem ah8 {x y:VV}{a b:Value}(d:VRel c x a)(f:VRel c' y b)(h:aA5 x y=Za):a=b:=by
 cases d<;>cases f<;>simp only[aA5,aD,decide_eq_true_eq,Bool.false_eq_true]at h
 case bool.bool=>rw[h]
 case int.int=>rw[h.1,h.2]
 case str.str h1 _ _ h2=>rw[Sv (h1.trans (h.trans h2.symm))]
 all_goals rfl
theorem Wz {tab:Tab}{i:VV}(m:au c e ea)(g:op.still=Za)(o:VRel c0 i v):PJ c (λZ'=>op.run ea Z'=O (v,Z')) (Pd tab op e i):=by
 intro c' n k h;unfold Pd at h;split at h
 .rename_i b l;subst h;have a:=te k (m.frameV n) l;rw[<-mJ g]at a;show op.run ea c'.Z=O (v,c'.Z);cases f:op.run ea c'.Z with
  |none=>rw[f]at a;exact a.elim
  |some q=>
   obtain⟨z,Z1⟩:=q;rw[f]at a;obtain⟨p,r,s,t,u,w,j,d⟩:=a;injection d with d
   rw[uy g f,ah8 o j d]
 .cases h
theorem HG (W:dv c)(Q:au c e ea)(B:op.isLoad=Za)(h:op.run ea c.Z=O (v,Z1)):FF c (λZ'=>op.run ea Z'=O (v,Z')) (Vp c.S op e):=by
 have w:=bv Q (Da op);have r:op.run ea c.Z=O (v,c.Z):=Lj B h λ_ _=>rfl
 have L:FF c (λZ'=>op.run ea Z'=O (v,Z')) (Xk c.S (ev e (Da op))):=by
  generalize ev e (Da op)=N at*
  have f: ∀q,vp N=O q->(∀b,Xa (ea.ev (Da op))=O b->(ae c.S q).dim≠Y->c.μ q=O b)->FF c (λZ'=>op.run ea Z'=O (v,Z')) (cond (ae c.S q).live (O (O q)) Y):=by
   intro q T a;cases H:(ae c.S q).live with
   |false=>trivial
   |true=>
    obtain⟨V,j⟩:=ti H;exact⟨by rw[j];simp,r,λZ' C=>Lj B h λb z=>C b (a b z (by rw[j];simp))⟩
  have k:(∀b,Xa (ea.ev (Da op))=O b->∃y,c.Z.m b=O y/\¬c.mut b)->FF c (λZ'=>op.run ea Z'=O (v,Z')) (O Y):=by
   intro a;refine⟨r,λZ' C=>Lj B h λb z=> ?_⟩;obtain⟨y,u,p⟩:=a b z;rw[C b y u p,u]
  cases N<;>simp only[Xk,vp]<;>try exact trivial
  case ptr q o=>
   refine f q rfl λb a j=> ?_
   cases w with
   |ptr D E t=>
    cases g:(ae c.S q).dim with
    |none=>exact(j g).elim
    |some d=>
     obtain⟨A,u,p⟩:=t d g;rw[p]at a;injection a with a
     subst a;exact u
  case it q l=>
   refine f q rfl λb a j=> ?_
   obtain⟨s,_,t⟩:=w.it_inv;cases g:(ae c.S q).dim with
   |none=>exact(j g).elim
   |some d=>
    obtain⟨A,u,p⟩:=t d g;rw[p]at a;cases a
  case bld q=>
   refine f q rfl λb a j=> ?_
   cases w with
   |bld _ _ t=>
   cases g:(ae c.S q).dim with
   |none=>exact(j g).elim
   |some d=>
    obtain⟨A,u,p⟩:=t d g;rw[p]at a;cases a
  case pix q o n i=>
   refine f q rfl λb a j=> ?_
   cases w with
   |pix D E hi t=>
    cases g:(ae c.S q).dim with
    |none=>exact(j g).elim
    |some d=>
     obtain⟨A,u,p⟩:=t d g;rw[p]at a;injection a with a
     subst a;exact u
  case pel q i o=>
   refine f q rfl λb a j=> ?_
   cases w with
   |pel D E t=>
    cases g:(ae c.S q).dim with
    |none=>exact(j g).elim
    |some d=>
     obtain⟨A,u,p⟩:=t d g;rw[p]at a;injection a with a
     subst a;exact u
  case full q=>
   refine f q rfl λb a j=> ?_
   cases w with
   |full D E t=>
    cases g:(ae c.S q).dim with
    |none=>exact(j g).elim
    |some d=>
     obtain⟨n,_,p⟩:=t d g;rcases p with⟨p,_⟩|⟨A,P,U,p,F,_⟩
     .rw[p]at a;cases a
     .rw[p]at a;injection a with a
      subst a;exact F
  case part q lo n=>
   refine f q rfl λb a j=> ?_
   cases w with
   |part D E t=>
    cases g:(ae c.S q).dim with
    |none=>exact(j g).elim
    |some d=>
     rcases t d g with⟨p,_⟩|⟨A,P,U,p,F,_⟩
     .rw[p]at a;cases a
     .rw[p]at a;injection a with a
      subst a;exact F
  case pin s x o=>
   refine k λb a=> ?_
   generalize ea.ev (Da op)=M at*;cases w with
   |pin I K B X=>
    injection a with a
    subst a;exact⟨_,K,I⟩
  case lst s l=>
   generalize J:ea.ev (Da op)=M at*;cases w with
   |lstn T=>
    refine⟨r,λZ' C=> ?_⟩;have:=Yg B J h;exact this Z'
   |lst I K _ _ _ _ _=>
    refine k λb a=> ?_
    injection a with a
    subst a;exact⟨_,K,I⟩
  case nils=>
   refine k λb a=> ?_
   generalize ea.ev (Da op)=M at*;cases w;cases a
 cases op<;>first|(cases B;done)|exact L
theorem VH {it:SItem}{ach:List (Nat×(Hp->Prop))}{k:Fi->cm->ai->Option β}(B:dv c)(m:au c e ea)(D:ChkRel c ach chk)(h:HU tab it chk e c.S k=O y){Q:List (Nat×(Hp->Prop))->cf->Hp->Prop}
  (A: ∀c' b d e' n,Le c c'->dv c'->ChkRel c' b d->au c' e' n->k d e' c'.S=O y->Q b n c'.Z):
  if it.mover then bu (fA tab) it.o.op ea c.Z (λv Z'=>xh it.chks Z' ach/\Q ach (ea.putO it.o.dst v) Z')
  else match it.o.op.run ea c.Z with
   |some (v,_)=>Q (if it.keep then(it.idx,λZ'=>it.o.op.run ea Z'=O (v,Z'))::ach else ach) (ea.putO it.o.dst v) c.Z
   |none=>False:=by
 unfold HU at h;cases K:it.mover with
 |true=>
  rw[K,zC]at h;rw[zE rfl];refine kC (br tab) (λv Z' N=> ?_) (te B m h);obtain⟨L,c',j,q,a,t,u,l⟩:=N;subst j;obtain⟨g,l⟩:=aw l;have r:=D.next q t
  exact⟨Ce a r g,A c' ach _ _ _ q a r ((m.frame q).putO u) l⟩
 |false=>
  rw[K,zD]at h;rw[zF (by decide)];obtain⟨g,M⟩:=aw h;rw[aD]at g;have j:=te B m M;rw[<-mJ g.1]at j;cases z:it.o.op.run ea c.Z with
  |none=>rw[z]at j;exact j
  |some p=>
   obtain⟨v,Z1⟩:=p;rw[z]at j;obtain⟨L,c',q,a,t,u,l,w⟩:=j;simp only
   have J:GI tab it.o.op e c.S=[]:=by
    have:=g.1;cases I:it.o.op<;>rw[I]at this<;>first|(cases this;done)|rfl
   have r:=D.next a u
   rw[J,yE]at r;have C:Z1=c.Z:=uy g.1 z;rw[<-C,<-q];cases E:it.keep with
   |false=>
    simp only[E,zD]at w;rw[zF (by decide)];exact A c' ach chk _ _ a t r ((m.frame a).putO l) w
   |true=>
    simp only[E,zC]at w;rw[zE rfl];have H:it.o.op.isLoad=Za:=by have:=g.2;rw[E]at this;simpa using this
    have F:=HG B m H z;have s:=(ChkRel.cons (i:=it.idx) (f:=Pd tab it.o.op e L) F (Wz m g.1 l) D).next a u
    rw[J,yE]at s;exact A c' _ _ _ _ a t s ((m.frame a).putO l) w
end
def oM (op:AOp)(ea:cf)(x:Ab.Blk)(a:Nat->Value):Prop:= ∀Z:Hp,op.run ea Z=O (a Z.n,Z.add x)
theorem oM.unique {i:Ab.Blk}{g a:Nat->Value}(h:oM op ea x g)(j:oM op ea i a):x=i/\g=a:=by
 have d: ∀n,g n=a n/\x=i:=by
  intro n;have b:=h ⟨λ_=>Y,n⟩;rw[j ⟨λ_=>Y,n⟩]at b;injection b with b
  injection b with b k
  refine⟨b.symm, ?_⟩;have f:=congrArg (λs:Hp=>s.m n) k;simp only[Hp.add,if_true]at f;injection f with f
  exact f.symm
 exact⟨(d 0).2,funext λn=>(d n).1⟩
theorem OP {a:cf}{x:Operand}(h: ∀t∈QV x,a t=ea t):a.ev x=ea.ev x:=by
 cases x with
 |tmp t=>exact h t (by simp[QV])
 |_=>rfl
theorem oM.same {a:cf}{i:Nat->Value}(h:oM op ea x i)(k:pq op=Za)(g: ∀t∈tw op,a t=ea t):oM op a x i:=by
 intro Z;have b:=h Z;cases op<;>first|(cases k;done)|skip
 case alloc es z=>exact b
 case makeSlice es bytes z l m=>
  have f:a.ev l=ea.ev l:=OP λt d=>g t (by simp[tw,d])
  have j:a.ev m=ea.ev m:=OP λt d=>g t (by simp[tw,d])
  simp only[AOp.run]at b⊢;rw[f,j];exact b
 case buildSlice es ln z ps=>
  have f:(ps.map λ(o,s,x)=>(o,s,a.ev x))=ps.map λ(o,s,x)=>(o,s,ea.ev x):=by
   apply cS;rintro⟨o,s,x⟩ n;simp only;rw[OP λt d=>g t (List.mem_flatMap.2 ⟨_,n,d⟩)]
  simp only[AOp.run]at b⊢;rw[f];exact b
theorem LP {c c':Ctx}: ∀{l:List VV} {m:List Value},l.all UU=Za->F2 (VRel c) l m->F2 (VRel c') l m
 |_,_,_, .nil=> .nil
 |v::l,_,h, .cons a b=>by
  rw[List.all_cons,aD]at h;refine .cons ?_ (LP h.2 b);cases a<;>first|(cases h.1;done)|skip
  .exact .bool _
  .exact .int _ _
  .exact .str (by assumption)
structure FreshFact (op:AOp)(ea:cf)(blk:Blk)(w:Bool)(x:Ab.Blk)(vf:Nat->Value):Prop where
 run:oM op ea x vf
 fz:blk.frozen=Zb
 dm: ∃dm cs rest,blk.dim=O dm/\1<=dm.1/\x.es=dm.1/\x.own=Za/\x.cells=cs++rest/\∀c':Ctx,F2 (VRel c') blk.vals cs
 vv: ∀(c':Ctx) (k b:Nat),k<c'.S.length->ae c'.S k=blk->c'.μ k=O b->c'.Z.m b=O x->VRel c' (vvF w k) (vf b)
theorem B6 {β:Type}{k:Blk->Bool->Option β}{y:β}(F:au c e ea)(h:yu op e k=O y):pq op=Za/\∃blk w x T,k blk w=O y/\FreshFact op ea blk w x T:=by
 cases op<;>simp only[yu]at h<;>first|(cases h;done)|skip
 case alloc es z=>
  obtain⟨i,u⟩:=aw h;have i:=cP i;refine⟨rfl,_,_,⟨z,Za,es⟩,λn=> .pointer (O ⟨n,0,Y⟩),u,⟨λZ=>rfl,(w8 es z).2.1,⟨(es,z.length),z,[],(w8 es z).1,i,rfl,rfl,by simp,λc'=>(w8 es z).2.2 c'⟩,λc' k b o L C D=> ?_⟩⟩;refine .ptr o rfl λd f=>⟨b,C,rfl⟩
 case makeSlice es bytes z l m=>
  have K:=bv F l;have C:=bv F m;split at h
  .rename_i V a W b s i u L;rw[i]at K;rw[u]at C;obtain⟨J,o⟩:=aw h;simp only[aD]at J;obtain⟨⟨⟨⟨t,g⟩,j⟩,A⟩,B⟩:=J;have t:=bB t;have g:=of_decide_eq_true g;have j:=of_decide_eq_true j;have A:=of_decide_eq_true A;have B:=cP B;have M: ∀c':Ctx,F2 (VRel c') (dq s (tx s)) z:=λc'=>Bf (c:=c') L
   have H:z.length=s.w:=by rw[<-(M c).length,ec]
   have U:b<=bytes*b:=by
    have:(1:Int)*b<=bytes*b:=Int.mul_le_mul_of_nonneg_right (by omega) (by omega);omega
   refine⟨rfl,_,_,⟨eb z b.toNat,Za,es⟩,λn=> .slice (O ⟨n,0,Y⟩) a.toNat b.toNat,o,⟨λZ=> ?_,rfl,⟨(s.w,(List.replicate a.toNat (tx s)).length*s.w),eb z a.toNat,eb z (b.toNat-a.toNat),rfl,mM s,t,rfl, ?_,λc'=> ?_⟩,λc' k q o r p D=> ?_⟩⟩
   .simp only[AOp.run,K.int_inv,C.int_inv];rw[zE ⟨g,j,by omega,by omega⟩]
   .show eb z b.toNat=_;rw[<-NN]
    congr 1
    omega
   .show F2 (VRel c') (ff s (List.replicate a.toNat (tx s))) (eb z a.toNat);rw[qO];generalize a.toNat=n;induction n with
    |zero=>exact .nil
    |succ n N=>
     simp only[eb,List.replicate_succ,List.flatten_cons]at N⊢;exact(M c').append N
   .refine .full o rfl λd f=> ?_
    rw[r]at f;injection f with f
    subst f;refine⟨a.toNat,by simp, .inr ⟨q,b.toNat,_,by simp,p,by simp,by omega,D, ?_⟩⟩;rw[Nat.zero_add];show b.toNat*s.w<=(eb z b.toNat).length;rw[NO,H];exact cQ _
  .cases h
 case buildSlice es ln z ps=>
  split at h
  .rename_i P S;obtain⟨i,u⟩:=aw h;simp only[aD]at i;obtain⟨⟨⟨⟨t,g⟩,j⟩,A⟩,B⟩:=i;have g:=bB g;have j:=cP j;obtain⟨I,Q,E⟩:=xe F ps S (Is ln z);refine⟨B,_,_,⟨I,Za,es⟩,λn=> .slice (O ⟨n,0,Y⟩) ln ln,u,⟨λZ=> ?_,rfl,⟨(es,P.length),I,[],rfl,j,rfl,rfl,by simp,λc'=>LP A E⟩,λc' k q o r p D=> ?_⟩⟩
   .simp only[AOp.run,Q];rw[zE (ku E t)]
   .refine .full o rfl λd f=> ?_
    rw[r]at f;injection f with f
    subst f;refine⟨ln,g, .inr ⟨q,ln,_,by simp,p,by simp[g],cQ _,D, ?_⟩⟩;rw[Nat.zero_add];show ln*es<=I.length;rw[<-E.length];exact Nat.le_of_eq g
  .cases h
theorem pM {i q:Nat}: ∀{l:List Nat},l.Nodup->(q∈AW i l↔q∈l/\q≠i)
 |[],_=>by simp[AW]
 |a::r,h=>by
  obtain⟨g,j⟩:=List.nodup_cons.1 h;simp only[AW];cases d:aB a i with
  |true=>
   have:=bB d;subst this;rw[zC];constructor
   .intro hq;exact⟨bD _ hq,λe=>g (e▸hq)⟩
   .rintro⟨hq,k⟩;rcases List.mem_cons.1 hq with rfl|hq
    .exact(k rfl).elim
    .exact hq
  |false=>
   have f:a≠i:=λe=>by subst e;rw[cL]at d;cases d
   rw[zD,cO,cO,pM j];constructor
   .rintro(rfl|⟨h3,b⟩)
    .exact⟨.inl rfl,f⟩
    .exact⟨.inr h3,b⟩
   .rintro⟨rfl|h3,b⟩
    .exact .inl rfl
    .exact .inr ⟨h3,b⟩
theorem IS {i:Nat}: ∀{l:List Nat},l.Nodup->(AW i l).Nodup
 |[],h=>h
 |a::r,h=>by
  obtain⟨d,b⟩:=List.nodup_cons.1 h;simp only[AW];cases g:aB a i with
  |true=>exact b
  |false=>
   rw[zD,List.nodup_cons];exact⟨λf=>d ((pM b).1 f).1,IS b⟩
theorem xn : ∀{ts:List Nat} {e:cm} {t:Nat},ld (qd e ts) t= .undef∨(t∉ts/\ld (qd e ts) t=ld e t)
 |[],e,t=> .inr ⟨by simp,rfl⟩
 |a::ts,e,t=>by
  simp only[qd,vy];by_cases h:t=a
  .rw[zE h];exact .inl rfl
  .rw[zF h];rcases xn (ts:=ts) (e:=e) (t:=t)with b|⟨b,d⟩
   .exact .inl b
   .exact .inr ⟨by simp[h,b],d⟩
section
variable {tab:Tab} {ops:List (AOper×List Nat)}
structure InvL (ops:List (AOper×List Nat))(c0 c:Ctx)(e:cm)(ea:cf)(ach:List (Nat×(Hp->Prop)))(chk:Fi)(P ls nd:List Nat)(r:List LItem)(pd:Nat->Nat):Prop where
 le:Le c0 ⟨c.μ,c.S,c.Z,c0.fb⟩
 R:dv c
 E:au c e ea
 K:ChkRel c ach chk
 ks:ach.map (·.1)=ls
 nd:pA nd chk=Za
 fb: ∀b,c.fb b↔(c0.fb b∨∃q∈P,pd q=b)
 nod:P.Nodup
 inj: ∀q q',q∈P->q'∈P->pd q=pd q'->q=q'
 new: ∀q∈P,c0.Z.n<=pd q
 pend: ∀q∈P,pq (ba ops q).op=Za/\∃x vf,oM (ba ops q).op ea x vf/\c.Z.m (pd q)=O x/\∀t,(ba ops q).dst=O t->ea t=vf (pd q)
 und: ∀it∈r,aB it.kind 2=Za->∀t,(ba ops it.i).dst=O t->ld e t= .undef
 ds:FA ops r=Za
theorem FF.frameV {p:Hp->Prop}(A:dv c)(C:LeV c c')(B: ∀q,q<c.S.length->ae c'.S q=ae c.S q)(k: ∀q,q<c.S.length->c'.μ q=c.μ q)(t: ∀b y,c.Z.m b=O y->c'.Z.m b=O y): ∀{s:Option (Option Nat)},FF c p s->FF c' p s
 |none,_=>trivial
 |some Y,h=>by
  refine⟨h.2 _ λb y l _=>t b y l,λZ' j=>h.2 Z' λb y l D=> ?_⟩;obtain⟨f,n⟩:=C.rd b y l D;exact j b y f n
 |some (O q),h=>by
  obtain⟨f,n,o⟩:=h;have w:=me f
  have g: ∀b,c.μ q=O b->c'.Z.m b=c.Z.m b:=by
   intro b g;cases u:(ae c.S q).dim with
   |none=>exact(f u).elim
   |some d=>
    obtain⟨_,a⟩:=A.blk q d u;rcases a with⟨_,a⟩|⟨F,y,H,z,a,r,_⟩
    .rw[g]at a;cases a
    .rw[g]at a;injection a with a
     subst a;rw[r];exact t _ _ r
  exact⟨by rw[B q w];exact f,o _ g,λZ' E=>o Z' λb i=>(E b (by rw[k q w];exact i)).trans (g b i)⟩
theorem ChkRel.frameV (f:dv c)(d:LeV c c')(g: ∀q,q<c.S.length->ae c'.S q=ae c.S q)(a: ∀q,q<c.S.length->c'.μ q=c.μ q)(h: ∀b y,c.Z.m b=O y->c'.Z.m b=O y): ∀{l:List (Nat×(Hp->Prop))} {m:Fi},ChkRel c l m->ChkRel c' l m
 |_,_, .nil=> .nil
 |_,_, .cons i k j=> .cons (i.frameV f d g a h) (k.next d) (j.frameV f d g a h)
theorem pv {c:Ctx}{m:Nat}{b:List Nat}: ∀{l:List (Nat×(Hp->Prop))} {chk:Fi},ChkRel c l chk->pA b chk=Za->(∀i∈l.map (·.1),sZ ops i m=Za∨kB i b=Za)->A3 ops m c.Z l
 |_,_, .nil,_,_=>trivial
 |_,_, .cons (i:=i) (s:=s) k _ n,h,f=>by
  simp only[pA]at h;simp only[A3];have a:pA b _=Za->A3 ops m c.Z _:=λh3=>pv n h3 λj o=>f j (by simp only[List.map_cons];exact bD _ o)
  cases d:sZ ops i m with
  |true=>
   rw[zE rfl];cases g:kB i b with
   |false=>rw[g,zD]at h;exact a h
   |true=>
    rw[g,zC]at h;cases s with
    |none=>cases h
    |some s=>exact a h
  |false=>
   rw[zF (by decide)];rcases f i (by simp)with h3|h3
   .rw[d]at h3;cases h3
   .rw[h3,zC]at h;cases s with
    |none=>cases h
    |some s=>exact⟨k.now,a h⟩
theorem Lh {β:Type}{ach:List (Nat×(Hp->Prop))}{P ls nd:List Nat}{r:List LItem}{pd:Nat->Nat}{K:cm->ai->Option β}{y:β}(h0:dv c0)
  (g:InvL ops c0 c e ea ach chk P ls nd (it::r) pd) (hk:aB it.kind 2=Za) (hP:it.i∈P) (h:yu (ba ops it.i).op e (λblk w=>K (putO e (ba ops it.i).dst (vvF w c.S.length)) (c.S++[blk]))=O y):
  ∃c' e',c'.Z=c.Z/\InvL ops c0 c' e' ea ach chk (AW it.i P) ls nd r pd/\K e' c'.S=O y/\c'.μ c.S.length=O (pd it.i)/\c.S.length<c'.S.length/\∃vv,e'=putO e (ba ops it.i).dst vv:=by
 obtain⟨hfb,blk,w,x',vf',h1,h2⟩:=B6 g.E h;obtain⟨_,x,vf,h3,h4,h5⟩:=g.pend _ hP;obtain⟨ex,ef⟩:=h2.run.unique h3;subst ex;subst ef;obtain⟨dm,cs,rest,d1,d2,d3,d4,d5,d6⟩:=h2.dm;have m:(c.S++[blk]).length=c.S.length+1:=by simp
 have U:=g.ds;simp only[FA,aD]at U
 let b:=pd it.i
 let c':Ctx:=⟨λq=>if q=c.S.length then O b else c.μ q,c.S++[blk],c.Z,λq=>c0.fb q∨∃j∈AW it.i P,pd j=q⟩
 have H:c.fb b:=(g.fb b).2 (.inr ⟨it.i,hP,rfl⟩);have C: ∀q,q<c.S.length->ae c'.S q=ae c.S q:=λq f=>mK f
 have o: ∀q,q<c.S.length->c'.μ q=c.μ q:=λq f=>zF (Nat.ne_of_lt f)
 have I:ae c'.S c.S.length=blk:=Ry;have a:c'.μ c.S.length=O b:=zE rfl
 have F: ∀q,c'.fb q->c.fb q:=by
  rintro q (f|⟨j,N,rfl⟩)
  .exact(g.fb q).2 (.inl f)
  .exact(g.fb _).2 (.inr ⟨j,((pM g.nod).1 N).1,rfl⟩)
 have T: ¬c'.fb b:=by
  rintro(f|⟨j,N,hjb⟩)
  .have:=h0.fbl _ f;have:=g.new _ hP;omega
  .obtain⟨B,z⟩:=(pM g.nod).1 N;exact z (g.inj _ _ B hP hjb)
 have Q: ∀q,c'.own q->c.own q∨q=b:=by
  rintro q ⟨j,B,z⟩;by_cases N:j<c.S.length
  .rw[C j N]at B;rw[o j N]at z;exact .inl ⟨j,B,z⟩
  .by_cases hj3:j=c.S.length
   .subst hj3;rw[a]at z;injection z with z
    exact .inr z.symm
   .rw[vC (by show c'.S.length<=j;rw[m];omega)]at B;cases B
 have hV:LeV c c':=by
  refine⟨by rw[m];omega,λq d f l=> ?_,λq d u L f l hm D=>⟨L,D,rfl⟩,λu L D V=>⟨D,λhm=> ?_⟩⟩
  .rw[C q f]at l;exact⟨l,o q f⟩
  .rcases hm with hm|hm
   .rcases Q u hm with hm|hm
    .exact V (.inl hm)
    .subst hm;exact V (.inr H)
   .exact V (.inr (F _ hm))
 have hR':dv c':=by
  refine⟨g.R.ok,λq J u f k hm A=> ?_,λq d l=> ?_,λq u l hm=> ?_,λu hb'=>g.R.fbl _ (F _ hb')⟩
  .have s: ∀j,(ae c'.S j).dim≠Y->j<c.S.length∨j=c.S.length:=by
    intro j N;have:=me N;rw[m]at this;omega
   rcases s q (lT f)with h6|h6
   .rcases s J k with h7|h7
    .rw[C q h6]at f;rw[C J h7]at k;rw[o q h6]at hm;rw[o J h7]at A;exact g.R.inj q J u f k hm A
    .subst h7;rw[a]at A;injection A with A
     subst A;rw[o q h6]at hm;rw[C q h6]at f;exact(g.R.fbk q _ (lT f) hm H).elim
   .rcases s J k with h7|h7
    .subst h6;rw[a]at hm;injection hm with hm
     subst hm;rw[o J h7]at A;rw[C J h7]at k;exact(g.R.fbk J _ k A H).elim
    .rw[h6,h7]
  .by_cases f:q<c.S.length
   .rw[C q f]at l⊢;obtain⟨h6,h7⟩:=g.R.blk q d l;refine⟨h6, ?_⟩;rcases h7 with⟨h7,h8⟩|⟨u,L,cs',X,h7,h8,h9,h10,h11,h12⟩
    .exact .inl ⟨h7,by rw[o q f];exact h8⟩
    .exact .inr ⟨u,L,cs',X,by rw[o q f];exact h7,h8,h9,h10,h11,VRel.framesV hV h12⟩
   .by_cases W:q=c.S.length
    .subst W;rw[I]at l⊢;rw[d1]at l;injection l with l
     subst l;exact⟨d2, .inr ⟨b,x',cs,rest,a,h4,d3,λ_=>d4,d5,d6 c'⟩⟩
    .rw[vC (by show c'.S.length<=q;rw[m];omega)]at l;cases l
  .by_cases f:q<c.S.length
   .rw[C q f]at l;rw[o q f]at hm;exact λhf=>g.R.fbk q u l hm (F _ hf)
   .have:=me l;rw[m]at this;have W:q=c.S.length:=by omega
    subst W;rw[a]at hm;injection hm with hm
    subst hm;exact T
 have hvv:VRel c' (vvF w c.S.length) (vf' b):=h2.vv c' c.S.length b (by rw[m];omega) I a h4
 have hE':au c' (putO e (ba ops it.i).dst (vvF w c.S.length)) ea:=by
  have hE:=g.E.frameV hV;cases l:(ba ops it.i).dst with
  |none=>exact hE
  |some t=>
   intro t';show VRel c' (ld (pP e t _) t') (ea t');rw[vy];by_cases ht:t'=t
   .subst ht;rw[zE rfl,h5 _ l];exact hvv
   .rw[zF ht];exact hE t'
 refine⟨c',_,rfl,⟨?_,hR',hE',g.K.frameV g.R hV C o (λ_ _ D=>D),g.ks,g.nd,λq=>Iff.rfl,IS g.nod,λq J f k=>g.inj q J ((pM g.nod).1 f).1 ((pM g.nod).1 k).1,λq f=>g.new q ((pM g.nod).1 f).1,λq f=>g.pend q ((pM g.nod).1 f).1, ?_,U.2⟩,h1,a,by rw[m];omega,_,rfl⟩
 .have p:=g.le;refine⟨cR p.len (by show c.S.length<=c'.S.length;rw[m];omega),λq d f l=> ?_,λq hf l=> ?_,λq d u L f l hm D=> ?_,λu L D V=>p.un u L D V,λu L D V ho=> ?_,p.n,rfl⟩
  .have k:q<c.S.length:=cB f p.len;have:=C q k;rw[show(⟨c'.μ,c'.S,c'.Z,c0.fb⟩:Ctx).S=c'.S from rfl,this]at l;obtain⟨h6,h7⟩:=p.al q d f l;exact⟨h6,(o q k).trans h7⟩
  .have k:q<c.S.length:=cB (me l) p.len;exact(C q k).trans (p.fz q hf l)
  .have k:q<c.S.length:=cB f p.len;have:=C q k;rw[show(⟨c'.μ,c'.S,c'.Z,c0.fb⟩:Ctx).S=c'.S from rfl,this]at l;exact p.ln q d u L f l hm D
  .have ho':c'.own u:=ho;rcases Q u ho' with ho2|ho2
   .exact p.ow u L D V ho2
   .subst ho2;have:=h0.ok _ _ D;have:=g.new _ hP;omega
 .intro it' M hk' t ht;have hu:=g.und it' (bD _ M) hk' t ht;cases l:(ba ops it.i).dst with
  |none=>exact hu
  |some t'=>
   show ld (pP e t' _) t=_;rw[vy];by_cases htt:t=t'
   .subst htt;have:=List.all_eq_true.1 U.1 it' M;rw[hk,hk']at this;simp only[cN,cM,UD,l,ht,cL]at this;cases this
   .rw[zF htt];exact hu
theorem Us {β:Type}{ach:List (Nat×(Hp->Prop))}{P ls d:List Nat}{r:List LItem}{pd:Nat->Nat}{k:cm->ai->Option β}{y:β}(f:dv c0)
  (m:InvL ops c0 c e ea ach chk P ls d (it::r) pd) (a:aB it.kind 2=Za) (n:it.i∈P) (h:CE tab ops (it::r) chk e c.S k=O y):
  ∃c' e',c'.Z=c.Z/\InvL ops c0 c' e' ea ach chk (AW it.i P) ls d r pd/\CE tab ops r chk e' c'.S k=O y:=by
 have b:aB it.kind 3=Zb:=by rw[bB a];rfl
 simp only[CE,a,b,zC,zD]at h;obtain⟨c',e',g,j,l,_⟩:=Lh (K:=λe' S'=>CE tab ops r chk e' S' k) f m a n h;exact⟨c',e',g,j,l⟩
theorem Q3 {β:Type}{ach:List (Nat×(Hp->Prop))}{P ls nd:List Nat}{r:List LItem}{pd:Nat->Nat}{k:cm->ai->Option β}{y:β}
  (a:InvL ops c0 c e ea ach chk P ls nd (it::r) pd) (d:aB it.kind 3=Za) (h:CE tab ops (it::r) chk e c.S k=O y):
  InvL ops c0 c e ea ach chk P ls nd r pd/\CE tab ops r chk e c.S k=O y:=by
 simp only[CE,d,zC]at h;obtain⟨_,_,_,_,_,f,_⟩:=B6 a.E h;have b:=a.ds;simp only[FA,aD]at b;exact⟨⟨a.le,a.R,a.E,a.K,a.ks,a.nd,a.fb,a.nod,a.inj,a.new,a.pend,λj g d t i=>a.und j (bD _ g) d t i,b.2⟩,f⟩
theorem Hj {β:Type}{c0:Ctx}{ea:cf}{ach:List (Nat×(Hp->Prop))}{chk:Fi}{ls u:List Nat}{pd:Nat->Nat}{k:cm->ai->Option β}{y:β}{i:Nat}(m:dv c0): ∀(r:List LItem) {P P':List Nat} {it:LItem} {g:List LItem} {c:Ctx} {e:cm},Cm r P i=O (P',it,g)->
  InvL ops c0 c e ea ach chk P ls u r pd->CE tab ops r chk e c.S k=O y->
  ∃c' e',c'.Z=c.Z/\InvL ops c0 c' e' ea ach chk P' ls u (it::g) pd/\CE tab ops (it::g) chk e' c'.S k=O y/\aB it.kind 2=Zb/\it.i=i/\∀q∈P',q∈P
 |[],P,P',it,g,c,e,h,_,_=>by cases h
 |a::r,P,P',it,g,c,e,h,j,t=>by
  simp only[Cm]at h;cases b:aB a.kind 3 with
  |true=>
   rw[b,zC]at h;obtain⟨d,f⟩:=Q3 j b t;exact Hj m r h d f
  |false=>
  rw[b,zD]at h;cases l:aB a.kind 2 with
  |false=>
   rw[l,zD]at h;cases o:aB a.i i with
   |false=>rw[o]at h;cases h
   |true=>
    rw[o,zC]at h;injection h with h
    injection h with d h
    injection h with f n
    subst d;subst f;subst n;exact⟨c,e,rfl,j,t,l,bB o,λq s=>s⟩
  |true=>
   rw[l,zC]at h;cases p:kB a.i P with
   |false=>rw[p]at h;cases h
   |true=>
    rw[p,zC]at h;obtain⟨H,I,d,f,n⟩:=Us m j l (jH.1 p) t;obtain⟨w,z,A,B,C,D,E,F⟩:=Hj m r h f n;exact⟨w,z,A.trans d,B,C,D,E,λq s=>((pM j.nod).1 (F q s)).1⟩
theorem OQ {β:Type}{c0:Ctx}{ea:cf}{ach:List (Nat×(Hp->Prop))}{chk:Fi}{ls s:List Nat}{pd:Nat->Nat}{k:cm->ai->Option β}{y:β}(i:dv c0): ∀(r:List LItem) {P:List Nat} {c:Ctx} {e:cm},SJ r P=Za->
  InvL ops c0 c e ea ach chk P ls s r pd->CE tab ops r chk e c.S k=O y->pc c0 k y ea c.Z
 |[],P,c,e,h,d,g=>by
  have o:P=[]:=by
   cases P with
   |nil=>rfl
   |cons a r=>simp[SJ]at h
  subst o
  have m:c.fb=c0.fb:=by
   funext b
   refine propext ((d.fb b).trans ⟨λh=> ?_, .inl⟩);rcases h with h|⟨q,p,_⟩
   .exact h
   .cases p
  refine⟨e,c,rfl, ?_,d.R,d.E,g⟩;have:=d.le;rw[<-m]at this;exact this
 |a::r,P,c,e,h,d,g=>by
  simp only[SJ]at h;cases f:aB a.kind 3 with
  |true=>
   rw[f,zC]at h;obtain⟨j,l⟩:=Q3 d f g;exact OQ i r h j l
  |false=>
  rw[f,zD]at h;simp only[aD]at h;obtain⟨t,u,j,l,n⟩:=Us i d h.1.1 (jH.1 h.1.2) g;rw[<-j];exact OQ i r h.2 l n
theorem JV {β:Type}{c:Ctx}{ea:cf}{chk:Fi}{k:cm->ai->Option β}{y:β}{m:Nat}: ∀(r:List LItem) {e e':cm} {S:ai},K9 ops r m=Za->au c e ea->(∀t∈tw (ba ops m).op,ld e' t=ld e t)->CE tab ops r chk e' S k=O y->∃x F,pq (ba ops m).op=Za/\oM (ba ops m).op ea x F
 |[],e,e',S,h,_,_,_=>by cases h
 |a::r,e,e',S,h,H,A,b=>by
  have p: ∀(V:VV),rF (ba ops a.i).dst (tw (ba ops m).op)=Za->∀t∈tw (ba ops m).op,ld (putO e' (ba ops a.i).dst V) t=ld e t:=by
   intro V n t T;rw[<-A t T];cases X:(ba ops a.i).dst with
   |none=>rfl
   |some U=>
    show ld (pP e' U _) t=_;rw[vy];by_cases E:t=U
    .subst E;rw[X]at n;simp only[rF]at n;rw[jH.2 T]at n;cases n
    .rw[zF E]
  have d: ∀{γ:Type} {P:Blk->Bool->Option γ} {z:γ},yu (ba ops m).op e' P=O z->∃x F,pq (ba ops m).op=Za/\oM (ba ops m).op ea x F:=by
   intro γ P z b
   have M:yu (ba ops m).op e P=O z:=by
    cases f:(ba ops m).op<;>rw[f]at b A<;>simp only[yu]at b<;>first|(cases b;done)|skip
    case alloc es z=>exact b
    case makeSlice es bytes z l q=>
     have I:ev e' l=ev e l:=by
      cases l with
      |tmp t=>exact A t (by simp[tw,QV])
      |_=>rfl
     have W:ev e' q=ev e q:=by
      cases q with
      |tmp t=>exact A t (by simp[tw,QV])
      |_=>rfl
     rw[I,W]at b;exact b
    case buildSlice es ln z ps=>
     have I:Av e' ps=Av e ps:=by
      unfold Av;apply cS;rintro⟨o,s,x⟩ hx;simp only
      have:ev e' x=ev e x:=by
       cases x with
       |tmp t=>exact A t (List.mem_flatMap.2 ⟨_,hx,by simp[QV]⟩)
       |_=>rfl
      rw[this]
     rw[I]at b;exact b
   obtain⟨hf,u,w,x,F,_,B⟩:=B6 H M;exact⟨x,F,hf,B.run⟩
  simp only[K9]at h;cases j:aB a.kind 3 with
  |true=>
   rw[j,zC,cD]at h;simp only[CE,j,zC]at b;rcases h with h|h
   .rw[bB h]at b;exact d b
   .have g:CE tab ops r chk e' S k=O y:=by
     cases f:(ba ops a.i).op<;>rw[f]at b<;>simp only[yu]at b<;>first|(cases b;done)|skip
     case alloc es z=>exact(aw b).2
     case makeSlice es bytes z l q=>
      split at b
      .exact(aw b).2
      .cases b
     case buildSlice es ln z ps=>
      split at b
      .exact(aw b).2
      .cases b
    exact JV r h H A g
  |false=>
  rw[j,zD]at h;simp only[cD,aD]at h;rcases h with⟨C,h⟩|⟨⟨⟨C,D⟩,n⟩,B⟩
  .simp only[CE,C,j,zC,zD]at b;by_cases Q:a.i=m
   .rw[Q]at b;exact d b
   .rcases h with h|⟨n,B⟩
    .exact(Q (bB h)).elim
    .have g: ∃u w,CE tab ops r chk (putO e' (ba ops a.i).dst (vvF w S.length)) (S++[u]) k=O y:=by
      cases f:(ba ops a.i).op<;>rw[f]at b<;>simp only[yu]at b<;>first|(cases b;done)|skip
      case alloc es z=>exact⟨_,_,(aw b).2⟩
      case makeSlice es bytes z l q=>
       split at b
       .exact⟨_,_,(aw b).2⟩
       .cases b
      case buildSlice es ln z ps=>
       split at b
       .exact⟨_,_,(aw b).2⟩
       .cases b
     obtain⟨u,w,N⟩:=g;exact JV r B H (p _ n) N
  .have K:aB a.kind 2=Zb:=by rw[bB C];rfl
   have J:aB a.kind 1=Zb:=by rw[bB C];rfl
   have L:aB a.kind 5=Zb:=by rw[bB C];rfl
   simp only[CE,K,J,j,L,zD]at b;obtain⟨_,b⟩:=aw b;cases f:(ba ops a.i).op<;>rw[f]at D<;>first|(cases D;done)|skip
   case move x=>
    rw[f]at b;simp only[HV,AOp.isLoad,zD]at b;obtain⟨_,b⟩:=aw b;exact JV r B H (p _ n) b
theorem Oy {F:Nat->Prop}: ∀{l:List Nat},(∀m∈l,F m)->Kw F l
 |[],_=>trivial
 |[m],h=>h m (by simp)
 |m::b::r,h=>⟨h m (by simp),Oy λq a=>h q (bD _ a)⟩
theorem O4 {D:List Nat}{i:Nat}(h:dx ops D=O i): ∃p,ops[i]?=O (ba ops i,p)/\(ba ops i).op.still=Za:=by
 unfold dx at h;have b:=List.find?_some h;simp only[aD]at b;have a:=b.2;unfold Cl at a;unfold ba;split at a
 .rename_i o p d;rw[d];exact⟨p,rfl,a⟩
 .cases a
theorem Lo {D:List Nat}{m:Nat}(h:m∈bn ops D): ∃p,ops[m]?=O (ba ops m,p)/\(ba ops m).op.still=Zb:=by
 unfold bn at h;obtain⟨a,d⟩:=List.mem_filter.1 h;have a:=List.mem_range.1 a;simp only[aD]at d;have b:=d.2;unfold Cl at b;unfold ba;rw[List.getElem?_eq_getElem a]at b⊢;exact⟨_,rfl,by simpa using b⟩
theorem UH {a:Nat}{f:Bool}{P:List Nat}{r:List LItem}(h:tn ops a f P r=Za){q:Nat}(g:q∈P):(∀t,(ba ops a).dst=O t->(ba ops q).dst≠O t)/\∀t,(ba ops a).dst=O t->t∉tw (ba ops q).op:=by
 simp only[tn,aD]at h;have b:=List.all_eq_true.1 h.1 q g;rw[aD]at b;refine⟨λt d e=> ?_,λt d i=> ?_⟩
 .have:=b.1;rw[d,e]at this;simp only[UD,cL]at this;cases this
 .have:=b.2;rw[d]at this;simp only[rF]at this;rw[jH.2 i]at this;cases this
theorem an2 {a:Nat}{b:Bool}{P:List Nat}{r:List LItem}(h:tn ops a b P r=Za)(f:it∈r)(k:aB it.kind 2=Za)(g:b=Za->it.i≠a){t:Nat}(l:(ba ops a).dst=O t):(ba ops it.i).dst≠O t:=by
 simp only[tn,aD]at h;have d:=List.all_eq_true.1 h.2 it f
 have j:(b&&aB it.i a)=Zb:=by
  cases b with
  |false=>rfl
  |true=>exact Bool.eq_false_iff.2 λe=>g rfl (bB e)
 rw[k,j]at d;intro e;rw[l,e]at d;simp only[cN,cM,UD,cL]at d;cases d
theorem zu {d:Option Nat}{t:Nat}(h: ∀a,d=O a->t≠a):(ea.putO d v) t=ea t:=by
 cases d with
 |none=>rfl
 |some a=>exact zF (h a rfl)
theorem YQ {d:Option Nat}{v:VV}{t:Nat}(h: ∀a,d=O a->t≠a):ld (putO e d v) t=ld e t:=by
 cases d with
 |none=>rfl
 |some a=>
  show ld (pP e a v) t=_;rw[vy,zF (h a rfl)]
theorem InvL.on {ach a:List (Nat×(Hp->Prop))}{d:Fi}{P ls o W p:List Nat}{r:List LItem}{pd:Nat->Nat}{i:Nat}{K:VV}
  (f:InvL ops c0 c e ea ach chk P ls W (it::r) pd) (F:tn ops i Zb P r=Za) (k:Le c c') (N:dv c') (T:VRel c' K v) (M:ChkRel c' a d) (B:a.map (·.1)=o) (C:pA p d=Za):
  InvL ops c0 c' (putO e (ba ops i).dst K) (ea.putO (ba ops i).dst v) a d P o p r pd:=by
 have m:=f.ds;simp only[FA,aD]at m;refine⟨?_,N,(f.E.frame k).putO T,M,B,C,λb=>by rw[k.fb];exact f.fb b,f.nod,f.inj,f.new,λq D=> ?_,λj I J t l=> ?_,m.2⟩
 .have u:=f.le;have w:Le ⟨c.μ,c.S,c.Z,c0.fb⟩ ⟨c'.μ,c'.S,c'.Z,c0.fb⟩:=⟨k.len,k.al,k.fz,k.ln,k.un,k.ow,k.n,rfl⟩;exact u.trans w
 .obtain⟨H,x,X,u,w,L⟩:=f.pend q D;obtain⟨U,V⟩:=UH F D;refine⟨H,x,X,u.same H λt l=>zu λs g e=>V s g (e▸l),k.un _ _ w λQ=> ?_,λt l=> ?_⟩
  .obtain⟨j,z,A⟩:=Q;exact f.R.fbk j _ (lT z) A ((f.fb _).2 (.inr ⟨q,D,rfl⟩))
  .rw[zu λs g e=>U s g (e▸l)];exact L t l
 .rw[YQ λs g e=>an2 F I J (λh=>by cases h) g (e▸l)];exact f.und j (bD _ I) J t l
theorem H1 {ach:List (Nat×(Hp->Prop))}{P ls nd:List Nat}{r:List LItem}{pd:Nat->Nat}{m:Nat}{V:Nat->Value}
  (a:InvL ops c0 c e ea ach chk P ls nd r pd) (j:m∉P) (J:pq (ba ops m).op=Za) (hF:oM (ba ops m).op ea x V) (hd:tn ops m Za P r=Za) (h:rF (ba ops m).dst (tw (ba ops m).op)=Za)
  (C:r.any (λit=>aB it.kind 2&&aB it.i m)=Za):
  InvL ops c0 ⟨c.μ,c.S,c.Z.add x,λb=>c.fb b∨b=c.Z.n⟩ e (ea.putO (ba ops m).dst (V c.Z.n)) ach chk (m::P) ls nd r (λq=>if q=m then c.Z.n else pd q):=by
 let c':Ctx:=⟨c.μ,c.S,c.Z.add x,λb=>c.fb b∨b=c.Z.n⟩
 have f: ∀b y,c.Z.m b=O y->(c.Z.add x).m b=O y:=by
  intro b y o;have:=a.R.ok b y o;simp only[Hp.add];rw[Zh];exact o
 have hV:LeV c c':=by
  refine⟨cQ _,λq d hq g=>⟨g,rfl⟩,λq d b y hq g hm o=>⟨y,f b y o,rfl⟩,λb y o X=>⟨f b y o,λhm=> ?_⟩⟩;rcases hm with hm|hm|hm
  .exact X (.inl hm)
  .exact X (.inr hm)
  .have:=a.R.ok b y o;omega
 have hR':dv c':=by
  refine⟨λb y o=> ?_,a.R.inj,λq d g=> ?_,λq b g hm hf=> ?_,λb hb=> ?_⟩
  .simp only[c',Hp.add]at o⊢;split at o
   .omega
   .have:=a.R.ok b y o;omega
  .obtain⟨h6,k⟩:=a.R.blk q d g;refine⟨h6, ?_⟩;rcases k with k|⟨b',y',B,u,k,h8,h9,h10,h11,h12⟩
   .exact .inl k
   .exact .inr ⟨b',y',B,u,k,f _ _ h8,h9,h10,h11,VRel.framesV hV h12⟩
  .rcases hf with hf|hf
   .exact a.R.fbk q b g hm hf
   .subst hf;have F:(ae c.S q).dim≠Y:=g;cases D:(ae c.S q).dim with
    |none=>exact F D
    |some d=>
     obtain⟨_,k⟩:=a.R.blk q d D;have N:c.μ q=O c.Z.n:=hm;rcases k with⟨_,k⟩|⟨b',y',B,u,k,h8,_⟩
     .rw[N]at k;cases k
     .rw[N]at k;injection k with k
      subst k;have:=a.R.ok _ _ h8;omega
  .show b<c.Z.n+1;rcases hb with hb|hb
   .have:=a.R.fbl b hb;omega
   .omega
 have hK':=a.K.frameV a.R hV (λ_ _=>rfl) (λ_ _=>rfl) f;refine⟨?_,hR', ?_,hK',a.ks,a.nd,λb=> ?_,List.nodup_cons.2 ⟨j,a.nod⟩,λq U hq Q z=> ?_,λq hq=> ?_,λq hq=> ?_,a.und,a.ds⟩
 .have l:=a.le;refine⟨l.len,l.al,l.fz,λq d b y hq g hm o=> ?_,λb y o X=>f _ _ (l.un b y o X),l.ow,cR l.n (Nat.le_succ _),rfl⟩;obtain⟨y',q1,q2⟩:=l.ln q d b y hq g hm o;exact⟨y',f _ _ q1,q2⟩
 .have hE:=a.E.frameV hV;intro t;cases H:(ba ops m).dst with
  |none=>exact hE t
  |some A=>
   show VRel c' (ld e t) (if t=A then _ else ea t);by_cases T:t=A
   .subst T;rw[zE rfl];obtain⟨it,hit,p⟩:=List.any_eq_true.1 C;rw[aD]at p;have L:=bB p.2;subst L;rw[a.und it hit p.1 _ H];exact .undef _
   .rw[zF T];exact hE t
 .constructor
  .rintro(hb|hb)
   .rcases(a.fb b).1 hb with hb|⟨q,hq,hb⟩
    .exact .inl hb
    .refine .inr ⟨q,bD _ hq, ?_⟩;show(if q=m then c.Z.n else pd q)=b;rw[zF (λe:q=m=>j (e▸hq))];exact hb
   .exact .inr ⟨m,cK,by simp[hb]⟩
  .rintro(hb|⟨q,hq,hb⟩)
   .exact .inl ((a.fb b).2 (.inl hb))
   .rcases List.mem_cons.1 hq with rfl|hq
    .simp only[if_true]at hb;exact .inr hb.symm
    .have hb:(if q=m then c.Z.n else pd q)=b:=hb;rw[zF (λe:q=m=>j (e▸hq))]at hb;exact .inl ((a.fb b).2 (.inr ⟨q,hq,hb⟩))
 .have M: ∀q∈P,pd q<c.Z.n:=λq hq=>a.R.fbl _ ((a.fb _).2 (.inr ⟨q,hq,rfl⟩))
  have z:(if q=m then c.Z.n else pd q)=if U=m then c.Z.n else pd U:=z
  rcases List.mem_cons.1 hq with rfl|hq1
  .rcases List.mem_cons.1 Q with rfl|hq2
   .rfl
   .rw[zE rfl,zF (λe:U=q=>j (e▸hq2))]at z;have:=M _ hq2;omega
  .rw[zF (λe:q=m=>j (e▸hq1))]at z;rcases List.mem_cons.1 Q with rfl|hq2
   .rw[zE rfl]at z;have:=M _ hq1;omega
   .rw[zF (λe:U=m=>j (e▸hq2))]at z;exact a.inj q U hq1 hq2 z
 .show c0.Z.n<=(if q=m then c.Z.n else pd q);rcases List.mem_cons.1 hq with rfl|hq
  .rw[zE rfl];exact a.le.n
  .rw[zF (λe:q=m=>j (e▸hq))];exact a.new q hq
 .show pq (ba ops q).op=Za/\∃x1 W,oM (ba ops q).op (ea.putO (ba ops m).dst (V c.Z.n)) x1 W/\c'.Z.m (if q=m then c.Z.n else pd q)=O x1/\∀t,(ba ops q).dst=O t->ea.putO (ba ops m).dst (V c.Z.n) t=W (if q=m then c.Z.n else pd q)
  rcases List.mem_cons.1 hq with rfl|hq
  .rw[zE rfl];refine⟨J,x,V,hF.same J λt w=>zu λA s e=> ?_,zE rfl,λt w=> ?_⟩
   .subst e;rw[s]at h;simp only[rF]at h;rw[jH.2 w]at h;cases h
   .rw[w];exact zE rfl
  .rw[zF (λe:q=m=>j (e▸hq))];obtain⟨I,x',vf',q1,q2,q3⟩:=a.pend q hq;obtain⟨k1,k2⟩:=UH hd hq;refine⟨I,x',vf',q1.same I λt w=>zu λA s e=>k2 A s (e▸w),f _ _ q2,λt w=> ?_⟩;rw[zu λA s e=>k1 A s (e▸w)];exact q3 t w
def vO (ops:List (AOper×List Nat))(j:Nat)(ea:cf):Value:=match(ba ops j).dst with
 |some t=>ea t
 |none=>undef
def FE (ops:List (AOper×List Nat))(b:Nat)(x:Ab.Blk)(l:List Nat)(ea:cf):Prop:= ∀j∈l,∀Z':Hp,Z'.m b=O x->(ba ops j).op.run ea Z'=O (vO ops j ea,Z')
def TH (ops:List (AOper×List Nat))(b:Nat)(x:Ab.Blk):List Nat->cf->Prop
 |[],_=>True
 |i::g,ea=> ∃v,(∀Z':Hp,Z'.m b=O x->(ba ops i).op.run ea Z'=O (v,Z'))/\TH ops b x g (ea.putO (ba ops i).dst v)
theorem Na {o:Option Nat}{i:Nat}(h:ah7 o i=Za):o=O i:=by
 cases o with
 |none=>cases h
 |some a=>rw[bB (h:aB a i=Za)]
theorem vI {o:AOper}(h:o.guard.isNone=Za):wanted o ea=Za:=by
 unfold wanted;cases a:o.guard with
 |none=>rfl
 |some q=>rw[a]at h;cases h
theorem Ie {d:Option Nat}{l:List Nat}(h:rF d l=Za): ∀t,d=O t->t∉l:=by
 intro t b a;rw[b]at h;simp only[rF]at h;rw[jH.2 a]at h;cases h
theorem UE {d a:Option Nat}(h:UD d a=Za): ∀t,d=O t->a≠O t:=by
 intro t b e;rw[b,e]at h;simp only[UD,cL]at h;cases h
theorem Nc {b:Nat}{l:List Nat}{d:Option Nat}(h:FE ops b x l ea)(m: ∀j∈l,rF d (ba ops j).op.reads=Za)(n: ∀j∈l,UD d (ba ops j).dst=Za):FE ops b x l (ea.putO d v):=by
 intro j f Z' o;have i:(ba ops j).op.run (ea.putO d v) Z'=(ba ops j).op.run ea Z':=Bd λt q=>zu λg a e=>Ie (m j f) g a (e▸q)
 have k:vO ops j (ea.putO d v)=vO ops j ea:=by
  unfold vO;cases p:(ba ops j).dst with
  |none=>rfl
  |some t=>exact zu λg a e=>UE (n j f) g a (e▸p)
 rw[i,k];exact h j f Z' o
theorem XQ {β:Type}{n b:Nat}{x:Ab.Blk}{y:β}{z:Option β}{c1:Ctx}(J:c1.μ n=O b)(H:n<c1.S.length)(I:c1.Z.m b=O x): ∀(g:List Nat) {c:Ctx} {e:cm} {ea:cf},Le c1 c->c.Z=c1.Z->dv c->au c e ea->evG tab ops n g e c.S z=O y->TH ops b x g ea/\z=O y
 |[],_,_,_,_,_,_,_,h=>⟨trivial,h⟩
 |i::g,c,e,ea,F,D,C,r,h=>by
  simp only[evG]at h;obtain⟨B,N⟩:=aw h;rw[aD]at B;obtain⟨k,a⟩:=B;have o:=te C r N;rw[<-mJ k]at o;cases l:(ba ops i).op.run ea c.Z with
  |none=>rw[l]at o;exact o.elim
  |some q=>
   obtain⟨v,Z1⟩:=q;rw[l]at o;obtain⟨vv,c2,w,A,K,g4,L,M⟩:=o;have t:Z1=c.Z:=uy k l;rw[t]at w l;obtain⟨V,W⟩:=XQ J H I g (F.trans A) (w.trans D) K ((r.frame A).putO L) M;refine⟨⟨v,λZ' U=> ?_,V⟩,W⟩;cases j:(ba ops i).op.isLoad with
   |false=>exact NI k j l Z'
   |true=>
    rw[j]at a;have E:=HG C r j l;cases u:Vp c.S (ba ops i).op e with
    |none=>rw[u]at a;cases a
    |some s=>
     cases s with
     |none=>rw[u]at a;cases a
     |some q=>
      rw[u]at a E
      have T:q=n:=by
       simp only[cN,cM,au4]at a;exact bB a
      subst T;obtain⟨P,_,Q⟩:=E;refine Q Z' λb' f=> ?_
      cases p:(ae c.S q).dim with
      |none=>exact(P p).elim
      |some d=>
       obtain⟨_,X⟩:=F.al q d H p;rw[X,J]at f;injection f with f
       subst f;rw[U,D,I]
theorem Qa {T:Ab.fM}{Q:cf->Hp->Prop}{ach:List (Nat×(Hp->Prop))}{b m L:Nat}{x:Ab.Blk}{Z:Hp}(K:Z.m b=O x): ∀(g pre:List Nat) {f q:Nat} {D D2:List Nat} {ea:cf} {gl:List (Nat×(Hp->Prop))},VA ops g f D=O (q,D2)->TH ops b x g ea->okG ops m L pre g=Za->FE ops b x pre ea->(∀p∈gl,∀Z':Hp,Z'.m b=O x->p.2 Z')->
  (∀d k,FE ops b x (g.reverse++pre) d->(∀p∈k,∀Z':Hp,Z'.m b=O x->p.2 Z')->(∀t,t∉th ops g->d t=ea t)->Cq T Q ops q D2 (k++ach) d Z)->Cq T Q ops f D (gl++ach) ea Z
 |[],pre,f,q,D,D2,ea,gl,a,F,C,A,h,B=>by
  simp only[VA]at a;injection a with a
  injection a with P S
  subst P;subst S;exact B ea gl A h λt _=>rfl
 |i::g,pre,0,q,D,D2,ea,gl,a,F,C,A,h,B=>by cases a
 |i::g,pre,f+1,q,D,D2,ea,gl,a,F,C,A,h,B=>by
  simp only[VA]at a;cases r:ah7 (dx ops D) i&&(ba ops i).guard.isNone with
  |false=>rw[r]at a;cases a
  |true=>
   rw[r,zC]at a;rw[aD]at r;have u:=Na r.1;obtain⟨p,hp,W⟩:=O4 u;obtain⟨v,J,H⟩:=F;simp only[okG,aD]at C;obtain⟨⟨⟨⟨⟨⟨⟨o1,o2⟩,o3⟩,o4⟩,o5⟩,o6⟩,o7⟩,o8⟩:=C;simp only[Cq];rw[u];simp only[hp,vI r.2,if_true,J Z K];obtain⟨t0,o⟩:=Option.isSome_iff_exists.1 o1;have z:=List.all_eq_true.1 o6
   have E:FE ops b x (i::pre) (ea.putO (ba ops i).dst v):=by
    intro j hj;rcases List.mem_cons.1 hj with rfl|hj
    .intro Z' U;have M:(ba ops j).op.run (ea.putO (ba ops j).dst v) Z'=(ba ops j).op.run ea Z':=Bd λt w=>zu λt' I e=>Ie (z j cK) t' I (e▸w)
     have N:vO ops j (ea.putO (ba ops j).dst v)=v:=by
      unfold vO;rw[o];exact zE rfl
     rw[M,N];exact J Z' U
    .exact Nc A (λj hj=>z j (bD _ hj)) (List.all_eq_true.1 o7) j hj
   have l: ∀n:List (Nat×(Hp->Prop)),(∀p∈n,∀Z':Hp,Z'.m b=O x->p.2 Z')->Cq T Q ops f (i::D) (n++ach) (ea.putO (ba ops i).dst v) Z:=by
    intro n s;refine Qa K g (i::pre) a H o8 E s λd k X k2 k3=>B d k (by rw[List.reverse_cons,List.append_assoc];exact X) k2 λt w=> ?_
    simp only[th,o,List.mem_append,List.mem_singleton,not_or]at w;rw[k3 t w.2,o];exact zF w.1
   cases V:(ba ops i).op.isLoad with
   |false=>
    rw[zF (by decide)];exact l gl h
   |true=>
    rw[zE rfl];refine l ((i,_)::gl) λp hp=> ?_
    rcases List.mem_cons.1 hp with rfl|hp
    .exact J
    .exact h p hp
theorem Qy {β:Type}{b:Nat}{x:Ab.Blk}{k:cm->ai->Option β}{y:β}{ea:cf}: ∀(g:List Nat) {r o:List LItem} {c:Ctx} {e:cm} {chk:Fi},Qx g r=O o->FE ops b x g ea->c.Z.m b=O x->(∀j∈g,(ba ops j).dst.isSome=Za)->dv c->au c e ea->CE tab ops r chk e c.S k=O y->
  ∃c' e' f,c'.Z=c.Z/\Le c c'/\dv c'/\au c' e' ea/\CE tab ops o f e' c'.S k=O y
 |[],r,o,c,e,chk,h,_,_,_,u,p,a=>by
  injection h with h
  subst h;exact⟨c,e,chk,rfl,Le.refl c,u,p,a⟩
 |i::g,[],o,c,e,chk,h,_,_,_,_,_,_=>by cases h
 |i::g,it::r,o,c,e,chk,h,E,H,F,u,p,a=>by
  simp only[Qx]at h;cases n:aB it.kind 0&&aB it.i i with
  |false=>rw[n]at h;cases h
  |true=>
   rw[n,zC]at h;rw[aD]at n;have Q:=bB n.2;subst Q;have T:=bB n.1;simp only[CE,T,show aB 0 3=Zb from rfl,show aB 0 2=Zb from rfl,show aB 0 1=Zb from rfl,show aB 0 5=Zb from rfl,zD]at a;obtain⟨z,a⟩:=aw a;have C:=te u p a;rw[<-mJ z,E it.i cK c.Z H]at C;obtain⟨vv,I,A,B,L,g4,M,N⟩:=C;obtain⟨_,P⟩:=aw N
   have s:au I (putO e (ba ops it.i).dst vv) ea:=by
    have D:=(p.frame B).putO (d:=(ba ops it.i).dst) M;obtain⟨t,U⟩:=Option.isSome_iff_exists.1 (F it.i cK)
    have:ea.putO (ba ops it.i).dst (vO ops it.i ea)=ea:=by
     funext q
     unfold vO;rw[U];show(if q=t then ea t else ea q)=ea q;by_cases h:q=t
     .subst h;rw[zE rfl]
     .rw[zF h]
    rw[this]at D;exact D
   obtain⟨J,K,l,V,W,X,k4,k5⟩:=Qy g h (λj w=>E j (bD _ w)) (by rw[A];exact H) (λj w=>F j (bD _ w)) L s P;exact⟨J,K,l,V.trans A,B.trans W,X,k4,k5⟩
theorem Rd {β:Type}{k:cm->ai->Option β}{y:β}{c0:Ctx}: ∀(r:List LItem) {f:Nat} {D:List Nat} {c:Ctx} {e:cm} {ea:cf} {chk:Fi} {ach:List (Nat×(Hp->Prop))},VB ops r f D=Za->Le c0 c->dv c->au c e ea->CE tab ops r chk e c.S k=O y->Cq (fA tab) (pc c0 k y) ops f D ach ea c.Z
 |[],0,D,c,e,ea,chk,ach,h,m,j,g,d=>⟨e,c,rfl,m,j,g,d⟩
 |[],f+1,D,c,e,ea,chk,ach,h,m,j,g,d=>by
  simp only[VB,aD]at h;simp only[Cq];cases b:dx ops D with
  |some i=>rw[b]at h;cases h.1
  |none=>
   cases u:bn ops D with
   |cons a l=>rw[u]at h;cases h.2
   |nil=>exact⟨e,c,rfl,m,j,g,d⟩
 |it::r,0,D,c,e,ea,chk,ach,h,m,j,g,d=>by cases h
 |it::r,f+1,D,c,e,ea,chk,ach,h,m,j,g,d=>by
  simp only[VB,aD]at h;obtain⟨⟨⟨F,H⟩,I⟩,J⟩:=h;have b:=Na H;obtain⟨p,L,o⟩:=O4 b;have K:=bB F;simp only[CE,K,show aB 0 3=Zb from rfl,show aB 0 2=Zb from rfl,show aB 0 1=Zb from rfl,show aB 0 5=Zb from rfl,zD]at d;obtain⟨_,d⟩:=aw d;have n:=te j g d;rw[<-mJ o]at n;simp only[Cq];rw[b];simp only[L,vI I,if_true];cases t:(ba ops it.i).op.run ea c.Z with
  |none=>rw[t]at n;exact n.elim
  |some q=>
   obtain⟨v,Z1⟩:=q;rw[t]at n;obtain⟨P,M,z,w,A,N,B,C⟩:=n;obtain⟨_,E⟩:=aw C;have s:Z1=c.Z:=uy o t;have:=Rd r (ach:=if(ba ops it.i).op.isLoad=Za then(it.i,λZ'=>(ba ops it.i).op.run ea Z'=O (v,Z'))::ach else ach) J (m.trans w) A ((g.frame w).putO B) E;rw[z,s]at this;exact this
theorem ER {m c:Nat}: ∀{g pre:List Nat},okG ops m c pre g=Za->∀i∈g,(ba ops i).dst.isSome=Za/\rF (ba ops i).dst (tw (ba ops m).op)=Za/\UD (ba ops i).dst (ba ops m).dst=Za/\rF (ba ops c).dst (ba ops i).op.reads=Za/\UD (ba ops c).dst (ba ops i).dst=Za
 |[],_,_,_,h=>by cases h
 |j::g,pre,a,i,h=>by
  simp only[okG,aD]at a;obtain⟨⟨⟨⟨⟨⟨⟨b,d⟩,f⟩,k⟩,l⟩,_⟩,_⟩,n⟩:=a;rcases List.mem_cons.1 h with rfl|h
  .exact⟨b,d,f,k,l⟩
  .exact ER n i h
theorem H6 {t:Nat}: ∀{g:List Nat},t∈th ops g->∃i∈g,(ba ops i).dst=O t
 |[],h=>by cases h
 |i::g,h=>by
  simp only[th]at h;rcases List.mem_append.1 h with h|h
  .cases a:(ba ops i).dst with
   |none=>rw[a]at h;cases h
   |some f=>
    rw[a]at h;rw[List.mem_singleton.1 h];exact⟨i,cK,a⟩
  .obtain⟨j,b,d⟩:=H6 h;exact⟨j,bD _ b,d⟩
theorem VX {β:Type}{k:cm->ai->Option β}{y:β}{ach:List (Nat×(Hp->Prop))}{ls nd D D1 g:List Nat}{a o:LItem}{r2 r3:List LItem}{pd:Nat->Nat}{f f1 m:Nat}{vf:Nat->Value}(h0:dv c0)
  (C:a.kind=1) (w:o.kind=2) (u:o.i=m) (hfr:pq (ba ops m).op=Za) (hF:oM (ba ops m).op ea x vf) (F:rF (ba ops m).dst (tw (ba ops m).op)=Za) (hgc:(ba ops a.i).guard.isNone=Za)
  (L:ls.all (λi=>sZ ops i m||kB i nd)=Za) (M:ls.all (λi=>sZ ops i a.i||kB i a.chks)=Za) (J:tn ops a.i Zb [m] [o]=Za) (H:okG ops m a.i [] g=Za) (hS:VA ops g f (m::D)=O (f1+1,D1)) (hns:dx ops D1=Y) (P:bn ops D1=[a.i]) (hL:Qx g r2=O r3) (hZ:VB ops r3 f1 (a.i::D1)=Za)
  (hI:InvL ops c0 c e ea ach chk [] ls nd [a,o] pd) (hcl: ∀t∈th ops g,ld e t= .undef) (I:TH ops c.Z.n x g (ea.putO (ba ops m).dst (vf c.Z.n))) (hz:CE tab ops (a::o::r2) chk e c.S k=O y):
  A3 ops m (c.Z.add x) ach/\Cq (fA tab) (pc c0 k y) ops f (m::D) ach (ea.putO (ba ops m).dst (vf c.Z.n)) (c.Z.add x):=by
 have r:=H1 hI (by simp) hfr hF (by simp[tn,C,w,u,show aB 1 2=Zb from rfl,show aB 2 2=Za from rfl]) F (by simp[C,w,u,show aB 1 2=Zb from rfl,show aB 2 2=Za from rfl]);have hx:(c.Z.add x).m c.Z.n=O x:=zE rfl;refine⟨pv r.K hI.nd λi s=> ?_,Qa (ach:=ach) (gl:=[]) hx g [] hS I H (λ_ h=>by cases h) (λ_ h=>by cases h) λA gl hf2 hgl l=> ?_⟩
 .rw[hI.ks]at s;have:=List.all_eq_true.1 L i s;rw[cD]at this;exact this
 .obtain⟨p,hp,hst⟩:=Lo (show a.i∈bn ops D1 by rw[P];simp);simp only[Cq];rw[hns];simp only[P,Kw,hp,vI hgc,if_true]
  have X:au ⟨c.μ,c.S,c.Z.add x,λb=>c.fb b∨b=c.Z.n⟩ e A:=by
   intro t;by_cases z:t∈th ops g
   .rw[hcl t z];exact .undef _
   .rw[l t z];exact r.E t
  have d:InvL ops c0 ⟨c.μ,c.S,c.Z.add x,λb=>c.fb b∨b=c.Z.n⟩ e A ach chk [m] ls nd [a,o] (λq=>if q=m then c.Z.n else pd q):=by
   refine⟨r.le,r.R,X,r.K,r.ks,r.nd,r.fb,r.nod,r.inj,r.new,λq U=> ?_,r.und,r.ds⟩;obtain⟨q1,x',vf',q2,q3,q4⟩:=r.pend q U;have N:=List.mem_singleton.1 U;refine⟨q1,x',vf',q2.same q1 λt z=>l t λhm=> ?_,q3,λt z=>(l t λhm=> ?_).trans (q4 t z)⟩
   .obtain⟨i,s,hd⟩:=H6 hm;rw[N]at z;exact Ie (ER H i s).2.1 t hd z
   .obtain⟨i,s,hd⟩:=H6 hm;rw[N]at z;exact UE (ER H i s).2.2.1 t hd z
  simp only[CE,C,show aB 1 3=Zb from rfl,show aB 1 2=Zb from rfl,show aB 1 1=Za from rfl,zD,zC]at hz;refine kC (br tab) (λv Z' hx'=> ?_) (te d.R d.E hz);obtain⟨vv,c4,g1,V,g3,g4,g5,g6⟩:=hx';obtain⟨W,g8⟩:=aw g6;rw[aD]at W;have hn:=d.K.next V g4
  subst g1;have hI4:=d.on J V g3 g5 hn d.ks W.2
  have Q:c4.Z.m c.Z.n=O x:=by
   refine V.un _ _ hx λho=> ?_
   obtain⟨j,hj1,hj2⟩:=ho;exact d.R.fbk j _ (lT hj1) hj2 (.inr rfl)
  refine⟨Ab.pv λi p hip hbf=> ?_, ?_⟩
  .rcases List.mem_append.1 hip with h|h
   .exact hgl _ h _ Q
   .refine Ab.EM (pv hn W.1 λi s=> ?_) i p h hbf;rw[d.ks]at s;have:=List.all_eq_true.1 M i s;rw[cD]at this;exact this
  .simp only[CE,w,show aB 2 3=Zb from rfl,show aB 2 2=Za from rfl,zD,zC]at g8;obtain⟨c5,e5,l1,T,l3,_⟩:=Lh (K:=λe' S'=>CE tab ops r2 _ e' S' k) h0 hI4 (by rw[w];rfl) (by rw[u];simp) g8;have hP:AW o.i [m]=[]:=by rw[u];simp[AW]
   rw[hP]at T
   have hfb:c5.fb=c0.fb:=by
    funext b
    refine propext ((T.fb b).trans ⟨λh=> ?_, .inl⟩);rcases h with h|⟨q,U,_⟩
    .exact h
    .cases U
   have hle:Le c0 c5:=by
    have:=T.le;rw[<-hfb]at this;exact this
   have hf4:FE ops c.Z.n x g (A.putO (ba ops a.i).dst v):=by
    refine Nc (λj B=>hf2 j (by simp[B])) (λj B=>(ER H j B).2.2.2.1) λj B=>(ER H j B).2.2.2.2
   obtain⟨c6,e6,chk6,k1,k2,k3,k4,k5⟩:=Qy g hL hf4 (by rw[l1];exact Q) (λj B=>(ER H j B).1) T.R T.E l3;have:=Rd r3 (ach:=gl++ach) hZ (hle.trans k2) k3 k4 k5;rw[k1,l1]at this;exact this
theorem KZ {β:Type}{c0:Ctx}{k:cm->ai->Option β}{y:β}(U:dv c0): ∀(f:Nat) {D P ls nd:List Nat} {r:List LItem} {c:Ctx} {e:cm} {ea:cf} {ach:List (Nat×(Hp->Prop))} {chk:Fi} {pd:Nat->Nat},MF ops f D P ls nd r=Za->InvL ops c0 c e ea ach chk P ls nd r pd->CE tab ops r chk e c.S k=O y->
  Cq (fA tab) (pc c0 k y) ops f D ach ea c.Z
 |0,D,P,ls,nd,r,c,e,ea,ach,chk,pd,h,s,T=>OQ U r h s T
 |f+1,D,P,ls,nd,r,c,e,ea,ach,chk,pd,h,s,T=>by
  simp only[MF]at h;simp only[Cq];cases hns:dx ops D with
  |some i=>
   rw[hns]at h;simp only[aD]at h⊢;obtain⟨hg,h⟩:=h;obtain⟨p,ho,J⟩:=O4 hns;rw[ho]
   have hw:wanted (ba ops i) ea=Za:=by
    unfold wanted;cases hgg:(ba ops i).guard with
    |none=>rfl
    |some q=>rw[hgg]at hg;cases hg
   simp only[hw,if_true];cases hs:Cm r P i with
   |none=>rw[hs]at h;cases h
   |some q=>
    obtain⟨P',it,r'⟩:=q;rw[hs]at h;simp only[aD]at h;obtain⟨⟨hk0,hd⟩,hc⟩:=h;obtain⟨c1,e1,A,B,h3,h4,h5,h6⟩:=Hj U r hs s T;subst h5;have u:aB it.kind 1=Zb:=by rw[bB hk0];rfl
    have hk3:aB it.kind 3=Zb:=by rw[bB hk0];rfl
    have hk5:aB it.kind 5=Zb:=by rw[bB hk0];rfl
    simp only[CE,h4,u,hk3,hk5,zD]at h3;obtain⟨_,h3⟩:=aw h3;have h7:=te B.R B.E h3;rw[<-mJ J,A]at h7;cases hr:(ba ops it.i).op.run ea c.Z with
    |none=>rw[hr]at h7;exact h7.elim
    |some q=>
     obtain⟨v,Z1⟩:=q;rw[hr]at h7;obtain⟨vv,c2,g1,W,g3,g4,g5,g6⟩:=h7;simp only
     have hdd:GI tab (ba ops it.i).op e1 c1.S=[]:=by
      cases hop:(ba ops it.i).op<;>rw[hop]at J<;>first|(cases J;done)|rfl
     have hZ1:Z1=c.Z:=uy J hr;obtain⟨L,g8⟩:=aw g6;have hn:=B.K.next W g4
     rw[hdd,yE]at hn
     have Q: ∀{C:List (Nat×(Hp->Prop))} {F:Fi} {ls':List Nat},ChkRel c2 C F->C.map (·.1)=ls'->pA it.need F=Za->CE tab ops r' F (putO e1 (ba ops it.i).dst vv) c2.S k=O y->MF ops f (it.i::D) P' ls' it.need r'=Za->
       Cq (fA tab) (pc c0 k y) ops f (it.i::D) C (ea.putO (ba ops it.i).dst v) c.Z:=by
      intro C F ls' q1 q2 q3 q4 q5;have:=KZ U f q5 (B.on hd W g3 g5 q1 q2 q3) q4;rw[g1,hZ1]at this;exact this
     cases hld:(ba ops it.i).op.isLoad with
     |false=>
      rw[hld]at L g8 hc;rw[zF (by decide)];exact Q hn B.ks L g8 hc
     |true=>
      rw[hld]at L g8 hc;rw[zE rfl];have hkp:=HG B.R B.E hld (by rw[A];exact hr);have hn2:=(ChkRel.cons (i:=it.i) (f:=λ_=>Zb) hkp (λ_ _ _ h=>by cases h) B.K).next W g4
      rw[hdd,yE]at hn2;exact Q hn2 (by rw[List.map_cons,B.ks];rfl) L g8 hc
  |none=>
   rw[hns]at h;simp only at h⊢;cases hgp:au7 r with
   |true=>
    rw[hgp,zC,aD]at h;obtain⟨X,hB⟩:=h
    obtain⟨it,w,g,r2,rfl⟩: ∃it w g r2,r=it::w::g::r2:=by
     match r,X with
     |it::w::g::r2,_=>exact⟨it,w,g,r2,rfl⟩
     |[],X=>cases X
     |[_],X=>cases X
     |[_,_],X=>cases X
    simp only[XA,aD]at X;obtain⟨⟨⟨⟨⟨⟨⟨⟨⟨⟨⟨⟨⟨⟨⟨a1,a2⟩,a3⟩,a4⟩,a5⟩,a6⟩,a7⟩,a8⟩,a9⟩,a10⟩,a11⟩,a12⟩,a13⟩,M⟩,a15⟩,V⟩:=X
    have hP:P=[]:=by
     cases P with
     |nil=>rfl
     |cons a l=>cases a1
    subst hP;have hk5:it.kind=5:=bB hgp;have u:=bB a2;have hkm:=bB a3;have N:=bB a4;simp only[CE,hk5,show aB 5 3=Zb from rfl,show aB 5 2=Zb from rfl,show aB 5 1=Zb from rfl,show aB 5 5=Za from rfl,zD,zC]at T;have hds:=s.ds;simp only[FA,aD]at hds
    have d:InvL ops c0 c (qd e (th ops it.chks)) ea ach chk [] ls nd (w::g::r2) pd:=by
     refine⟨s.le,s.R,λt=> ?_,s.K,s.ks,s.nd,s.fb,s.nod,s.inj,s.new,s.pend,λj hj hk t ht=> ?_,by simp only[FA,aD];exact hds.2⟩
     .rcases @xn (th ops it.chks) e t with A|⟨_,A⟩
      .rw[A];exact .undef _
      .rw[A];exact s.E t
     .rcases @xn (th ops it.chks) e t with A|⟨_,A⟩
      .exact A
      .rw[A];exact s.und j (bD _ hj) hk t ht
    have hI2:InvL ops c0 c (qd e (th ops it.chks)) ea ach chk [] ls nd [w,g] pd:=by
     refine⟨d.le,d.R,d.E,d.K,d.ks,d.nd,d.fb,d.nod,d.inj,d.new,d.pend,λj hj hk t ht=>d.und j (by simp only[cO,List.not_mem_nil,or_false]at hj⊢;rcases hj with h|h<;>simp[h]) hk t ht,by simp[FA,u,show aB 1 2=Zb from rfl]⟩
    have hcl: ∀t∈th ops it.chks,ld (qd e (th ops it.chks)) t= .undef:=by
     intro t ht;rcases @xn (th ops it.chks) e t with A|⟨A,_⟩
     .exact A
     .exact(A ht).elim
    obtain⟨_,_,_,x,vf,_,hFF⟩:=B6 d.E T;have hF:=hFF.run;have H:=H1 hI2 (by simp) a5 hF (by simp[tn,u,hkm,N,show aB 1 2=Zb from rfl,show aB 2 2=Za from rfl]) a9 (by simp[u,hkm,N,show aB 1 2=Zb from rfl,show aB 2 2=Za from rfl]);rw[<-N]at T H
    have hN3:InvL ops c0 ⟨c.μ,c.S,c.Z.add x,λb=>c.fb b∨b=c.Z.n⟩ (qd e (th ops it.chks)) (ea.putO (ba ops g.i).dst (vf c.Z.n)) ach chk [g.i] ls nd [g] (λq=>if q=g.i then c.Z.n else pd q):=
     ⟨H.le,H.R,H.E,H.K,H.ks,H.nd,H.fb,H.nod,H.inj,H.new,H.pend,λj hj hk t ht=>H.und j (bD _ hj) hk t ht,by simp[FA]⟩
    obtain⟨c3,e3,l1,l2,l3,l4,l5,_⟩:=Lh (K:=λe2 S2=>evG tab ops c.S.length it.chks e2 S2 (CE tab ops (w::g::r2) chk (qd e (th ops it.chks)) c.S k)) U hN3 (by rw[hkm];rfl) (by simp) T;obtain⟨hGrp,hz⟩:=XQ (b:=c.Z.n) (x:=x) (by rw[l4];simp) l5 (by rw[l1];exact zE rfl) it.chks (Le.refl c3) rfl l2.R l2.E l3;rw[N]at hGrp
    have hdst:tn ops w.i Zb [it.i] [g]=Za:=by
     simp only[tn,aD,List.all_cons]at M⊢;exact⟨M.1,M.2.1,rfl⟩
    cases I:bn ops D with
    |nil=>rw[I]at a10;cases a10
    |cons a l=>
     refine Oy λm hm=> ?_
     have hmem:m∈bn ops D:=by rw[I];exact hm
     obtain⟨p,ho,J⟩:=Lo hmem;have hor:=List.all_eq_true.1 a11 m hmem;rw[cD]at hor;rw[ho];rcases hor with hor|hor
     .have:=bB hor;subst this;simp only[vI a7,if_true];split at V
      .rename_i f1 D1 r3 hS hL;simp only[aD]at V;obtain⟨⟨b1,b2⟩,b3⟩:=V
       have hns1:dx ops D1=Y:=by
        cases h:dx ops D1 with
        |none=>rfl
        |some i=>rw[h]at b1;cases b1
       have hrm1:bn ops D1=[w.i]:=by
        split at b2
        .rename_i x hx;rw[hx,bB b2]
        .cases b2
       exact bw (hF c.Z) (VX U u hkm N a5 hF a9 a8 a12 a13 hdst a15 hS hns1 hrm1 hL b3 hI2 hcl hGrp hz)
      .cases V
     .have:=bB hor;subst this;simp only[vI a8,if_true];simp only[CE,u,show aB 1 3=Zb from rfl,show aB 1 2=Zb from rfl,show aB 1 1=Za from rfl,zD,zC]at hz;refine kC (br tab) (λv Z' hx'=> ?_) (te d.R d.E hz);obtain⟨vv,c2,g1,W,g3,g4,g5,g6⟩:=hx';obtain⟨L,g8⟩:=aw g6;rw[aD]at L;have hn:=d.K.next W g4
      subst g1
      have hd0:tn ops w.i Zb [] (g::r2)=Za:=by
       simp only[tn,aD]at M⊢;exact⟨rfl,M.2⟩
      refine⟨pv hn L.1 λi hi=> ?_,KZ U f hB (d.on hd0 W g3 g5 hn d.ks L.2) g8⟩;rw[d.ks]at hi;have:=List.all_eq_true.1 a13 i hi;rw[cD]at this;exact this
   |false=>
   rw[hgp,zD]at h
   have each: ∀{ms:List Nat},(∀m∈ms,m∈bn ops D)->(ms.all λm=>(ba ops m).guard.isNone&&cond (pq (ba ops m).op)
    (!kB m P&&r.any (λit=>aB it.kind 2&&aB it.i m)&&(Lb (ba ops m).op||K9 ops r m)&&tn ops m Za P r&&rF (ba ops m).dst (tw (ba ops m).op)&&ls.all (λi=>sZ ops i m||kB i nd)&&MF ops f (m::D) (m::P) ls nd r)
    (match Cm r P m with
    |some (P',it,r')=>aB it.kind 1&&tn ops m Zb P' r'&&ls.all (λi=>sZ ops i m||kB i it.chks)&&MF ops f (m::D) P' ls it.need r'
    |none=>Zb))=Za->Kw (λm=>match ops[m]? with
     |some (o,_)=>if wanted o ea then bu (fA tab) o.op ea c.Z λv Z'=>A3 ops m Z' ach/\Cq (fA tab) (pc c0 k y) ops f (m::D) ach (ea.putO o.dst v) Z'
      else Cq (fA tab) (pc c0 k y) ops f (m::D) ach (ea.putO o.dst undef) c.Z
     |none=>False) ms:=by
    intro ms hms hall;refine Oy λm hm=> ?_
    have h:=List.all_eq_true.1 hall m hm;simp only[aD]at h;obtain⟨hg,h⟩:=h;obtain⟨p,ho,J⟩:=Lo (hms m hm);rw[ho]
    have hw:wanted (ba ops m) ea=Za:=by
     unfold wanted;cases hgg:(ba ops m).guard with
     |none=>rfl
     |some q=>rw[hgg]at hg;cases hg
    simp only[hw,if_true];cases hfr:pq (ba ops m).op with
    |false=>
     rw[hfr,zD]at h;cases hs:Cm r P m with
     |none=>rw[hs]at h;cases h
     |some q=>
      obtain⟨P',it,r'⟩:=q;rw[hs]at h;simp only[aD]at h;obtain⟨⟨⟨u,hd⟩,hls⟩,hc⟩:=h;obtain⟨c1,e1,A,B,h3,h4,h5,h6⟩:=Hj U r hs s T;subst h5;have hk3:aB it.kind 3=Zb:=by rw[bB u];rfl
      simp only[CE,h4,u,hk3,zD,zC]at h3;have h7:=te B.R B.E h3;rw[A]at h7;refine kC (br tab) (λv Z' hx=> ?_) h7;obtain⟨vv,c2,g1,W,g3,g4,g5,g6⟩:=hx;obtain⟨L,g8⟩:=aw g6;rw[aD]at L;have hn:=B.K.next W g4
      subst g1;refine⟨pv hn L.1 λi hi=> ?_,KZ U f hc (B.on hd W g3 g5 hn B.ks L.2) g8⟩;rw[B.ks]at hi;have:=List.all_eq_true.1 hls i hi;rw[cD]at this;exact this
    |true=>
     rw[hfr,zC]at h;simp only[aD]at h;obtain⟨⟨⟨⟨⟨⟨hnm,hany⟩,hor⟩,hd⟩,hself⟩,hls⟩,hc⟩:=h;have hmP:m∉P:=λe=>by rw[jH.2 e]at hnm;cases hnm
     obtain⟨x,vf,hF⟩: ∃x vf,oM (ba ops m).op ea x vf:=by
      rw[cD]at hor;rcases hor with hor|hor
      .cases hop:(ba ops m).op<;>rw[hop]at hor<;>first|(cases hor;done)|skip
       case alloc es z=>exact⟨⟨z,Za,es⟩,λn=> .pointer (O ⟨n,0,Y⟩),λZ=>rfl⟩
      .obtain⟨x,vf,_,A⟩:=JV r hor s.E (λt _=>rfl) T;exact⟨x,vf,A⟩
     have d:=H1 s hmP hfr hF hd hself hany;refine bw (hF c.Z) ⟨pv d.K s.nd λi hi=> ?_, ?_⟩
     .rw[s.ks]at hi;have:=List.all_eq_true.1 hls i hi;rw[cD]at this;exact this
     .exact KZ U f hc d T
   cases I:bn ops D with
   |nil=>rw[I]at h;exact OQ U r h s T
   |cons a l=>
    rw[I]at h;exact each (λm hm=>by rw[I];exact hm) h
end
end
end Go.V
