/- A part of the proof. No condition. -/
import Derived.Test.YtgnojcajllcmoaaGreatDoorA5
import Derived.Test.YtgnojcajllcmoaaGreatDoorA3
import Derived.IntWalk
import Derived.KernelRfl
import Derived.WideKeyArr2
import Derived.RowKit
set_option linter.all false
namespace Go.V
open Go.Ab
open Option renaming some->O,none->Y
open Bool renaming true->Za,false->Zb
open Decidable renaming decide->Zc
open List renaming all_eq_true->bo
open List renaming length_eq_zero_iff->dl
open List renaming mem_append->cI
open List renaming mem_cons->bf
open List renaming mem_flatMap->cc
open List renaming mem_range->cJ
open List renaming mem_singleton->dy
open Option renaming isSome_iff_exists->eW
open List renaming length->ft
open Option renaming bind->gn
variable {c c' c0:Ctx}{ea ea':cx}{e:db}{f:FuncId}{op:AOp}{v:Value}{chk:H7}{vals:List Sk}{Z Z1:Hp}{x:Ab.Blk}{it:LItem}{fx:List Nat}{outs:List Alt}{at':AT}{objs:List OSk}{vs:List VV}{sk:rp}{tab:List FSum}
section
open Bool renaming and_eq_true->aD,or_eq_true->cK,false_or->cL,not_true->cM
open List renaming mem_cons_of_mem->cB,mem_cons->cN,mem_cons_self->cO,map_congr_left->cS
open Nat renaming beq->aB,eq_of_beq_eq_true->bB,lt_of_lt_of_le->bD,beq_refl->cD,le_of_ble_eq_true->cP,le_refl->cQ,le_trans->cR
def pT {β:Type}(c:Ctx)(k:db->ak->Option β)(y:β):cx->Hp->Prop:=λea Z'=> ∃a c',c'.Z=Z'/\Le c c'/\Rel c'/\ba c' a ea/\k a c'.S=O y
def pT.of {β:Type}{c1:Ctx}{k:db->ak->Option β}{y:β}(h:Le c c1){Z':Hp}(i:pT c1 k y ea Z'):pT c k y ea Z':=by
 have⟨a,c',b,d,g⟩:=i;exact⟨a,c',b,h.trans d,g⟩
def sf {β:Type}(c:Ctx)(k:AExit->db->ak->Option β)(y:β):AExit->cx->Hp->Prop:=λx=>pT c (k x) y
section
variable {β:Type} {tab:Tab} {y:β}
theorem ON : ∀{ops:List AOper} {c:Ctx} {e:db} {ea:cx} {k:db->ak->Option β},Rel c->ba c e ea->GB tab ops e c.S k=O y->Ab.BE (fY tab) (pT c k y) ops ea c.Z
 |[],c,e,ea,k,q,j,h=>⟨e,c,rfl,Le.refl c,q,j,h⟩
 |o::r,c,e,ea,k,q,j,h=>by
  have n: ∀b,ba c b ea->Li tab o.op b c.S (λv S'=>GB tab r (putO b o.dst v) S' k)=O y->cg (fY tab) o.op ea c.Z λv Z'=>Ab.BE (fY tab) (pT c k y) r (ea.putO o.dst v) Z':=by
   intro b a l;refine kU (bv tab) (λv Z' F=> ?_)<|vC q a l;have⟨I,c',B,z,C,_,D,E⟩:=F;subst B;exact Ab.E4 (bv tab) (λea' Z'' m=>m.of z) _ _ _ (ON C ((a.frame z).putO D) E)
  have skip: ∀b,ba c b ea->GB tab r (putO b o.dst<|.tup []) c.S k=O y->Ab.BE (fY tab) (pT c k y) r (ea.putO o.dst undef) c.Z:=λb a l=>ON q (a.putO<|.tup .nil) l
  simp only[GB]at h;simp only[Ab.BE];split at h
  .rename_i s;have:wanted o ea=Za:=by simp only[wanted,s]
   rw[zE this];exact n e j h
  .rename_i t w s;split at h
   .rename_i p m;have g:=j t;rw[m]at g;have g:=g.bool_inv;have H:wanted o ea=(p==w):=by simp only[wanted,s,g]
    have A:ba c (rf e t<|.bool p) ea:=by
     have:=j.put (d:=t)<|VRel.bool (c:=c) p;intro i;have l:=this i;unfold cx.put at l
     grind
    grind
   .rename_i m;have g:=j t;rw[m]at g
    have H:wanted o ea=Zb:=by
     simp only[wanted,s];generalize ea t=u at g;cases g;rfl
    grind
   .cases h
def au1 :Value->Option Nat
 | .pointer (O a)=>O a.block
 | .slice (O a) _ _=>O a.block
 |_=>Y
def FM :AOp->Operand
 | .load x| .loadN _ x| .sliceArr _ _ x _ _| .slice _ x _ _=>x
 |_=> .global 0
theorem Pb {Z':Hp}(p:op.isLoad=Za)(h:op.run ea Z=O (v,Z1))(d: ∀b,au1 (ea.ev<|FM op)=O b->Z'.m b=Z.m b):op.run ea Z'=O (v,Z'):=by
 cases op<;>try(cases p;done)
 case load x=>
  simp only[AOp.run,FM]at h d⊢;split at h
  .rename_i b o i;rw[i]at d;rw[d b rfl];split at h
   .rename_i g k;cases j:g.cells[o]? with
    |none=>rw[j]at h;cases h
    |some u=>
     grind
   cases h
  cases h
 case loadN n x=>
  simp only[AOp.run,FM]at h d⊢;split at h
  .rename_i b o i;rw[i]at d;rw[d b rfl];split at h
   .rename_i g k;cases j:rz g o n with
    |none=>rw[j]at h;cases h
    |some u=>
     grind
   cases h
  cases h
 case slice es x lo hi=>
  cases lo with
  |none=>cases p
  |some l=>
   simp only[AOp.run,FM]at h d⊢;split at h
   .rename_i a t q i;rw[i]at d
    have s:EI Z' es a (O l)=EI Z es a (O l):=by
     cases a with
     |none=>rfl
     |some a=>simp only[EI];rw[d a.block rfl]
    grind
   cases h
 case sliceArr es n x lo hi=>
  simp only[AOp.run,FM]at h d⊢;split at h
  .rename_i b o i;rw[i]at d;rw[d b rfl];split at h
   .rename_i g k;split at h
    .rename_i j;rw[zE j];split at h
     .split at h
      .split at h
       .rename_i r
        grind
       cases h
      cases h
     cases h
    cases h
   cases h
  cases h
def aC6 {q:Option Addr}(d:op.isLoad=Za)(a:ea.ev (FM op)= .slice q 0 0)(h:op.run ea Z=O (v,Z1))(Z':Hp):op.run ea Z'=O (v,Z'):=by
 cases op<;>try(cases d;done)
 case load x=>
  simp only[FM]at a;simp only[AOp.run,a]at h;cases h
 case loadN n x=>
  simp only[FM]at a;simp only[AOp.run,a]at h;cases h
 case slice es x lo hi=>
  simp only[FM]at a;simp only[AOp.run,a,beq_self_eq_true,Bool.true_or,if_true]at h⊢;split at h
  .split at h
   .injection h with h
    injection h with b g
    subst b;rfl
   cases h
  cases h
 case sliceArr es n x lo hi=>
  simp only[FM]at a;simp only[AOp.run,a]at h;cases h
structure LeV (c c':Ctx):Prop where
 len:ft c.S<=ft c'.S
 al: ∀k d,k<ft c.S->(ag c'.S k).dim=O d->(ag c.S k).dim=O d/\c'.μ k=c.μ k
 ln: ∀k d b y,k<ft c.S->(ag c'.S k).dim=O d->c.μ k=O b->c.Z.m b=O y->∃y',c'.Z.m b=O y'/\ft y'.cells=ft y.cells
 rd: ∀b y,c.Z.m b=O y->¬c.mut b->c'.Z.m b=O y/\¬c'.mut b
def LeV.trans {a b:Ctx}(h:LeV a b)(k:LeV b c):LeV a c:=by
 refine⟨cR h.len k.len,λq d g l=> ?_,λq d x y g l p n=> ?_,λx y n w=> ?_⟩
 .obtain⟨i,j⟩:=k.al q d (bD g h.len) l;have⟨o,m⟩:=h.al q d g i;exact⟨o,j.trans m⟩
 .obtain⟨i,j⟩:=k.al q d (bD g h.len) l;have⟨o,m⟩:=h.al q d g i;have⟨z,r,s⟩:=h.ln q d x y g i p n;have⟨A,t,u⟩:=k.ln q d x z (bD g h.len) l (m.trans p) r;exact⟨A,t,u.trans s⟩
 have⟨i,j⟩:=h.rd x y n w;exact k.rd x y i j
def Le.toV (h:Le c c'):LeV c c':=⟨h.len,h.al,h.ln,h.rd⟩
def LeV.refl (c:Ctx):LeV c c:=(Le.refl c).toV
def I7.frameV (h:LeV c c'){k lo n:Nat}{d:Nat×Nat}{a:Value}(m:k<ft c.S)(l:(ag c'.S k).dim=O d)(t:I7 c k lo n d a):I7 c' k lo n d a:=by
 have⟨A,j⟩:=h.al k d m l;rcases t with⟨rfl,rfl,rfl,g,w⟩|⟨b,o,y,rfl,g,p,q,u,r⟩
 .exact .inl ⟨rfl,rfl,rfl,j.trans g,w⟩
 have⟨z,i,s⟩:=h.ln k d b y m l g u;exact .inr ⟨b,o,z,rfl,j.trans g,p,q,i,by rw[s];exact r⟩
theorem VRel.frameV {c c':Ctx}(h:LeV c c'): ∀{v:VV} {a:Value},VRel c v a->VRel c' v a
 |_,_, .undef a=> .undef a
 |_,_, .bool b=> .bool b
 |_,_, .int k n=> .int k n
 |_,_, .str z=> .str z
 |_,_, .nilp=> .nilp
 |_,_, .nils=> .nils
 |_,_, .nilf=> .nilf
 |_,_, .ptr j g p=> .ptr (bD j h.len) g λd i=>by
  have⟨g,o⟩:=h.al _ d j i
  grind
 |_,_, .it j g z p=> .it (bD j h.len) g z λd i=>by
  have⟨g,o⟩:=h.al _ d j i
  grind
 |_,_, .bld j g p=> .bld (bD j h.len) g λd i=>by
  have⟨g,o⟩:=h.al _ d j i
  grind
 |_,_, .pix j g B p=> .pix (bD j h.len) g B λd i=>by
  have⟨g,o⟩:=h.al _ d j i
  grind
 |_,_, .pel j g p=> .pel (bD j h.len) g λd i=>by
  have⟨g,o⟩:=h.al _ d j i
  grind
 |_,_, .pin q r C t=> .pin (h.rd _ _ r q).2 (h.rd _ _ r q).1 C (go t)
 |_,_, .lstn w=> .lstn w
 |_,_, .tgtn w=> .tgtn w
 |_,_, .tgt q r u s t=> .tgt (h.rd _ _ r q).2 (h.rd _ _ r q).1 u s (go t)
 |_,_, .lst q r u g o s t=> .lst (h.rd _ _ r q).2 (h.rd _ _ r q).1 u g o s (go t)
 |_,_, .full j g p=> .full (bD j h.len) g λd i=>by
  have⟨g,o⟩:=h.al _ d j i;have⟨n,s,A⟩:=p d g;exact⟨n,s,A.frameV h j i⟩
 |_,_, .part j g p=> .part (bD j h.len) g λd i=>by
  have⟨g,o⟩:=h.al _ d j i;exact(p d g).frameV h j i
 |_,_, .fn g o=> .fn (go g) (go o)
 |_,_, .agg g=> .agg (go g)
 |_,_, .tup g=> .tup<|go g
where
 go: ∀{l:List VV} {m:List Value},F2 (VRel c) l m->F2 (VRel c') l m
  |_,_, .nil=> .nil
  |_,_, .cons g o=> .cons (VRel.frameV h g)<|go o
def VRel.framesV (h:LeV c c'){l:List VV}{m:List Value}(a:F2 (VRel c) l m):F2 (VRel c') l m:=a.imp λ_ _ b=>b.frameV h
def ba.frameV (h:ba c e ea)(a:LeV c c'):ba c' e ea:=λt=>(h t).frameV a
def UD (c:Ctx)(p:Hp->Prop)(f:ak->Bool):Prop:= ∀c',LeV c c'->Rel c'->f c'.S=Za->p c'.Z
def UD.next {p:Hp->Prop}{f:ak->Bool}(h:UD c p f)(d:LeV c c'):UD c' p f:=λa b=>h a<|d.trans b
def Ix (c:Ctx)(p:Hp->Prop):Option (Option Nat)->Prop
 |none=>True
 |some Y=>p c.Z/\∀Z',(∀b y,c.Z.m b=O y->¬c.mut b->Z'.m b=O y)->p Z'
 |some (O q)=>(ag c.S q).dim≠Y/\p c.Z/\∀Z',(∀b,c.μ q=O b->Z'.m b=c.Z.m b)->p Z'
inductive ChkRel (c:Ctx):List (Nat×(Hp->Prop))->H7->Prop where
 |nil:ChkRel c [] []
 |cons {i:Nat} {p:Hp->Prop} {s:Option<|Option Nat} {f:ak->Bool} {l:List<|Nat×(Hp->Prop)} {m:H7}:Ix c p s->UD c p f->ChkRel c l m->ChkRel c ((i,p)::l) ((i,s,f)::m)
def Ix.now {p:Hp->Prop}{s:Option Nat}(h:Ix c p<|O s):p c.Z:=by
 cases s with
 |none=>exact h.1
 |some q=>exact h.2.1
def Ix.next {p:Hp->Prop}{d:List Nat}(k:Le c c')(A:vN d c c'): ∀{s:Option<|Option Nat},Ix c p s->Ix c' p (match s with
  |some (O q)=>cond (lB q d) Y (O<|O q)
  |s=>s)
 |none,_=>trivial
 |some Y,h=>by
  refine⟨h.2 _ λb y n m=>(k.rd b y n m).1,λZ' j=>h.2 Z' λb y n m=> ?_⟩;have⟨a,o⟩:=k.rd b y n m;exact j b y a o
 |some (O q),h=>by
  cases i:lB q d with
  |true=>
   show Ix c' p<|cond (lB q d) Y<|O<|O q;rw[i];exact trivial
  |false=>
   show Ix c' p<|cond (lB q d) Y<|O<|O q;rw[i];have⟨a,o,r⟩:=h;have B:q∉d:=λe=>by rw[kT.2 e]at i;cases i
   have⟨t,u⟩:=A q (ll a) B a
   have l:c'.μ q=c.μ q:=by
    cases g:(ag c'.S q).dim with
    |none=>exact(t g).elim
    |some z=>exact(k.al q z (ll a) g).2
   exact⟨t,r _ u,λZ' j=>r Z' λb w=>by rw[j b (by rw[l];exact w),u b w]⟩
def ChkRel.next {c c':Ctx}{d:List Nat}(h:Le c c')(i:vN d c c'): ∀{l:List<|Nat×(Hp->Prop)} {m:H7},ChkRel c l m->ChkRel c' l (M7 d m)
 |_,_, .nil=> .nil
 |_,_, .cons (s:=s) j a k=>by
  have b:=j.next h i
  have g:=ChkRel.next h i k
  have a:=a.next h.toV
  cases s with
  |none=>exact .cons b a g
  |some s=>
   cases s with
   |none=>exact .cons b a g
   |some q=>exact .cons b a g
def BD : ∀m:H7,M7 [] m=m
 |[]=>rfl
 |(i,Y,_)::r=>by simp only[M7,BD r]
 |(i,O Y,_)::r=>by simp only[M7,BD r]
 |(i,O<|O q,_)::r=>by simp only[M7,BD r,lB,zD]
def EO {c:Ctx}{a:List Nat}(d:Rel c): ∀{l:List<|Nat×(Hp->Prop)} {m:H7},ChkRel c l m->Dv c.S a m=Za->Ai a c.Z l
 |_,_, .nil,_=>trivial
 |_,_, .cons (i:=i) (s:=s) (f:=f) k p g,h=>by
  simp only[Dv]at h;simp only[Ai]
  have n:a.contains i=lB i a:=by
   cases b:lB i a with
   |true=>simpa using kT.1 b
   |false=>
    cases o:a.contains i with
    |false=>rfl
    |true=>
     have:i∈a:=by simpa using o
     rw[kT.2 this]at b;cases b
  rw[n];cases b:lB i a with
  |false=>
   rw[b,zD]at h;rw[zF V5];exact EO d g h
  |true=>
   rw[b,zC]at h;rw[zE rfl];cases s with
   |none=>
    simp only at h;cases j:f c.S with
    |false=>rw[j]at h;cases h
    |true=>
     rw[j,zC]at h;exact⟨p c (LeV.refl c) d j,EO d g h⟩
   |some s=>exact⟨k.now,EO d g h⟩
def nu {T:Ab.iX}{e:cx}(a:op.still=Za){k:Value->Hp->Prop}:(match op.run e Z with
  |some (v,Z')=>k v Z'
  |none=>False)=cg T op e Z k:=by
 cases op<;>first|(cases a;done)|rfl
theorem XN {s t:ByteArray}(h:fc s=fc t):s=t:=by
 unfold fc at h;have d:=List.map_inj_right (λa b (h:((a.toNat:Nat):Int)=(b.toNat:Int))=>UInt8.toNat_inj.1<|Int.ofNat.inj h)|>.1 h
 obtain⟨⟨s⟩⟩:=s
 simp_all
def aQ0 {x y:VV}{a b:Value}(d:VRel c x a)(g:VRel c' y b)(h:bk6 x y=Za):a=b:=by
 cases d<;>cases g<;>simp only[bk6,aD,decide_eq_true_eq,Bool.false_eq_true]at h
 case bool.bool=>rw[h]
 case int.int=>rw[h.1,h.2]
 case str.str h1 _ _ h2=>rw[XN<|h1.trans<|h.trans h2.symm]
 all_goals rfl
def ap5 {tab:Tab}{j:VV}(n:ba c e ea)(i:op.still=Za)(p:VRel c0 j v):UD c (λZ'=>op.run ea Z'=O (v,Z'))<|TP tab op e j:=by
 intro c' o l h;unfold TP at h;split at h
 .rename_i b m;subst h;have a:=vC l (n.frameV o) m;rw[<-nu i]at a;show op.run ea c'.Z=O (v,c'.Z);cases g:op.run ea c'.Z with
  |none=>rw[g]at a;exact a.elim
  |some q=>
   have⟨A,Z1⟩:=q;rw[g]at a;have⟨r,s,t,u,w,z,k,d⟩:=a;injection d with d
   rw[wR i g,aQ0 p k d]
 cases h
theorem K1 (X:Rel c)(T:ba c e ea)(B:op.isLoad=Za)(h:op.run ea c.Z=O (v,Z1)):Ix c (λZ'=>op.run ea Z'=O (v,Z'))<|ai9 c.S op e:=by
 have w:=cm T<|FM op;have t:op.run ea c.Z=O (v,c.Z):=Pb B h λ_ _=>rfl
 have M:Ix c (λZ'=>op.run ea Z'=O (v,Z'))<|av4 c.S<|ev e<|FM op:=by
  generalize ev e (FM op)=P at*
  have a: ∀q,Bg P=O q->(∀b,au1 (ea.ev<|FM op)=O b->(ag c.S q).dim≠Y->c.μ q=O b)->Ix c (λZ'=>op.run ea Z'=O (v,Z')) (cond (ag c.S q).live (O<|O q) Y):=by
   intro q U g;cases I:(ag c.S q).live with
   |false=>trivial
   |true=>
    have⟨W,k⟩:=vF I;exact⟨by rw[k];simp,t,λZ' H=>Pb B h λb C=>H b<|g b C (by rw[k];simp)⟩
  have p:(∀b,au1 (ea.ev<|FM op)=O b->∃y,c.Z.m b=O y/\¬c.mut b)->Ix c (λZ'=>op.run ea Z'=O (v,Z')) (O Y):=by
   intro g;refine⟨t,λZ' H=>Pb B h λb C=> ?_⟩
   grind
  cases P<;>simp only[av4,Bg]<;>try exact trivial
  case ptr q o=>
   refine a q rfl λb g k=> ?_
   cases w with
   |ptr D E u=>
    cases j:(ag c.S q).dim with
    |none=>exact(k j).elim
    |some d=>
     have⟨A,z,r⟩:=u d j;rw[r]at g;cases g;exact z
  case it q l=>
   refine a q rfl λb g k=> ?_
   have⟨s,_,u⟩:=w.it_inv;cases j:(ag c.S q).dim with
   |none=>exact(k j).elim
   |some d=>
    have⟨A,z,r⟩:=u d j;rw[r]at g;cases g
  case bld q=>
   refine a q rfl λb g k=> ?_
   cases w with
   |bld _ _ u=>
   cases j:(ag c.S q).dim with
   |none=>exact(k j).elim
   |some d=>
    have⟨A,z,r⟩:=u d j;rw[r]at g;cases g
  case pix q o n i=>
   refine a q rfl λb g k=> ?_
   cases w with
   |pix D E hi u=>
    cases j:(ag c.S q).dim with
    |none=>exact(k j).elim
    |some d=>
     have⟨A,z,r⟩:=u d j;rw[r]at g;cases g;exact z
  case pel q i o=>
   refine a q rfl λb g k=> ?_
   cases w with
   |pel D E u=>
    cases j:(ag c.S q).dim with
    |none=>exact(k j).elim
    |some d=>
     have⟨A,z,r⟩:=u d j;rw[r]at g;cases g;exact z
  case full q=>
   refine a q rfl λb g k=> ?_
   cases w with
   |full D E u=>
    cases j:(ag c.S q).dim with
    |none=>exact(k j).elim
    |some d=>
     have⟨n,_,r⟩:=u d j;rcases r with⟨r,_⟩|⟨A,Q,V,r,F,_⟩
     .rw[r]at g;cases g
     rw[r]at g;cases g;exact F
  case part q lo n=>
   refine a q rfl λb g k=> ?_
   cases w with
   |part D E u=>
    cases j:(ag c.S q).dim with
    |none=>exact(k j).elim
    |some d=>
     rcases u d j with⟨r,_⟩|⟨A,Q,V,r,F,_⟩
     .rw[r]at g;cases g
     rw[r]at g;cases g;exact F
  case pin s x o=>
   refine p λb g=> ?_
   generalize ea.ev (FM op)=N at*;cases w with
   |pin J L B hf=>
    cases g;exact⟨_,L,J⟩
  case lst s l=>
   generalize K:ea.ev (FM op)=N at*;cases w with
   |lstn U=>
    refine⟨t,λZ' H=> ?_⟩;have:=aC6 B K h;exact this Z'
   |lst J L _ _ _ _ _=>
    refine p λb g=> ?_
    cases g;exact⟨_,L,J⟩
  case nils=>
   refine p λb g=> ?_
   generalize ea.ev (FM op)=N at*;cases w;cases g
 cases op<;>first|(cases B;done)|exact M
def al9 {it:SItem}{ach:List<|Nat×(Hp->Prop)}{k:H7->db->ak->Option β}(A:Rel c)(m:ba c e ea)(C:ChkRel c ach chk)(h:Lh tab it chk e c.S k=O y){Q:List (Nat×(Hp->Prop))->cx->Hp->Prop}
  (z: ∀c' b d e' ea',Le c c'->Rel c'->ChkRel c' b d->ba c' e' ea'->k d e' c'.S=O y->Q b ea' c'.Z):
  if it.mover then cg (fY tab) it.o.op ea c.Z (λv Z'=>Ai it.chks Z' ach/\Q ach (ea.putO it.o.dst v) Z')
  else match it.o.op.run ea c.Z with
   |some (v,_)=>Q (if it.keep then(it.idx,λZ'=>it.o.op.run ea Z'=O (v,Z'))::ach else ach) (ea.putO it.o.dst v) c.Z
   |none=>False:=by
 unfold Lh at h;cases J:it.mover with
 |true=>
  rw[J,zC]at h;rw[zE rfl];refine kU (bv tab) (λv Z' M=> ?_)<|vC A m h;have⟨K,c',j,n,a,s,t,l⟩:=M;subst j;obtain⟨g,l⟩:=az l;have q:=C.next n s
  exact⟨EO a q g,z c' ach _ _ _ n a q ((m.frame n).putO t) l⟩
 |false=>
  rw[J,zD]at h;rw[zF V5];have⟨g,L⟩:=az h;rw[aD]at g;have j:=vC A m L;rw[<-nu g.1]at j;cases w:it.o.op.run ea c.Z with
  |none=>rw[w]at j;exact j
  |some p=>
   have⟨v,Z1⟩:=p;rw[w]at j;have⟨K,c',n,a,s,t,l,u⟩:=j;simp only
   have I:JR tab it.o.op e c.S=[]:=by
    have:=g.1;cases H:it.o.op<;>rw[H]at this<;>first|(cases this;done)|rfl
   have q:=C.next a t
   rw[I,BD]at q;have B:Z1=c.Z:=wR g.1 w;rw[<-B,<-n];cases D:it.keep with
   |false=>
    simp only[D,zD]at u;rw[zF V5];exact z c' ach chk _ _ a s q ((m.frame a).putO l) u
   |true=>
    simp only[D,zC]at u;rw[zE rfl];have F:it.o.op.isLoad=Za:=by have:=g.2;rw[D]at this;simpa using this
    have E:=K1 A m F w;have r:=(ChkRel.cons (i:=it.idx) (f:=TP tab it.o.op e K) E (ap5 m g.1 l) C).next a t
    rw[I,BD]at r;exact z c' _ _ _ _ a s r ((m.frame a).putO l) u
end
def pS (op:AOp)(ea:cx)(x:Ab.Blk)(a:Nat->Value):Prop:= ∀Z:Hp,op.run ea Z=O (a Z.n,Z.add x)
def pS.unique {j:Ab.Blk}{i a:Nat->Value}(h:pS op ea x i)(k:pS op ea j a):x=j/\i=a:=by
 have d: ∀n,i n=a n/\x=j:=by
  intro n;have b:=h ⟨λ_=>Y,n⟩;rw[k ⟨λ_=>Y,n⟩]at b;injection b with b
  injection b with b l
  refine⟨b.symm, ?_⟩;have g:=congrArg (λs:Hp=>s.m n) l;simp only[Hp.add,if_true]at g;injection g with g
  exact g.symm
 exact⟨(d 0).2,funext λn=>(d n).1⟩
def Tr {x:Operand}(h: ∀t∈We x,ea' t=ea t):ea'.ev x=ea.ev x:=by
 cases x with
 |tmp t=>exact h t (by simp[We])
 |_=>rfl
def pS.same {i:Nat->Value}(h:pS op ea x i)(k:qE op=Za)(g: ∀t∈vI op,ea' t=ea t):pS op ea' x i:=by
 intro Z;have a:=h Z;cases op<;>first|(cases k;done)|skip
 case alloc es z=>exact a
 case makeSlice es bytes z l m=>
  have d:ea'.ev l=ea.ev l:=Tr λt b=>g t (by simp[vI,b])
  have j:ea'.ev m=ea.ev m:=Tr λt b=>g t (by simp[vI,b])
  simp only[AOp.run]at a⊢;rw[d,j];exact a
 case buildSlice es ln z ps=>
  have d:(ps.map λ(o,s,x)=>(o,s,ea'.ev x))=ps.map λ(o,s,x)=>(o,s,ea.ev x):=by
   apply cS;rintro⟨o,s,x⟩ n;simp only;rw[Tr λt b=>g t<|cc.2 ⟨_,n,b⟩]
  simp only[AOp.run]at a⊢;rw[d];exact a
def PF {c c':Ctx}: ∀{l:List VV} {m:List Value},l.all af2=Za->F2 (VRel c) l m->F2 (VRel c') l m
 |_,_,_, .nil=> .nil
 |v::l,_,h, .cons a b=>by
  rw[List.all_cons,aD]at h;refine .cons ?_ (PF h.2 b);cases a<;>first|(cases h.1;done)|skip
  .exact .bool _
  .exact .int _ _
  .exact .str ZW
structure FreshFact (op:AOp)(ea:cx)(blk:Blk)(w:Bool)(x:Ab.Blk)(vf:Nat->Value):Prop where
 run:pS op ea x vf
 fz:blk.frozen=Zb
 dm: ∃dm cs rest,blk.dim=O dm/\1<=dm.1/\x.es=dm.1/\x.own=Za/\x.cells=cs++rest/\∀c':Ctx,F2 (VRel c') blk.vals cs
 vv: ∀(c':Ctx) (k b:Nat),k<ft c'.S->ag c'.S k=blk->c'.μ k=O b->c'.Z.m b=O x->VRel c' (vvF w k) (vf b)
theorem EE {β:Type}{k:Blk->Bool->Option β}{y:β}(H:ba c e ea)(h:Bm op e k=O y):qE op=Za/\∃blk w x U,k blk w=O y/\FreshFact op ea blk w x U:=by
 cases op<;>simp only[Bm]at h<;>first|(cases h;done)|skip
 case alloc es z=>
  obtain⟨j,A⟩:=az h;have j:=cP j;refine⟨rfl,_,_,⟨z,Za,es⟩,λn=> .pointer<|O ⟨n,0,Y⟩,A,⟨λZ=>rfl,(Ac es z).2.1,⟨(es,z.length),z,[],(Ac es z).1,j,rfl,rfl,V2,λc'=>(Ac es z).2.2 c'⟩,λc' k b o M D E=> ?_⟩⟩;refine .ptr o rfl λd g=>⟨b,D,rfl⟩
 case makeSlice es bytes z l m=>
  have L:=cm H l;have D:=cm H m;split at h
  .rename_i W a X b s j A M;rw[j]at L;rw[A]at D;obtain⟨K,o⟩:=az h;simp only[aD]at K;obtain⟨⟨⟨⟨u,i⟩,t⟩,B⟩,C⟩:=K;have u:=bB u;have i:=of_decide_eq_true i;have t:=of_decide_eq_true t;have B:=of_decide_eq_true B;have C:=cP C;have N: ∀c':Ctx,F2 (VRel c') (ey s<|vJ s) z:=λc'=>DC (c:=c') M
   have I:z.length=s.w:=by rw[<-(N c).length,ff]
   have V:b<=bytes*b:=by
    have:(1:Int)*b<=bytes*b:=Int.mul_le_mul_of_nonneg_right V1 V1;omega
   refine⟨rfl,_,_,⟨fd z b.toNat,Za,es⟩,λn=> .slice (O ⟨n,0,Y⟩) a.toNat b.toNat,o,⟨λZ=> ?_,rfl,⟨(s.w,(List.replicate a.toNat<|vJ s).length*s.w),fd z a.toNat,fd z<|b.toNat-a.toNat,rfl,nA s,u,rfl, ?_,λc'=> ?_⟩,λc' k q o r p E=> ?_⟩⟩
   .simp only[AOp.run,L.int_inv,D.int_inv]
    grind
   .show fd z b.toNat=_;rw[<-R6]
    congr 1
    omega
   .show F2 (VRel c') (fZ s<|List.replicate a.toNat<|vJ s) (fd z a.toNat);rw[sV];generalize a.toNat=n;induction n with
    |zero=>exact .nil
    |succ n P=>
     simp only[fd,List.replicate_succ,List.flatten_cons]at P⊢;exact(N c').append P
   refine .full o rfl λd g=> ?_
   rw[r]at g;injection g with g
   subst g;refine⟨a.toNat,V2, .inr ⟨q,b.toNat,_,V2,p,V2,V1,E, ?_⟩⟩;rw[Nat.zero_add];show b.toNat*s.w<=(fd z b.toNat).length;rw[R8,I];exact cQ _
  cases h
 case buildSlice es ln z ps=>
  split at h
  .rename_i Q T;obtain⟨j,A⟩:=az h;simp only[aD]at j;obtain⟨⟨⟨⟨u,i⟩,t⟩,B⟩,C⟩:=j;have i:=bB i;have t:=cP t;obtain⟨J,S,F⟩:=Ag H ps T<|LN ln z;refine⟨C,_,_,⟨J,Za,es⟩,λn=> .slice (O ⟨n,0,Y⟩) ln ln,A,⟨λZ=> ?_,rfl,⟨(es,Q.length),J,[],rfl,t,rfl,rfl,V2,λc'=>PF B F⟩,λc' k q o r p E=> ?_⟩⟩
   .simp only[AOp.run,S];rw[zE<|kP F u]
   refine .full o rfl λd g=> ?_
   rw[r]at g;injection g with g
   subst g;refine⟨ln,i, .inr ⟨q,ln,_,V2,p,by simp[i],cQ _,E, ?_⟩⟩;rw[Nat.zero_add];show ln*es<=J.length;rw[<-F.length];exact Nat.le_of_eq i
  cases h
theorem rc {i q:Nat}: ∀{l:List Nat},l.Nodup->(q∈Dl i l↔q∈l/\q≠i)
 |[],_=>by simp[Dl]
 |a::r,h=>by
  have⟨j,d⟩:=List.nodup_cons.1 h;simp only[Dl];cases b:aB a i with
  |true=>
   have:=bB b
   grind
  |false=>
   have g:a≠i:=λe=>by subst e;rw[cD]at b;cases b
   rw[zD,cN,cN,rc d]
   grind
def Mh {i:Nat}: ∀{l:List Nat},l.Nodup->(Dl i l).Nodup
 |[],h=>h
 |a::r,h=>by
  have⟨d,b⟩:=List.nodup_cons.1 h;simp only[Dl];cases j:aB a i with
  |true=>exact b
  |false=>
   rw[zD,List.nodup_cons];exact⟨λg=>d ((rc b).1 g).1,Mh b⟩
def Aq : ∀{ts:List Nat} {e:db} {t:Nat},kC (rM e ts) t= .undef∨(t∉ts/\kC (rM e ts) t=kC e t)
 |[],e,t=> .inr ⟨V2,rfl⟩
 |a::ts,e,t=>by
  simp only[rM,yj];by_cases h:t=a
  .rw[zE h];exact .inl rfl
  .rw[zF h];rcases Aq (ts:=ts) (e:=e) (t:=t)with b|⟨b,d⟩
   .exact .inl b
   .exact .inr ⟨by simp[h,b],d⟩
section
variable {tab:Tab} {ops:List<|AOper×List Nat}
structure InvL (ops:List<|AOper×List Nat)(c0 c:Ctx)(e:db)(ea:cx)(ach:List<|Nat×(Hp->Prop))(chk:H7)(P ls nd:List Nat)(r:List LItem)(pd:Nat->Nat):Prop where
 le:Le c0 ⟨c.μ,c.S,c.Z,c0.fb⟩
 R:Rel c
 E:ba c e ea
 K:ChkRel c ach chk
 ks:ach.map (·.1)=ls
 nd:qI nd chk=Za
 fb: ∀b,c.fb b↔(c0.fb b∨∃q∈P,pd q=b)
 nod:P.Nodup
 inj: ∀q q',q∈P->q'∈P->pd q=pd q'->q=q'
 new: ∀q∈P,c0.Z.n<=pd q
 pend: ∀q∈P,qE (bg ops q).op=Za/\∃x vf,pS (bg ops q).op ea x vf/\c.Z.m (pd q)=O x/\∀t,(bg ops q).dst=O t->ea t=vf (pd q)
 und: ∀it∈r,aB it.kind 2=Za->∀t,(bg ops it.i).dst=O t->kC e t= .undef
 ds:Iq ops r=Za
theorem Ix.frameV {p:Hp->Prop}(u:Rel c)(A:LeV c c')(w: ∀q,q<ft c.S->ag c'.S q=ag c.S q)(k: ∀q,q<ft c.S->c'.μ q=c.μ q)(z: ∀b y,c.Z.m b=O y->c'.Z.m b=O y): ∀{s:Option<|Option Nat},Ix c p s->Ix c' p s
 |none,_=>trivial
 |some Y,h=>by
  refine⟨h.2 _ λb y l _=>z b y l,λZ' i=>h.2 Z' λb y l B=> ?_⟩;have⟨a,n⟩:=A.rd b y l B;exact i b y a n
 |some (O q),h=>by
  have⟨a,n,o⟩:=h;have t:=ll a
  have j: ∀b,c.μ q=O b->c'.Z.m b=c.Z.m b:=by
   intro b j;cases r:(ag c.S q).dim with
   |none=>exact(a r).elim
   |some d=>
    have⟨_,D⟩:=u.blk q d r
    grind
  exact⟨by rw[w q t];exact a,o _ j,λZ' C=>o Z' λb g=>(C b (by rw[k q t];exact g)).trans<|j b g⟩
def ChkRel.frameV (g:Rel c)(d:LeV c c')(h: ∀q,q<ft c.S->ag c'.S q=ag c.S q)(a: ∀q,q<ft c.S->c'.μ q=c.μ q)(i: ∀b y,c.Z.m b=O y->c'.Z.m b=O y): ∀{l:List<|Nat×(Hp->Prop)} {m:H7},ChkRel c l m->ChkRel c' l m
 |_,_, .nil=> .nil
 |_,_, .cons j n k=> .cons (j.frameV g d h a i) (n.next d)<|k.frameV g d h a i
theorem qG {c:Ctx}{m:Nat}{d:List Nat}: ∀{l:List<|Nat×(Hp->Prop)} {chk:H7},ChkRel c l chk->qI d chk=Za->(∀i∈l.map (·.1),vu ops i m=Za∨lB i d=Za)->Ds ops m c.Z l
 |_,_, .nil,_,_=>trivial
 |_,_, .cons (i:=i) (s:=s) k _ n,h,g=>by
  simp only[qI]at h;simp only[Ds];have a:qI d _=Za->Ds ops m c.Z _:=λh3=>qG n h3 λj o=>g j (by simp only[List.map_cons];exact cB _ o)
  cases b:vu ops i m with
  |true=>
   grind
  |false=>
   rw[zF V5];rcases g i V2 with h3|h3
   .rw[b]at h3;cases h3
   .rw[h3,zC]at h;cases s with
    |none=>cases h
    |some s=>exact⟨k.now,a h⟩
theorem O7 {β:Type}{ach:List<|Nat×(Hp->Prop)}{P ls nd:List Nat}{r:List LItem}{pd:Nat->Nat}{K:db->ak->Option β}{y:β}(h0:Rel c0)
  (g:InvL ops c0 c e ea ach chk P ls nd (it::r) pd) (hk:aB it.kind 2=Za) (hP:it.i∈P) (h:Bm (bg ops it.i).op e (λblk w=>K (putO e (bg ops it.i).dst<|vvF w<|ft c.S)<|c.S++[blk])=O y):
  ∃c' e',c'.Z=c.Z/\InvL ops c0 c' e' ea ach chk (Dl it.i P) ls nd r pd/\K e' c'.S=O y/\c'.μ (ft c.S)=O (pd it.i)/\ft c.S<ft c'.S/\∃vv,e'=putO e (bg ops it.i).dst vv:=by
 have⟨hfb,blk,w,x',vf',h1,h2⟩:=EE g.E h;have⟨_,x,vf,h3,h4,h5⟩:=g.pend _ hP;have⟨ex,ef⟩:=h2.run.unique h3;subst ex;subst ef;obtain⟨dm,cs,rest,d1,d2,d3,d4,d5,d6⟩:=h2.dm;have o:ft (c.S++[blk])=ft c.S+1:=by simp
 have T:=g.ds;simp only[Iq,aD]at T
 let b:=pd it.i
 let c':Ctx:=⟨λq=>if q=ft c.S then O b else c.μ q,c.S++[blk],c.Z,λq=>c0.fb q∨∃j∈Dl it.i P,pd j=q⟩
 have H:c.fb b:=(g.fb b).2<|.inr ⟨it.i,hP,rfl⟩;have C: ∀q,q<ft c.S->ag c'.S q=ag c.S q:=λq a=>nv a
 have p: ∀q,q<ft c.S->c'.μ q=c.μ q:=λq a=>zF (Nat.ne_of_lt a)
 have V:ag c'.S (ft c.S)=blk:=WV;have m:c'.μ (ft c.S)=O b:=zE rfl
 have F: ∀q,c'.fb q->c.fb q:=by
  rintro q (a|⟨j,N,rfl⟩)
  .exact(g.fb q).2 (.inl a)
  .exact(g.fb _).2 (.inr ⟨j,((rc g.nod).1 N).1,rfl⟩)
 have hbnot: ¬c'.fb b:=by
  rintro(a|⟨j,N,hjb⟩)
  .have:=h0.fbl _ a;have:=g.new _ hP;omega
  .obtain⟨B,L⟩:=(rc g.nod).1 N;exact L (g.inj _ _ B hP hjb)
 have Q: ∀q,c'.own q->c.own q∨q=b:=by
  rintro q ⟨j,B,L⟩;by_cases N:j<ft c.S
  .rw[C j N]at B;rw[p j N]at L;exact .inl ⟨j,B,L⟩
  .by_cases hj3:j=ft c.S
   .subst hj3
    grind
   .rw[yo (by show ft c'.S<=j;rw[o];omega)]at B;cases B
 have hV:LeV c c':=by
  refine⟨by rw[o];omega,λq d a l=> ?_,λq d z J a l hm D=>⟨J,D,rfl⟩,λz J D U=>⟨D,λhm=> ?_⟩⟩
  .rw[C q a]at l;exact⟨l,p q a⟩
  .rcases hm with hm|hm
   .rcases Q z hm with hm|hm
    .exact U (.inl hm)
    .subst hm;exact U (.inr H)
   .exact U (.inr<|F _ hm)
 have hR':Rel c':=by
  refine⟨g.R.ok,λq I z a k hm A=> ?_,λq d l=> ?_,λq z l hm=> ?_,λz hb'=>g.R.fbl _<|F _ hb'⟩
  .have u: ∀j,(ag c'.S j).dim≠Y->j<(ft c.S)∨j=ft c.S:=by
    intro j N;have:=ll N;rw[o]at this;omega
   rcases u q (mv a)with h6|h6
   .rcases u I k with h7|h7
    .rw[C q h6]at a;rw[C I h7]at k;rw[p q h6]at hm;rw[p I h7]at A;exact g.R.inj q I z a k hm A
    .subst h7;rw[m]at A;cases A;rw[p q h6]at hm;rw[C q h6]at a;exact(g.R.fbk q _ (mv a) hm H).elim
   .rcases u I k with h7|h7
    .subst h6;rw[m]at hm;cases hm;rw[p I h7]at A;rw[C I h7]at k;exact(g.R.fbk I _ k A H).elim
    .rw[h6,h7]
  .by_cases a:q<ft c.S
   .rw[C q a]at l⊢;have⟨h6,h7⟩:=g.R.blk q d l;refine⟨h6, ?_⟩;rcases h7 with⟨h7,h8⟩|⟨z,J,cs',W,h7,h8,h9,h10,h11,h12⟩
    .exact .inl ⟨h7,by rw[p q a];exact h8⟩
    .exact .inr ⟨z,J,cs',W,by rw[p q a];exact h7,h8,h9,h10,h11,VRel.framesV hV h12⟩
   .by_cases hq2:q=ft c.S
    .subst hq2
     grind
    .rw[yo (by show ft c'.S<=q;rw[o];omega)]at l;cases l
  .by_cases a:q<ft c.S
   .rw[C q a]at l;rw[p q a]at hm;exact λhf=>g.R.fbk q z l hm (F _ hf)
   .have:=ll l
    grind
 have hvv:VRel c' (vvF w<|ft c.S)<|vf' b:=h2.vv c' (ft c.S) b (by rw[o];omega) V m h4
 have hE':ba c' (putO e (bg ops it.i).dst<|vvF w<|ft c.S) ea:=by
  have hE:=g.E.frameV hV;cases l:(bg ops it.i).dst with
  |none=>exact hE
  |some t=>
   intro X;show VRel c' (kC (rf e t _) X)<|ea X;rw[yj];by_cases ht:X=t
   .subst ht;rw[zE rfl,h5 _ l];exact hvv
   .rw[zF ht];exact hE X
 refine⟨c',_,rfl,⟨?_,hR',hE',g.K.frameV g.R hV C p (λ_ _ D=>D),g.ks,g.nd,λq=>Iff.rfl,Mh g.nod,λq I a k=>g.inj q I ((rc g.nod).1 a).1 ((rc g.nod).1 k).1,λq a=>g.new q ((rc g.nod).1 a).1,λq a=>g.pend q ((rc g.nod).1 a).1, ?_,T.2⟩,h1,m,by rw[o];omega,_,rfl⟩
 .have s:=g.le;refine⟨cR s.len (by show ft c.S<=ft c'.S;rw[o];omega),λq d a l=> ?_,λq hf l=> ?_,λq d z J a l hm D=> ?_,λz J D U=>s.un z J D U,λz J D U ho=> ?_,s.n,rfl⟩
  .have k:q<ft c.S:=bD a s.len;have:=C q k;rw[show(⟨c'.μ,c'.S,c'.Z,c0.fb⟩:Ctx).S=c'.S from rfl,this]at l;have⟨h6,h7⟩:=s.al q d a l;exact⟨h6,(p q k).trans h7⟩
  .have k:q<ft c.S:=bD (ll l) s.len;exact(C q k).trans (s.fz q hf l)
  .have k:q<ft c.S:=bD a s.len;have:=C q k;rw[show(⟨c'.μ,c'.S,c'.Z,c0.fb⟩:Ctx).S=c'.S from rfl,this]at l;exact s.ln q d z J a l hm D
  .have ho':c'.own z:=ho;rcases Q z ho' with ho2|ho2
   .exact s.ow z J D U ho2
   .subst ho2;have:=h0.ok _ _ D;have:=g.new _ hP;omega
 .intro it' M hk' t ht;have hu:=g.und it' (cB _ M) hk' t ht;cases l:(bg ops it.i).dst with
  |none=>exact hu
  |some X=>
   show kC (rf e X _) t=_;rw[yj];by_cases htt:t=X
   .subst htt;have:=bo.1 T.1 it' M;rw[hk,hk']at this;simp only[cM,cL,neO,l,ht,cD]at this;cases this
   .rw[zF htt];exact hu
def ac6 {β:Type}{ach:List<|Nat×(Hp->Prop)}{P ls d:List Nat}{r:List LItem}{pd:Nat->Nat}{k:db->ak->Option β}{y:β}(g:Rel c0)
  (n:InvL ops c0 c e ea ach chk P ls d (it::r) pd) (a:aB it.kind 2=Za) (o:it.i∈P) (h:Ff tab ops (it::r) chk e c.S k=O y):
  ∃c' e',c'.Z=c.Z/\InvL ops c0 c' e' ea ach chk (Dl it.i P) ls d r pd/\Ff tab ops r chk e' c'.S k=O y:=by
 have b:aB it.kind 3=Zb:=by rw[bB a];rfl
 simp only[Ff,a,b,zC,zD]at h;obtain⟨c',e',j,l,m,_⟩:=O7 (K:=λe' S'=>Ff tab ops r chk e' S' k) g n a o h;exact⟨c',e',j,l,m⟩
def Wj {β:Type}{ach:List<|Nat×(Hp->Prop)}{P ls nd:List Nat}{r:List LItem}{pd:Nat->Nat}{k:db->ak->Option β}{y:β}
  (a:InvL ops c0 c e ea ach chk P ls nd (it::r) pd) (d:aB it.kind 3=Za) (h:Ff tab ops (it::r) chk e c.S k=O y):
  InvL ops c0 c e ea ach chk P ls nd r pd/\Ff tab ops r chk e c.S k=O y:=by
 simp only[Ff,d,zC]at h;have⟨_,_,_,_,_,g,_⟩:=EE a.E h;have b:=a.ds;simp only[Iq,aD]at b;exact⟨⟨a.le,a.R,a.E,a.K,a.ks,a.nd,a.fb,a.nod,a.inj,a.new,a.pend,λj i d t l=>a.und j (cB _ i) d t l,b.2⟩,g⟩
def Ky {β:Type}{c0:Ctx}{ea:cx}{ach:List<|Nat×(Hp->Prop)}{chk:H7}{ls w:List Nat}{pd:Nat->Nat}{k:db->ak->Option β}{y:β}{i:Nat}(n:Rel c0): ∀(r:List LItem) {P P':List Nat} {it:LItem} {j:List LItem} {c:Ctx} {e:db},EZ r P i=O (P',it,j)->
  InvL ops c0 c e ea ach chk P ls w r pd->Ff tab ops r chk e c.S k=O y->
  ∃c' e',c'.Z=c.Z/\InvL ops c0 c' e' ea ach chk P' ls w (it::j) pd/\Ff tab ops (it::j) chk e' c'.S k=O y/\aB it.kind 2=Zb/\it.i=i/\∀q∈P',q∈P
 |[],P,P',it,j,c,e,h,_,_=>by cases h
 |a::r,P,P',it,j,c,e,h,l,u=>by
  simp only[EZ]at h;cases b:aB a.kind 3 with
  |true=>
   rw[b,zC]at h;have⟨d,g⟩:=Wj l b u;exact Ky n r h d g
  |false=>
  rw[b,zD]at h;cases m:aB a.kind 2 with
  |false=>
   rw[m,zD]at h;cases p:aB a.i i with
   |false=>rw[p]at h;cases h
   |true=>
    rw[p,zC]at h;injection h with h
    injection h with d h
    injection h with g o
    subst d;subst g;subst o;exact⟨c,e,rfl,l,u,m,bB p,λq t=>t⟩
  |true=>
   rw[m,zC]at h;cases s:lB a.i P with
   |false=>rw[s]at h;cases h
   |true=>
    rw[s,zC]at h;have⟨I,J,d,g,o⟩:=ac6 n l m (kT.1 s) u;have⟨z,A,B,C,D,E,F,H⟩:=Ky n r h g o;exact⟨z,A,B.trans d,C,D,E,F,λq t=>((rc l.nod).1<|H q t).1⟩
theorem Ts {β:Type}{c0:Ctx}{ea:cx}{ach:List<|Nat×(Hp->Prop)}{chk:H7}{ls q:List Nat}{pd:Nat->Nat}{k:db->ak->Option β}{y:β}(j:Rel c0): ∀(r:List LItem) {P:List Nat} {c:Ctx} {e:db},X0 r P=Za->
  InvL ops c0 c e ea ach chk P ls q r pd->Ff tab ops r chk e c.S k=O y->pT c0 k y ea c.Z
 |[],P,c,e,h,d,i=>by
  have p:P=[]:=by
   cases P with
   |nil=>rfl
   |cons a r=>simp[X0]at h
  subst p
  have n:c.fb=c0.fb:=by
   funext b
   refine propext ((d.fb b).trans ⟨λh=> ?_, .inl⟩)
   grind
  refine⟨e,c,rfl, ?_,d.R,d.E,i⟩;have:=d.le;rw[<-n]at this;exact this
 |a::r,P,c,e,h,d,i=>by
  simp only[X0]at h;cases g:aB a.kind 3 with
  |true=>
   rw[g,zC]at h;have⟨l,m⟩:=Wj d g i;exact Ts j r h l m
  |false=>
  rw[g,zD]at h;simp only[aD]at h;have⟨s,t,l,m,o⟩:=ac6 j d h.1.1 (kT.1 h.1.2) i;rw[<-l];exact Ts j r h.2 m o
def Nk {β:Type}{c:Ctx}{ea:cx}{chk:H7}{k:db->ak->Option β}{y:β}{m:Nat}: ∀(r:List LItem) {e e':db} {S:ak},O0 ops r m=Za->ba c e ea->(∀t∈vI (bg ops m).op,kC e' t=kC e t)->Ff tab ops r chk e' S k=O y->∃x H,qE (bg ops m).op=Za/\pS (bg ops m).op ea x H
 |[],e,e',S,h,_,_,_=>by cases h
 |a::r,e,e',S,h,I,B,b=>by
  have u: ∀(W:VV),tI (bg ops a.i).dst (vI (bg ops m).op)=Za->∀t∈vI (bg ops m).op,kC (putO e' (bg ops a.i).dst W) t=kC e t:=by
   intro W p t U;rw[<-B t U];cases hd:(bg ops a.i).dst with
   |none=>rfl
   |some V=>
    show kC (rf e' V _) t=_;rw[yj];by_cases F:t=V
    .subst F;rw[hd]at p;simp only[tI]at p;rw[kT.2 U]at p;cases p
    .rw[zF F]
  have d: ∀{γ:Type} {Q:Blk->Bool->Option γ} {z:γ},Bm (bg ops m).op e' Q=O z->∃x H,qE (bg ops m).op=Za/\pS (bg ops m).op ea x H:=by
   intro γ Q z b
   have N:Bm (bg ops m).op e Q=O z:=by
    cases g:(bg ops m).op<;>rw[g]at b B<;>simp only[Bm]at b<;>first|(cases b;done)|skip
    case alloc es z=>exact b
    case makeSlice es bytes z l q=>
     have J:ev e' l=ev e l:=by
      cases l with
      |tmp t=>exact B t (by simp[vI,We])
      |_=>rfl
     have X:ev e' q=ev e q:=by
      cases q with
      |tmp t=>exact B t (by simp[vI,We])
      |_=>rfl
     rw[J,X]at b;exact b
    case buildSlice es ln z ps=>
     have J:CS e' ps=CS e ps:=by
      unfold CS;apply cS;rintro⟨o,s,x⟩ hx;simp only
      have:ev e' x=ev e x:=by
       cases x with
       |tmp t=>exact B t (cc.2 ⟨_,hx,by simp[We]⟩)
       |_=>rfl
      rw[this]
     rw[J]at b;exact b
   have⟨hf,A,w,x,H,_,C⟩:=EE I N;exact⟨x,H,hf,C.run⟩
  simp only[O0]at h;cases n:aB a.kind 3 with
  |true=>
   rw[n,zC,cK]at h;simp only[Ff,n,zC]at b;rcases h with h|h
   .rw[bB h]at b;exact d b
   .have j:Ff tab ops r chk e' S k=O y:=by
     cases g:(bg ops a.i).op<;>rw[g]at b<;>simp only[Bm]at b<;>first|(cases b;done)|skip
     case alloc es z=>exact(az b).2
     case makeSlice es bytes z l q=>
      split at b
      .exact(az b).2
      .cases b
     case buildSlice es ln z ps=>
      split at b
      .exact(az b).2
      .cases b
    exact Nk r h I B j
  |false=>
  rw[n,zD]at h;simp only[cK,aD]at h;rcases h with⟨D,h⟩|⟨⟨⟨D,E⟩,p⟩,C⟩
  .simp only[Ff,D,n,zC,zD]at b;by_cases T:a.i=m
   .rw[T]at b;exact d b
   .rcases h with h|⟨p,C⟩
    .exact(T<|bB h).elim
    .have j: ∃A w,Ff tab ops r chk (putO e' (bg ops a.i).dst<|vvF w<|ft S) (S++[A]) k=O y:=by
      cases g:(bg ops a.i).op<;>rw[g]at b<;>simp only[Bm]at b<;>first|(cases b;done)|skip
      case alloc es z=>exact⟨_,_,(az b).2⟩
      case makeSlice es bytes z l q=>
       split at b
       .exact⟨_,_,(az b).2⟩
       .cases b
      case buildSlice es ln z ps=>
       split at b
       .exact⟨_,_,(az b).2⟩
       .cases b
     have⟨A,w,P⟩:=j;exact Nk r C I (u _ p) P
  .have L:aB a.kind 2=Zb:=by rw[bB D];rfl
   have K:aB a.kind 1=Zb:=by rw[bB D];rfl
   have M:aB a.kind 5=Zb:=by rw[bB D];rfl
   simp only[Ff,L,K,n,M,zD]at b;obtain⟨_,b⟩:=az b;cases g:(bg ops a.i).op<;>rw[g]at E<;>first|(cases E;done)|skip
   case move x=>
    rw[g]at b;simp only[Li,AOp.isLoad,zD]at b;obtain⟨_,b⟩:=az b;exact Nk r C I (u _ p) b
def Te {F:Nat->Prop}: ∀{l:List Nat},(∀m∈l,F m)->N8 F l
 |[],_=>trivial
 |[m],h=>h m V2
 |m::b::r,h=>⟨h m V2,Te λq a=>h q<|cB _ a⟩
theorem TH {D:List Nat}{i:Nat}(h:eV ops D=O i): ∃p,ops[i]?=O (bg ops i,p)/\(bg ops i).op.still=Za:=by
 unfold eV at h;have a:=List.find?_some h;simp only[aD]at a;have b:=a.2;unfold EY at b;unfold bg
 grind
theorem Pf {D:List Nat}{m:Nat}(h:m∈bw ops D): ∃p,ops[m]?=O (bg ops m,p)/\(bg ops m).op.still=Zb:=by
 unfold bw at h;have⟨a,b⟩:=List.mem_filter.1 h;have a:=cJ.1 a;simp only[aD]at b;have d:=b.2;unfold EY at d;unfold bg
 grind
def ad9 {a:Nat}{g:Bool}{P:List Nat}{r:List LItem}(h:vG ops a g P r=Za){q:Nat}(i:q∈P):(∀t,(bg ops a).dst=O t->(bg ops q).dst≠O t)/\∀t,(bg ops a).dst=O t->t∉vI (bg ops q).op:=by
 simp only[vG,aD]at h;have b:=bo.1 h.1 q i;rw[aD]at b;refine⟨λt d e=> ?_,λt d j=> ?_⟩
 .have:=b.1;rw[d,e]at this;simp only[neO,cD]at this;cases this
 have:=b.2;rw[d]at this;simp only[tI]at this;rw[kT.2 j]at this;cases this
def aU3 {a:Nat}{b:Bool}{P:List Nat}{r:List LItem}(h:vG ops a b P r=Za)(g:it∈r)(l:aB it.kind 2=Za)(j:b=Za->it.i≠a){t:Nat}(m:(bg ops a).dst=O t):(bg ops it.i).dst≠O t:=by
 simp only[vG,aD]at h;have d:=bo.1 h.2 it g
 have k:(b&&aB it.i a)=Zb:=by
  cases b with
  |false=>rfl
  |true=>exact Bool.eq_false_iff.2 λe=>j rfl (bB e)
 rw[l,k]at d;intro e;rw[m,e]at d;simp only[cM,cL,neO,cD]at d;cases d
def Cd {d:Option Nat}{t:Nat}(h: ∀a,d=O a->t≠a):(ea.putO d v) t=ea t:=by
 cases d with
 |none=>rfl
 |some a=>exact zF<|h a rfl
def aG0 {d:Option Nat}{v:VV}{t:Nat}(h: ∀a,d=O a->t≠a):kC (putO e d v) t=kC e t:=by
 cases d with
 |none=>rfl
 |some a=>
  show kC (rf e a v) t=_;rw[yj,zF<|h a rfl]
def InvL.on {ach a:List<|Nat×(Hp->Prop)}{d:H7}{P ls p X s:List Nat}{r:List LItem}{pd:Nat->Nat}{i:Nat}{L:VV}
  (g:InvL ops c0 c e ea ach chk P ls X (it::r) pd) (H:vG ops i Zb P r=Za) (l:Le c c') (Q:Rel c') (U:VRel c' L v) (N:ChkRel c' a d) (C:a.map (·.1)=p) (D:qI s d=Za):
  InvL ops c0 c' (putO e (bg ops i).dst L) (ea.putO (bg ops i).dst v) a d P p s r pd:=by
 have o:=g.ds;simp only[Iq,aD]at o;refine⟨?_,Q,(g.E.frame l).putO U,N,C,D,λb=>by rw[l.fb];exact g.fb b,g.nod,g.inj,g.new,λq F=> ?_,λj J K t m=> ?_,o.2⟩
 .have w:=g.le;have z:Le ⟨c.μ,c.S,c.Z,c0.fb⟩ ⟨c'.μ,c'.S,c'.Z,c0.fb⟩:=⟨l.len,l.al,l.fz,l.ln,l.un,l.ow,l.n,rfl⟩;exact w.trans z
 .obtain⟨I,x,vf,w,z,M⟩:=g.pend q F;have⟨V,W⟩:=ad9 H F;refine⟨I,x,vf,w.same I λt m=>Cd λu k e=>W u k<|e▸m,l.un _ _ z λT=> ?_,λt m=> ?_⟩
  .obtain⟨j,A,B⟩:=T;exact g.R.fbk j _ (mv A) B ((g.fb _).2<|.inr ⟨q,F,rfl⟩)
  .rw[Cd λu k e=>V u k<|e▸m];exact M t m
 .rw[aG0 λu k e=>aU3 H J K (λh=>by cases h) k<|e▸m];exact g.und j (cB _ J) K t m
theorem Ln {ach:List<|Nat×(Hp->Prop)}{P ls nd:List Nat}{r:List LItem}{pd:Nat->Nat}{m:Nat}{U:Nat->Value}
  (a:InvL ops c0 c e ea ach chk P ls nd r pd) (p:m∉P) (L:qE (bg ops m).op=Za) (hF:pS (bg ops m).op ea x U) (hd:vG ops m Za P r=Za) (j:tI (bg ops m).dst (vI (bg ops m).op)=Za)
  (D:r.any (λit=>aB it.kind 2&&aB it.i m)=Za):
  InvL ops c0 ⟨c.μ,c.S,c.Z.add x,λb=>c.fb b∨b=c.Z.n⟩ e (ea.putO (bg ops m).dst<|U c.Z.n) ach chk (m::P) ls nd r (λq=>if q=m then c.Z.n else pd q):=by
 let c':Ctx:=⟨c.μ,c.S,c.Z.add x,λb=>c.fb b∨b=c.Z.n⟩
 have g: ∀b y,c.Z.m b=O y->(c.Z.add x).m b=O y:=by
  intro b y o;have:=a.R.ok b y o;simp only[Hp.add];rw[Zh];exact o
 have hV:LeV c c':=by
  refine⟨cQ _,λq d hq h=>⟨h,rfl⟩,λq d b y hq h hm o=>⟨y,g b y o,rfl⟩,λb y o W=>⟨g b y o,λhm=> ?_⟩⟩;rcases hm with hm|hm|hm
  .exact W (.inl hm)
  .exact W (.inr hm)
  .have:=a.R.ok b y o;omega
 have hR':Rel c':=by
  refine⟨λb y o=> ?_,a.R.inj,λq d h=> ?_,λq b h hm hf=> ?_,λb hb=> ?_⟩
  .simp only[c',Hp.add]at o⊢;split at o
   .omega
   .have:=a.R.ok b y o;omega
  .obtain⟨h6,k⟩:=a.R.blk q d h;refine⟨h6, ?_⟩;rcases k with k|⟨b',y',C,w,k,h8,h9,h10,h11,h12⟩
   .exact .inl k
   .exact .inr ⟨b',y',C,w,k,g _ _ h8,h9,h10,h11,VRel.framesV hV h12⟩
  .rcases hf with hf|hf
   .exact a.R.fbk q b h hm hf
   .subst hf;have H:(ag c.S q).dim≠Y:=h;cases F:(ag c.S q).dim with
    |none=>exact H F
    |some d=>
     have⟨_,k⟩:=a.R.blk q d F;have N:c.μ q=O c.Z.n:=hm;rcases k with⟨_,k⟩|⟨b',y',C,w,k,h8,_⟩
     .rw[N]at k;cases k
     .rw[N]at k;cases k;have:=a.R.ok _ _ h8;omega
  .show b<c.Z.n+1;rcases hb with hb|hb
   .have:=a.R.fbl b hb;omega
   .omega
 have hK':=a.K.frameV a.R hV (λ_ _=>rfl) (λ_ _=>rfl) g;refine⟨?_,hR', ?_,hK',a.ks,a.nd,λb=> ?_,List.nodup_cons.2 ⟨p,a.nod⟩,λq X hq Q B=> ?_,λq hq=> ?_,λq hq=> ?_,a.und,a.ds⟩
 .have l:=a.le;refine⟨l.len,l.al,l.fz,λq d b y hq h hm o=> ?_,λb y o W=>g _ _<|l.un b y o W,l.ow,cR l.n<|Nat.le_succ _,rfl⟩;have⟨y',q1,q2⟩:=l.ln q d b y hq h hm o;exact⟨y',g _ _ q1,q2⟩
 .have hE:=a.E.frameV hV;intro t;cases I:(bg ops m).dst with
  |none=>exact hE t
  |some A=>
   show VRel c' (kC e t) (if t=A then _ else ea t);by_cases T:t=A
   .subst T;rw[zE rfl];have⟨it,hit,s⟩:=List.any_eq_true.1 D;rw[aD]at s;have M:=bB s.2;subst M;rw[a.und it hit s.1 _ I];exact .undef _
   .rw[zF T];exact hE t
 .constructor
  .rintro(hb|hb)
   .rcases(a.fb b).1 hb with hb|⟨q,hq,hb⟩
    .exact .inl hb
    grind
   simp_all
  .rintro(hb|⟨q,hq,hb⟩)
   .exact .inl ((a.fb b).2<|.inl hb)
   .rcases bf.1 hq with rfl|hq
    .simp only[if_true]at hb;exact .inr hb.symm
    .have hb:(if q=m then c.Z.n else pd q)=b:=hb;rw[zF (λe:q=m=>p<|e▸hq)]at hb;exact .inl ((a.fb b).2<|.inr ⟨q,hq,hb⟩)
 .have hlt: ∀q∈P,pd q<c.Z.n:=λq hq=>a.R.fbl _ ((a.fb _).2<|.inr ⟨q,hq,rfl⟩)
  have B:(if q=m then c.Z.n else pd q)=if X=m then c.Z.n else pd X:=B
  rcases bf.1 hq with rfl|hq1
  .rcases bf.1 Q with rfl|hq2
   .rfl
   grind
  .rw[zF (λe:q=m=>p<|e▸hq1)]at B;rcases bf.1 Q with rfl|hq2
   .rw[zE rfl]at B;have:=hlt _ hq1;omega
   .rw[zF (λe:X=m=>p<|e▸hq2)]at B;exact a.inj q X hq1 hq2 B
 .show c0.Z.n<=(if q=m then c.Z.n else pd q);rcases bf.1 hq with rfl|hq
  .rw[zE rfl];exact a.le.n
  .rw[zF (λe:q=m=>p<|e▸hq)];exact a.new q hq
 .show qE (bg ops q).op=Za/\∃x1 V,pS (bg ops q).op (ea.putO (bg ops m).dst<|U c.Z.n) x1 V/\c'.Z.m (if q=m then c.Z.n else pd q)=O x1/\∀t,(bg ops q).dst=O t->ea.putO (bg ops m).dst (U c.Z.n) t=V (if q=m then c.Z.n else pd q)
  rcases bf.1 hq with rfl|hq
  .rw[zE rfl];refine⟨L,x,U,hF.same L λt z=>Cd λA u e=> ?_,zE rfl,λt z=> ?_⟩
   .subst e;rw[u]at j;simp only[tI]at j;rw[kT.2 z]at j;cases j
   .rw[z];exact zE rfl
  .rw[zF (λe:q=m=>p<|e▸hq)];have⟨J,x',vf',q1,q2,q3⟩:=a.pend q hq;have⟨k1,k2⟩:=ad9 hd hq;refine⟨J,x',vf',q1.same J λt z=>Cd λA u e=>k2 A u<|e▸z,g _ _ q2,λt z=> ?_⟩;rw[Cd λA u e=>k1 A u<|e▸z];exact q3 t z
def vO (ops:List<|AOper×List Nat)(j:Nat)(ea:cx):Value:=match(bg ops j).dst with
 |some t=>ea t
 |none=>undef
def Iw (ops:List<|AOper×List Nat)(b:Nat)(x:Ab.Blk)(l:List Nat)(ea:cx):Prop:= ∀j∈l,∀Z':Hp,Z'.m b=O x->(bg ops j).op.run ea Z'=O (vO ops j ea,Z')
def Y2 (ops:List<|AOper×List Nat)(b:Nat)(x:Ab.Blk):List Nat->cx->Prop
 |[],_=>True
 |i::g,ea=> ∃v,(∀Z':Hp,Z'.m b=O x->(bg ops i).op.run ea Z'=O (v,Z'))/\Y2 ops b x g (ea.putO (bg ops i).dst v)
def Rh {o:Option Nat}{i:Nat}(h:aP9 o i=Za):o=O i:=by
 cases o with
 |none=>cases h
 |some a=>rw[bB (h:aB a i=Za)]
theorem yu {o:AOper}(h:o.guard.isNone=Za):wanted o ea=Za:=by
 unfold wanted
 grind
def Lw {d:Option Nat}{l:List Nat}(h:tI d l=Za): ∀t,d=O t->t∉l:=by
 intro t b a;rw[b]at h;simp only[tI]at h;rw[kT.2 a]at h;cases h
def ad6 {d a:Option Nat}(h:neO d a=Za): ∀t,d=O t->a≠O t:=by
 intro t b e;rw[b,e]at h;simp only[neO,cD]at h;cases h
def Rj {b:Nat}{l:List Nat}{d:Option Nat}(h:Iw ops b x l ea)(n: ∀j∈l,tI d (bg ops j).op.reads=Za)(o: ∀j∈l,neO d (bg ops j).dst=Za):Iw ops b x l<|ea.putO d v:=by
 intro j g Z' p;have k:(bg ops j).op.run (ea.putO d v) Z'=(bg ops j).op.run ea Z':=DB λt r=>Cd λi a e=>Lw (n j g) i a (e▸r)
 have m:vO ops j (ea.putO d v)=vO ops j ea:=by
  unfold vO;cases q:(bg ops j).dst with
  |none=>rfl
  |some t=>exact Cd λi a e=>ad6 (o j g) i a (e▸q)
 rw[k,m];exact h j g Z' p
theorem az3 {β:Type}{n b:Nat}{x:Ab.Blk}{y:β}{z:Option β}{c1:Ctx}(U:c1.μ n=O b)(F:n<ft c1.S)(T:c1.Z.m b=O x): ∀(g:List Nat) {c:Ctx} {e:db} {ea:cx},Le c1 c->c.Z=c1.Z->Rel c->ba c e ea->evG tab ops n g e c.S z=O y->Y2 ops b x g ea/\z=O y
 |[],_,_,_,_,_,_,_,h=>⟨trivial,h⟩
 |i::g,c,e,ea,E,L,C,r,h=>by
  simp only[evG]at h;have⟨B,K⟩:=az h;rw[aD]at B;have⟨k,a⟩:=B;have o:=vC C r K;rw[<-nu k]at o;cases l:(bg ops i).op.run ea c.Z with
  |none=>rw[l]at o;exact o.elim
  |some q=>
   have⟨v,Z1⟩:=q;rw[l]at o;have⟨vv,c2,w,A,H,g4,I,J⟩:=o;have t:Z1=c.Z:=wR k l;rw[t]at w l;have⟨V,W⟩:=az3 U F T g (E.trans A) (w.trans L) H ((r.frame A).putO I) J;refine⟨⟨v,λZ' hs=> ?_,V⟩,W⟩;cases j:(bg ops i).op.isLoad with
   |false=>exact RY k j l Z'
   |true=>
    rw[j]at a;have D:=K1 C r j l;cases u:ai9 c.S (bg ops i).op e with
    |none=>rw[u]at a;cases a
    |some s=>
     cases s with
     |none=>rw[u]at a;cases a
     |some q=>
      rw[u]at a D
      have Q:q=n:=by
       simp only[cM,cL,bb5]at a;exact bB a
      subst Q;have⟨N,_,P⟩:=D;refine P Z' λX M=> ?_
      cases p:(ag c.S q).dim with
      |none=>exact(N p).elim
      |some d=>
       have⟨_,q2⟩:=E.al q d F p
       grind
theorem Vg {T:Ab.iX}{Q:cx->Hp->Prop}{ach:List<|Nat×(Hp->Prop)}{b m K:Nat}{x:Ab.Blk}{Z:Hp}(J:Z.m b=O x): ∀(g pre:List Nat) {f l:Nat} {D D2:List Nat} {ea:cx} {gl:List<|Nat×(Hp->Prop)},ak0 ops g f D=O (l,D2)->Y2 ops b x g ea->okG ops m K pre g=Za->Iw ops b x pre ea->(∀p∈gl,∀Z':Hp,Z'.m b=O x->p.2 Z')->
  (∀ea' a,Iw ops b x (g.reverse++pre) ea'->(∀p∈a,∀Z':Hp,Z'.m b=O x->p.2 Z')->(∀t,t∉vE ops g->ea' t=ea t)->E3 T Q ops l D2 (a++ach) ea' Z)->E3 T Q ops f D (gl++ach) ea Z
 |[],pre,f,l,D,D2,ea,gl,d,B,w,z,o,E=>by
  simp only[ak0]at d
  grind
 |i::g,pre,0,l,D,D2,ea,gl,d,B,w,z,o,E=>by cases d
 |i::g,pre,f+1,l,D,D2,ea,gl,d,B,w,z,o,E=>by
  simp only[ak0]at d;cases n:aP9 (eV ops D) i&&(bg ops i).guard.isNone with
  |false=>rw[n]at d;cases d
  |true=>
   rw[n,zC]at d;rw[aD]at n;have r:=Rh n.1;have⟨p,P,S⟩:=TH r;have⟨v,I,C⟩:=B;simp only[okG,aD]at w;have⟨⟨⟨⟨⟨⟨⟨X,o2⟩,o3⟩,o4⟩,o5⟩,o6⟩,o7⟩,o8⟩:=w;simp only[E3];rw[r];simp only[P,yu n.2,if_true,I Z J];have⟨t0,k⟩:=eW.1 X;have u:=bo.1 o6
   have A:Iw ops b x (i::pre)<|ea.putO (bg ops i).dst v:=by
    intro j hj;rcases bf.1 hj with rfl|hj
    .intro Z' N;have L:(bg ops j).op.run (ea.putO (bg ops j).dst v) Z'=(bg ops j).op.run ea Z':=DB λt s=>Cd λt' F e=>Lw (u j cO) t' F (e▸s)
     have M:vO ops j (ea.putO (bg ops j).dst v)=v:=by
      unfold vO;rw[k];exact zE rfl
     rw[L,M];exact I Z' N
    .exact Rj z (λj hj=>u j<|cB _ hj) (bo.1 o7) j hj
   have H: ∀h:List<|Nat×(Hp->Prop),(∀p∈h,∀Z':Hp,Z'.m b=O x->p.2 Z')->E3 T Q ops f (i::D) (h++ach) (ea.putO (bg ops i).dst v) Z:=by
    intro h q;refine Vg J g (i::pre) d C o8 A q λea' a U V W=>E ea' a (by rw[List.reverse_cons,List.append_assoc];exact U) V λt s=> ?_
    simp only[vE,k,List.mem_append,List.mem_singleton,not_or]at s;rw[W t s.2,k];exact zF s.1
   grind
theorem VI {β:Type}{b:Nat}{x:Ab.Blk}{k:db->ak->Option β}{y:β}{ea:cx}: ∀(g:List Nat) {r p:List LItem} {c:Ctx} {e:db} {chk:H7},VH g r=O p->Iw ops b x g ea->c.Z.m b=O x->(∀j∈g,(bg ops j).dst.isSome=Za)->Rel c->ba c e ea->Ff tab ops r chk e c.S k=O y->
  ∃c' e' l,c'.Z=c.Z/\Le c c'/\Rel c'/\ba c' e' ea/\Ff tab ops p l e' c'.S k=O y
 |[],r,p,c,e,chk,h,_,_,_,u,q,a=>by
  cases h;exact⟨c,e,chk,rfl,Le.refl c,u,q,a⟩
 |i::g,[],p,c,e,chk,h,_,_,_,_,_,_=>by cases h
 |i::g,it::r,p,c,e,chk,h,F,I,H,u,q,a=>by
  simp only[VH]at h;cases o:aB it.kind 0&&aB it.i i with
  |false=>rw[o]at h;cases h
  |true=>
   rw[o,zC]at h;rw[aD]at o;have T:=bB o.2;subst T;have U:=bB o.1;simp only[Ff,U,show aB 0 3=Zb from rfl,show aB 0 2=Zb from rfl,show aB 0 1=Zb from rfl,show aB 0 5=Zb from rfl,zD]at a;obtain⟨z,a⟩:=az a;have D:=vC u q a;rw[<-nu z,F it.i cO c.Z I]at D;have⟨vv,J,B,C,M,g4,N,P⟩:=D;have⟨_,Q⟩:=az P
   have s:ba J (putO e (bg ops it.i).dst vv) ea:=by
    have E:=(q.frame C).putO (d:=(bg ops it.i).dst) N;have⟨t,V⟩:=eW.1 (H it.i cO)
    have:ea.putO (bg ops it.i).dst (vO ops it.i ea)=ea:=by
     funext A
     unfold vO;rw[V];show(if A=t then ea t else ea A)=ea A
     grind
    rw[this]at E;exact E
   have⟨K,L,n,W,X,k3,k4,k5⟩:=VI g h (λj w=>F j<|cB _ w) (by rw[B];exact I) (λj w=>H j<|cB _ w) M s Q;exact⟨K,L,n,W.trans B,C.trans X,k3,k4,k5⟩
def WG {β:Type}{k:db->ak->Option β}{y:β}{c0:Ctx}: ∀(r:List LItem) {f:Nat} {D:List Nat} {c:Ctx} {e:db} {ea:cx} {chk:H7} {ach:List<|Nat×(Hp->Prop)},al1 ops r f D=Za->Le c0 c->Rel c->ba c e ea->Ff tab ops r chk e c.S k=O y->E3 (fY tab) (pT c0 k y) ops f D ach ea c.Z
 |[],0,D,c,e,ea,chk,ach,h,m,j,g,d=>⟨e,c,rfl,m,j,g,d⟩
 |[],f+1,D,c,e,ea,chk,ach,h,m,j,g,d=>by
  simp only[al1,aD]at h;simp only[E3];cases b:eV ops D with
  |some i=>rw[b]at h;cases h.1
  |none=>
   cases u:bw ops D with
   |cons a l=>rw[u]at h;cases h.2
   |nil=>exact⟨e,c,rfl,m,j,g,d⟩
 |it::r,0,D,c,e,ea,chk,ach,h,m,j,g,d=>by cases h
 |it::r,f+1,D,c,e,ea,chk,ach,h,m,j,g,d=>by
  simp only[al1,aD]at h;have⟨⟨⟨F,H⟩,I⟩,J⟩:=h;have b:=Rh H;have⟨p,L,o⟩:=TH b;have K:=bB F;simp only[Ff,K,show aB 0 3=Zb from rfl,show aB 0 2=Zb from rfl,show aB 0 1=Zb from rfl,show aB 0 5=Zb from rfl,zD]at d;obtain⟨_,d⟩:=az d;have n:=vC j g d;rw[<-nu o]at n;simp only[E3];rw[b];simp only[L,yu I,if_true];cases t:(bg ops it.i).op.run ea c.Z with
  |none=>rw[t]at n;exact n.elim
  |some q=>
   have⟨v,Z1⟩:=q;rw[t]at n;have⟨P,M,z,w,A,N,B,C⟩:=n;have⟨_,E⟩:=az C;have s:Z1=c.Z:=wR o t;have:=WG r (ach:=if(bg ops it.i).op.isLoad=Za then(it.i,λZ'=>(bg ops it.i).op.run ea Z'=O (v,Z'))::ach else ach) J (m.trans w) A ((g.frame w).putO B) E;rw[z,s]at this;exact this
def HI {m c:Nat}: ∀{g pre:List Nat},okG ops m c pre g=Za->∀i∈g,(bg ops i).dst.isSome=Za/\tI (bg ops i).dst (vI (bg ops m).op)=Za/\neO (bg ops i).dst (bg ops m).dst=Za/\tI (bg ops c).dst (bg ops i).op.reads=Za/\neO (bg ops c).dst (bg ops i).dst=Za
 |[],_,_,_,h=>by cases h
 |j::g,pre,a,i,h=>by
  simp only[okG,aD]at a;have⟨⟨⟨⟨⟨⟨⟨b,d⟩,k⟩,l⟩,n⟩,_⟩,_⟩,o⟩:=a;rcases bf.1 h with rfl|h
  .exact⟨b,d,k,l,n⟩
  .exact HI o i h
theorem Lp {t:Nat}: ∀{g:List Nat},t∈vE ops g->∃i∈g,(bg ops i).dst=O t
 |[],h=>by cases h
 |i::g,h=>by
  simp only[vE]at h;rcases cI.1 h with h|h
  .cases a:(bg ops i).dst with
   |none=>rw[a]at h;cases h
   |some k=>
    grind
  .obtain⟨j,b,d⟩:=Lp h
   grind
theorem an0 {β:Type}{k:db->ak->Option β}{y:β}{ach:List<|Nat×(Hp->Prop)}{ls nd D D1 g:List Nat}{a o:LItem}{r2 r3:List LItem}{pd:Nat->Nat}{f f1 m:Nat}{vf:Nat->Value}(h0:Rel c0)
  (C:a.kind=1) (u:o.kind=2) (s:o.i=m) (hfr:qE (bg ops m).op=Za) (hF:pS (bg ops m).op ea x vf) (F:tI (bg ops m).dst (vI (bg ops m).op)=Za) (hgc:(bg ops a.i).guard.isNone=Za)
  (hls1:ls.all (λi=>vu ops i m||lB i nd)=Za) (hls2:ls.all (λi=>vu ops i a.i||lB i a.chks)=Za) (J:vG ops a.i Zb [m] [o]=Za) (H:okG ops m a.i [] g=Za) (hS:ak0 ops g f (m::D)=O (f1+1,D1)) (hns:eV ops D1=Y) (M:bw ops D1=[a.i]) (hL:VH g r2=O r3) (hZ:al1 ops r3 f1 (a.i::D1)=Za)
  (V:InvL ops c0 c e ea ach chk [] ls nd [a,o] pd) (hcl: ∀t∈vE ops g,kC e t= .undef) (I:Y2 ops c.Z.n x g<|ea.putO (bg ops m).dst<|vf c.Z.n) (hz:Ff tab ops (a::o::r2) chk e c.S k=O y):
  Ds ops m (c.Z.add x) ach/\E3 (fY tab) (pT c0 k y) ops f (m::D) ach (ea.putO (bg ops m).dst<|vf c.Z.n) (c.Z.add x):=by
 have r:=Ln V V2 hfr hF (by simp[vG,C,u,s,show aB 1 2=Zb from rfl,show aB 2 2=Za from rfl]) F (by simp[C,u,s,show aB 1 2=Zb from rfl,show aB 2 2=Za from rfl]);have hx:(c.Z.add x).m c.Z.n=O x:=zE rfl;refine⟨qG r.K V.nd λi A=> ?_,Vg (ach:=ach) (gl:=[]) hx g [] hS I H (λ_ h=>by cases h) (λ_ h=>by cases h) λz gl hf2 hgl l=> ?_⟩
 .rw[V.ks]at A
  grind
 .obtain⟨p,hp,hst⟩:=Pf (show a.i∈bw ops D1 by rw[M];simp);simp only[E3];rw[hns];simp only[M,N8,hp,yu hgc,if_true]
  have U:ba ⟨c.μ,c.S,c.Z.add x,λb=>c.fb b∨b=c.Z.n⟩ e z:=by
   intro t;by_cases w:t∈vE ops g
   .rw[hcl t w];exact .undef _
   .rw[l t w];exact r.E t
  have d:InvL ops c0 ⟨c.μ,c.S,c.Z.add x,λb=>c.fb b∨b=c.Z.n⟩ e z ach chk [m] ls nd [a,o] (λq=>if q=m then c.Z.n else pd q):=by
   refine⟨r.le,r.R,U,r.K,r.ks,r.nd,r.fb,r.nod,r.inj,r.new,λq hq=> ?_,r.und,r.ds⟩;have⟨q1,x',vf',q2,q3,q4⟩:=r.pend q hq;have L:=dy.1 hq;refine⟨q1,x',vf',q2.same q1 λt w=>l t λhm=> ?_,q3,λt w=>(l t λhm=> ?_).trans<|q4 t w⟩
   .obtain⟨i,A,hd⟩:=Lp hm;rw[L]at w;exact Lw (HI H i A).2.1 t hd w
   .obtain⟨i,A,hd⟩:=Lp hm;rw[L]at w;exact ad6 (HI H i A).2.2.1 t hd w
  simp only[Ff,C,show aB 1 3=Zb from rfl,show aB 1 2=Zb from rfl,show aB 1 1=Za from rfl,zD,zC]at hz;refine kU (bv tab) (λv Z' hx'=> ?_)<|vC d.R d.E hz;have⟨vv,c4,g1,Q,g3,g4,g5,g6⟩:=hx';have⟨T,g8⟩:=az g6;rw[aD]at T;have hn:=d.K.next Q g4
  subst g1;have W:=d.on J Q g3 g5 hn d.ks T.2
  have N:c4.Z.m c.Z.n=O x:=by
   refine Q.un _ _ hx λho=> ?_
   have⟨j,hj1,hj2⟩:=ho;exact d.R.fbk j _ (mv hj1) hj2 (.inr rfl)
  refine⟨Ab.qG λi p hip X=> ?_, ?_⟩
  .rcases cI.1 hip with h|h
   .exact hgl _ h _ N
   .refine Ab.HE (qG hn T.1 λi A=> ?_) i p h X;rw[d.ks]at A
    grind
  .simp only[Ff,u,show aB 2 3=Zb from rfl,show aB 2 2=Za from rfl,zD,zC]at g8;have⟨c5,e5,l1,P,l3,_⟩:=O7 (K:=λe' S'=>Ff tab ops r2 _ e' S' k) h0 W (by rw[u];rfl) (by rw[s];simp) g8;have hP:Dl o.i [m]=[]:=by rw[s];simp[Dl]
   rw[hP]at P
   have hfb:c5.fb=c0.fb:=by
    funext b
    refine propext ((P.fb b).trans ⟨λh=> ?_, .inl⟩)
    simp_all
   have hle:Le c0 c5:=by
    have:=P.le;rw[<-hfb]at this;exact this
   have hf4:Iw ops c.Z.n x g<|z.putO (bg ops a.i).dst v:=by
    refine Rj (λj B=>hf2 j (by simp[B])) (λj B=>(HI H j B).2.2.2.1) λj B=>(HI H j B).2.2.2.2
   have⟨c6,e6,chk6,k1,k2,k3,k4,k5⟩:=VI g hL hf4 (by rw[l1];exact N) (λj B=>(HI H j B).1) P.R P.E l3;have:=WG r3 (ach:=gl++ach) hZ (hle.trans k2) k3 k4 k5;rw[k1,l1]at this;exact this
theorem OM {β:Type}{c0:Ctx}{k:db->ak->Option β}{y:β}(U:Rel c0): ∀(f:Nat) {D P ls nd:List Nat} {r:List LItem} {c:Ctx} {e:db} {ea:cx} {ach:List<|Nat×(Hp->Prop)} {chk:H7} {pd:Nat->Nat},QG ops f D P ls nd r=Za->InvL ops c0 c e ea ach chk P ls nd r pd->Ff tab ops r chk e c.S k=O y->
  E3 (fY tab) (pT c0 k y) ops f D ach ea c.Z
 |0,D,P,ls,nd,r,c,e,ea,ach,chk,pd,h,s,T=>Ts U r h s T
 |f+1,D,P,ls,nd,r,c,e,ea,ach,chk,pd,h,s,T=>by
  simp only[QG]at h;simp only[E3];cases hns:eV ops D with
  |some i=>
   rw[hns]at h;simp only[aD]at h⊢;obtain⟨hg,h⟩:=h;have⟨p,ho,J⟩:=TH hns;rw[ho]
   have hw:wanted (bg ops i) ea=Za:=by
    unfold wanted
    grind
   simp only[hw,if_true];cases hs:EZ r P i with
   |none=>rw[hs]at h;cases h
   |some q=>
    have⟨P',it,r'⟩:=q;rw[hs]at h;simp only[aD]at h;have⟨⟨hk0,hd⟩,hc⟩:=h;have⟨c1,e1,A,B,h3,h4,h5,h6⟩:=Ky U r hs s T;subst h5;have u:aB it.kind 1=Zb:=by rw[bB hk0];rfl
    have hk3:aB it.kind 3=Zb:=by rw[bB hk0];rfl
    have hk5:aB it.kind 5=Zb:=by rw[bB hk0];rfl
    simp only[Ff,h4,u,hk3,hk5,zD]at h3;obtain⟨_,h3⟩:=az h3;have h7:=vC B.R B.E h3;rw[<-nu J,A]at h7;cases hr:(bg ops it.i).op.run ea c.Z with
    |none=>rw[hr]at h7;exact h7.elim
    |some q=>
     have⟨v,Z1⟩:=q;rw[hr]at h7;have⟨vv,c2,g1,W,g3,g4,g5,g6⟩:=h7;simp only
     have hdd:JR tab (bg ops it.i).op e1 c1.S=[]:=by
      cases hop:(bg ops it.i).op<;>rw[hop]at J<;>first|(cases J;done)|rfl
     have hZ1:Z1=c.Z:=wR J hr;have⟨L,g8⟩:=az g6;have hn:=B.K.next W g4
     rw[hdd,BD]at hn
     have Q: ∀{C:List<|Nat×(Hp->Prop)} {F:H7} {ls':List Nat},ChkRel c2 C F->C.map (·.1)=ls'->qI it.need F=Za->Ff tab ops r' F (putO e1 (bg ops it.i).dst vv) c2.S k=O y->QG ops f (it.i::D) P' ls' it.need r'=Za->
       E3 (fY tab) (pT c0 k y) ops f (it.i::D) C (ea.putO (bg ops it.i).dst v) c.Z:=by
      intro C F ls' q1 q2 q3 q4 q5;have:=OM U f q5 (B.on hd W g3 g5 q1 q2 q3) q4;rw[g1,hZ1]at this;exact this
     cases hld:(bg ops it.i).op.isLoad with
     |false=>
      rw[hld]at L g8 hc;rw[zF V5];exact Q hn B.ks L g8 hc
     |true=>
      rw[hld]at L g8 hc;rw[zE rfl];have hkp:=K1 B.R B.E hld (by rw[A];exact hr);have hn2:=(ChkRel.cons (i:=it.i) (f:=λ_=>Zb) hkp (λ_ _ _ h=>by cases h) B.K).next W g4
      rw[hdd,BD]at hn2;exact Q hn2 (by rw[List.map_cons,B.ks];rfl) L g8 hc
  |none=>
   rw[hns]at h;simp only at h⊢;cases hgp:bc0 r with
   |true=>
    rw[hgp,zC,aD]at h;have⟨X,hB⟩:=h
    obtain⟨it,w,g,r2,rfl⟩: ∃it w g r2,r=it::w::g::r2:=by
     match r,X with
     |it::w::g::r2,_=>exact⟨it,w,g,r2,rfl⟩
     |[],X=>cases X
     |[_],X=>cases X
     |[_,_],X=>cases X
    simp only[ax5,aD]at X;have⟨⟨⟨⟨⟨⟨⟨⟨⟨⟨⟨⟨⟨⟨⟨a1,a2⟩,a3⟩,a4⟩,a5⟩,a6⟩,a7⟩,a8⟩,a9⟩,a10⟩,a11⟩,a12⟩,a13⟩,M⟩,a15⟩,V⟩:=X
    have hP:P=[]:=by
     grind
    subst hP;have hk5:it.kind=5:=bB hgp;have u:=bB a2;have hkm:=bB a3;have N:=bB a4;simp only[Ff,hk5,show aB 5 3=Zb from rfl,show aB 5 2=Zb from rfl,show aB 5 1=Zb from rfl,show aB 5 5=Za from rfl,zD,zC]at T;have hds:=s.ds;simp only[Iq,aD]at hds
    have d:InvL ops c0 c (rM e<|vE ops it.chks) ea ach chk [] ls nd (w::g::r2) pd:=by
     refine⟨s.le,s.R,λt=> ?_,s.K,s.ks,s.nd,s.fb,s.nod,s.inj,s.new,s.pend,λj hj hk t ht=> ?_,by simp only[Iq,aD];exact hds.2⟩
     .rcases @Aq (vE ops it.chks) e t with A|⟨_,A⟩
      .rw[A];exact .undef _
      .rw[A];exact s.E t
     .rcases @Aq (vE ops it.chks) e t with A|⟨_,A⟩
      .exact A
      .rw[A];exact s.und j (cB _ hj) hk t ht
    have hI2:InvL ops c0 c (rM e<|vE ops it.chks) ea ach chk [] ls nd [w,g] pd:=by
     refine⟨d.le,d.R,d.E,d.K,d.ks,d.nd,d.fb,d.nod,d.inj,d.new,d.pend,λj hj hk t ht=>d.und j (by simp only[cN,List.not_mem_nil,or_false]at hj⊢;rcases hj with h|h<;>simp[h]) hk t ht,by simp[Iq,u,show aB 1 2=Zb from rfl]⟩
    have hcl: ∀t∈vE ops it.chks,kC (rM e<|vE ops it.chks) t= .undef:=by
     intro t ht;rcases @Aq (vE ops it.chks) e t with A|⟨A,_⟩
     .exact A
     .exact(A ht).elim
    have⟨_,_,_,x,vf,_,hFF⟩:=EE d.E T;have hF:=hFF.run;have H:=Ln hI2 V2 a5 hF (by simp[vG,u,hkm,N,show aB 1 2=Zb from rfl,show aB 2 2=Za from rfl]) a9 (by simp[u,hkm,N,show aB 1 2=Zb from rfl,show aB 2 2=Za from rfl]);rw[<-N]at T H
    have hN3:InvL ops c0 ⟨c.μ,c.S,c.Z.add x,λb=>c.fb b∨b=c.Z.n⟩ (rM e<|vE ops it.chks) (ea.putO (bg ops g.i).dst<|vf c.Z.n) ach chk [g.i] ls nd [g] (λq=>if q=g.i then c.Z.n else pd q):=
     ⟨H.le,H.R,H.E,H.K,H.ks,H.nd,H.fb,H.nod,H.inj,H.new,H.pend,λj hj hk t ht=>H.und j (cB _ hj) hk t ht,by simp[Iq]⟩
    have⟨c3,e3,l1,l2,l3,l4,l5,_⟩:=O7 (K:=λe2 S2=>evG tab ops (ft c.S) it.chks e2 S2<|Ff tab ops (w::g::r2) chk (rM e<|vE ops it.chks) c.S k) U hN3 (by rw[hkm];rfl) V2 T;have⟨hGrp,hz⟩:=az3 (b:=c.Z.n) (x:=x) (by rw[l4];simp) l5 (by rw[l1];exact zE rfl) it.chks (Le.refl c3) rfl l2.R l2.E l3;rw[N]at hGrp
    have hdst:vG ops w.i Zb [it.i] [g]=Za:=by
     simp only[vG,aD,List.all_cons]at M⊢;exact⟨M.1,M.2.1,rfl⟩
    cases I:bw ops D with
    |nil=>rw[I]at a10;cases a10
    |cons a l=>
     refine Te λm hm=> ?_
     have hmem:m∈bw ops D:=by rw[I];exact hm
     have⟨p,ho,J⟩:=Pf hmem;have hor:=bo.1 a11 m hmem;rw[cK]at hor;rw[ho];rcases hor with hor|hor
     .have:=bB hor;subst this;simp only[yu a7,if_true];split at V
      .rename_i f1 D1 r3 hS hL;simp only[aD]at V;have⟨⟨b1,b2⟩,b3⟩:=V
       have hns1:eV ops D1=Y:=by
        cases h:eV ops D1 with
        |none=>rfl
        |some i=>rw[h]at b1;cases b1
       have hrm1:bw ops D1=[w.i]:=by
        split at b2
        .rename_i x hx;rw[hx,bB b2]
        .cases b2
       exact cy (hF c.Z) (an0 U u hkm N a5 hF a9 a8 a12 a13 hdst a15 hS hns1 hrm1 hL b3 hI2 hcl hGrp hz)
      .cases V
     .have:=bB hor;subst this;simp only[yu a8,if_true];simp only[Ff,u,show aB 1 3=Zb from rfl,show aB 1 2=Zb from rfl,show aB 1 1=Za from rfl,zD,zC]at hz;refine kU (bv tab) (λv Z' hx'=> ?_)<|vC d.R d.E hz;have⟨vv,c2,g1,W,g3,g4,g5,g6⟩:=hx';have⟨L,g8⟩:=az g6;rw[aD]at L;have hn:=d.K.next W g4
      subst g1
      have hd0:vG ops w.i Zb [] (g::r2)=Za:=by
       simp only[vG,aD]at M⊢;exact⟨rfl,M.2⟩
      refine⟨qG hn L.1 λi hi=> ?_,OM U f hB (d.on hd0 W g3 g5 hn d.ks L.2) g8⟩;rw[d.ks]at hi;have:=bo.1 a13 i hi
      grind
   |false=>
   rw[hgp,zD]at h
   have each: ∀{ms:List Nat},(∀m∈ms,m∈bw ops D)->(ms.all λm=>(bg ops m).guard.isNone&&cond (qE (bg ops m).op)
    (!lB m P&&r.any (λit=>aB it.kind 2&&aB it.i m)&&(O2 (bg ops m).op||O0 ops r m)&&vG ops m Za P r&&tI (bg ops m).dst (vI (bg ops m).op)&&ls.all (λi=>vu ops i m||lB i nd)&&QG ops f (m::D) (m::P) ls nd r)
    (match EZ r P m with
    |some (P',it,r')=>aB it.kind 1&&vG ops m Zb P' r'&&ls.all (λi=>vu ops i m||lB i it.chks)&&QG ops f (m::D) P' ls it.need r'
    |none=>Zb))=Za->N8 (λm=>match ops[m]? with
     |some (o,_)=>if wanted o ea then cg (fY tab) o.op ea c.Z λv Z'=>Ds ops m Z' ach/\E3 (fY tab) (pT c0 k y) ops f (m::D) ach (ea.putO o.dst v) Z'
      else E3 (fY tab) (pT c0 k y) ops f (m::D) ach (ea.putO o.dst undef) c.Z
     |none=>False) ms:=by
    intro ms hms hall;refine Te λm hm=> ?_
    have h:=bo.1 hall m hm;simp only[aD]at h;obtain⟨hg,h⟩:=h;have⟨p,ho,J⟩:=Pf<|hms m hm;rw[ho]
    have hw:wanted (bg ops m) ea=Za:=by
     unfold wanted
     grind
    simp only[hw,if_true];cases hfr:qE (bg ops m).op with
    |false=>
     rw[hfr,zD]at h;cases hs:EZ r P m with
     |none=>rw[hs]at h;cases h
     |some q=>
      have⟨P',it,r'⟩:=q;rw[hs]at h;simp only[aD]at h;have⟨⟨⟨u,hd⟩,hls⟩,hc⟩:=h;have⟨c1,e1,A,B,h3,h4,h5,h6⟩:=Ky U r hs s T;subst h5;have hk3:aB it.kind 3=Zb:=by rw[bB u];rfl
      simp only[Ff,h4,u,hk3,zD,zC]at h3;have h7:=vC B.R B.E h3;rw[A]at h7;refine kU (bv tab) (λv Z' hx=> ?_) h7;have⟨vv,c2,g1,W,g3,g4,g5,g6⟩:=hx;have⟨L,g8⟩:=az g6;rw[aD]at L;have hn:=B.K.next W g4
      subst g1;refine⟨qG hn L.1 λi hi=> ?_,OM U f hc (B.on hd W g3 g5 hn B.ks L.2) g8⟩;rw[B.ks]at hi
      simp_all
    |true=>
     rw[hfr,zC]at h;simp only[aD]at h;have⟨⟨⟨⟨⟨⟨hnm,hany⟩,hor⟩,hd⟩,hself⟩,hls⟩,hc⟩:=h;have hmP:m∉P:=λe=>by rw[kT.2 e]at hnm;cases hnm
     obtain⟨x,vf,hF⟩: ∃x vf,pS (bg ops m).op ea x vf:=by
      rw[cK]at hor;rcases hor with hor|hor
      .cases hop:(bg ops m).op<;>rw[hop]at hor<;>first|(cases hor;done)|skip
       case alloc es z=>exact⟨⟨z,Za,es⟩,λn=> .pointer<|O ⟨n,0,Y⟩,λZ=>rfl⟩
      .obtain⟨x,vf,_,A⟩:=Nk r hor s.E (λt _=>rfl) T;exact⟨x,vf,A⟩
     have d:=Ln s hmP hfr hF hd hself hany;refine cy (hF c.Z) ⟨qG d.K s.nd λi hi=> ?_, ?_⟩
     .rw[s.ks]at hi
      grind
     .exact OM U f hc d T
   cases I:bw ops D with
   |nil=>rw[I]at h;exact Ts U r h s T
   |cons a l=>
    rw[I]at h;exact each (λm hm=>by rw[I];exact hm) h
end
end
section
open Bool renaming and_eq_true->aB
open List renaming mem_cons_self->aD,mem_cons_of_mem->bD,mem_of_getElem?->cB
open Nat renaming zero_add->bB,eq_of_beq_eq_true->cD
section
variable {tab:Tab}
def Wl {t:Nat}{p:Bool}(b:ba c e ea)(g:kC e t= .bool p):ba c (rf e t<|.bool p) ea:=by
 have a:=b t;rw[g]at a;have a:=a.bool_inv;intro i;rw[yj];by_cases d:i=t
 .subst d;rw[zE rfl,a];exact .bool _
 rw[zF d];exact b i
theorem IL {β:Type}{y:β}: ∀{m:List SItem} {c:Ctx} {e:db} {ea:cx} {chk:H7} {ach:List<|Nat×(Hp->Prop)} {k:db->ak->Option β},Rel c->ba c e ea->ChkRel c ach chk->vB tab m chk e c.S k=O y->Uv (fY tab) (pT c k y) m ach ea c.Z
 |[],c,e,ea,chk,ach,k,q,j,A,h=>⟨e,c,rfl,Le.refl c,q,j,h⟩
 |it::r,c,e,ea,chk,ach,k,q,j,A,h=>by
  have n: ∀g,ba c g ea->Lh tab it chk g c.S (λb B S'=>vB tab r b B S' k)=O y->
    (if it.mover then cg (fY tab) it.o.op ea c.Z (λv Z'=>Ai it.chks Z' ach/\Uv (fY tab) (pT c k y) r ach (ea.putO it.o.dst v) Z')
    else match it.o.op.run ea c.Z with
     |some (v,_)=>Uv (fY tab) (pT c k y) r (if it.keep then(it.idx,λZ'=>it.o.op.run ea Z'=O (v,Z'))::ach else ach) (ea.putO it.o.dst v) c.Z
     |none=>False):=by
   intro g i z;refine al9 (Q:=λa ea' Z'=>Uv (fY tab) (pT c k y) r a ea' Z') q i A z λc' a b B ea' E F H I J=> ?_
   exact Hg (bv tab) (λC Z'' l=>l.of E) _ _ _ _ (IL F I H J)
  have skip: ∀g,ba c g ea->vB tab r chk (putO g it.o.dst<|.tup []) c.S k=O y->Uv (fY tab) (pT c k y) r ach (ea.putO it.o.dst undef) c.Z:=λg i z=>IL q (i.putO<|.tup .nil) A z
  simp only[vB]at h;simp only[Uv];split at h
  .rename_i s;have:wanted it.o ea=Za:=by simp only[wanted,s]
   rw[zE this];exact n e j h
  .rename_i t w s;split at h
   .rename_i p l;have d:=j t;rw[l]at d;have d:=d.bool_inv;have K:wanted it.o ea=(p==w):=by simp only[wanted,s,d]
    have D:=Wl j l
    grind
   .rename_i l;have d:=j t;rw[l]at d
    have K:wanted it.o ea=Zb:=by
     simp only[wanted,s];generalize ea t=u at d;cases d;rfl
    grind
   .cases h
def tx (as:List Nat)(e e':cx):Prop:= ∀t,t∉as->e' t=e t
def tx.refl (as:List Nat)(e:cx):tx as e e:=λ_ _=>rfl
def tx.put {as:List Nat}{e e':cx}{d:Option Nat}(h:tx as e e')(b: ∀t,t∈Tq d->t∈as):tx as e<|e'.putO d v:=by
 intro t a;cases d with
 |none=>exact h t a
 |some d=>
  have:t≠d:=by rintro rfl;exact a (b t<|dy.2 rfl)
  simp only[cx.putO,cx.put,zF this];exact h t a
def I6 {T:Ab.iX}(b:we T){Q:cx->Hp->Prop}{as:List Nat}{e0:cx}: ∀{ops:List AOper} {e:cx} {Z:Hp},(∀o,o∈ops->∀t,t∈Tq o.dst->t∈as)->tx as e0 e->Ab.BE T Q ops e Z->Ab.BE T (λe' Z'=>tx as e0 e'/\Q e' Z') ops e Z
 |[],e,Z,_,a,h=>⟨a,h⟩
 |o::r,e,Z,d,a,h=>by
  simp only[Ab.BE]at h⊢;have i: ∀o,o∈r->∀t,t∈Tq o.dst->t∈as:=λo j=>d o (bD _ j)
  split at h
  .rename_i g;rw[zE g];exact kU b (λv Z' k=>I6 b i (a.put<|d o aD) k) h
  .rename_i g;rw[zF g];exact I6 b i (a.put<|d o aD) h
def KH {T:Ab.iX}(d:we T){Q:cx->Hp->Prop}{as:List Nat}{e0:cx}: ∀{a:List SItem} {chk:List<|Nat×(Hp->Prop)} {e:cx} {Z:Hp},(∀o,o∈a->∀t,t∈Tq o.o.dst->t∈as)->tx as e0 e->Uv T Q a chk e Z->Uv T (λe' Z'=>tx as e0 e'/\Q e' Z') a chk e Z
 |[],chk,e,Z,_,b,h=>⟨b,h⟩
 |it::r,chk,e,Z,g,b,h=>by
  simp only[Uv]at h⊢;have j: ∀o,o∈r->∀t,t∈Tq o.o.dst->t∈as:=λo m=>g o (bD _ m)
  split at h
  .rename_i k;rw[zE k];split at h
   .rename_i i;rw[zE i];exact kU d (λv Z' l=>⟨l.1,KH d j (b.put<|g it aD) l.2⟩) h
   .rename_i i;rw[zF i];split at h
    .exact KH d j (b.put<|g it aD) h
    .exact h.elim
  .rename_i k;rw[zF k];exact KH d j (b.put<|g it aD) h
def UY {F G:Nat->Prop}(h: ∀m,F m->G m): ∀{l:List Nat},N8 F l->N8 G l
 |[],_=>trivial
 |[m],q=>h m q
 |m::a::r,q=>⟨h m q.1,UY h q.2⟩
def He {T:Ab.iX}(q:we T){Q:cx->Hp->Prop}{as:List Nat}{e0:cx}{ops:List<|AOper×List Nat}(d: ∀o,o∈ops->∀t,t∈Tq o.1.dst->t∈as): ∀(f:Nat) {D:List Nat} {chk:List<|Nat×(Hp->Prop)} {e:cx} {Z:Hp},tx as e0 e->E3 T Q ops f D chk e Z->E3 T (λe' Z'=>tx as e0 e'/\Q e' Z') ops f D chk e Z
 |0,D,chk,e,Z,j,h=>⟨j,h⟩
 |f+1,D,chk,e,Z,j,h=>by
  simp only[E3]at h⊢;cases u:eV ops D with
  |some i=>
   rw[u]at h;simp only at h⊢;cases k:ops[i]? with
   |none=>rw[k]at h;exact h
   |some p=>
    have⟨o,s⟩:=p;rw[k]at h;have b:(o,s)∈ops:=cB k;simp only at h⊢;split at h
    .rename_i n;rw[zE n];split at h
     .rename_i v Z' r;exact He q d f (j.put<|d _ b) h
     .exact h.elim
    .rename_i n;rw[zF n];exact He q d f (j.put<|d _ b) h
  |none=>
   rw[u]at h;simp only at h⊢;cases r:bw ops D with
   |nil=>rw[r]at h;exact⟨j,h⟩
   |cons a l=>
    rw[r]at h;simp only at h⊢;refine UY (λm b=> ?_) h;cases k:ops[m]? with
    |none=>rw[k]at b;exact b
    |some p=>
     have⟨o,s⟩:=p;rw[k]at b;have g:(o,s)∈ops:=cB k;simp only at b⊢;split at b
     .rename_i n;rw[zE n];exact kU q (λv Z' w=>⟨w.1,He q d f (j.put<|d _ g) w.2⟩) b
     .rename_i n;rw[zF n];exact He q d f (j.put<|d _ g) b
theorem yv {T:Ab.iX}(k:we T){as:List Nat}{e0:cx}: ∀(c:AC) {Q:AExit->cx->Hp->Prop} {e:cx} {Z:Hp},GM c=Za->(∀t,t∈nh c->t∈as)->tx as e0 e->yw T c Q e Z->yw T c (λx e' Z'=>tx as e0 e'/\Q x e' Z') e Z
 | .skip,_,_,_,_,_,d,h=>⟨d,h⟩
 | .exit _,_,_,_,_,_,d,h=>⟨d,h⟩
 | .ret,_,_,_,_,_,d,h=>⟨d,h⟩
 | .region ops,Q,e,Z,_,g,d,h=>I6 k (λo r t j=>g t<|cc.2 ⟨o,r,j⟩) d h
 | .sched w,Q,e,Z,_,g,d,h=>KH k (λo r t j=>g t<|cc.2 ⟨o,r,j⟩) d h
 | .draw ops,Q,e,Z,_,g,d,h=>He k (λo r t j=>g t<|cc.2 ⟨o,r,j⟩) _ d h
 | .seq a b,Q,e,Z,l,g,d,h=>by
  simp only[GM,aB]at l;have q:=yv k a l.1 (λt j=>g t<|cI.2<|.inl j) d h;refine fW k a _ _ (λx e' Z' u=> ?_) e Z q;obtain⟨m,p⟩:=u;cases x with
  |normal=>exact yv k b l.2 (λt j=>g t<|cI.2<|.inr j) m p
  |exit i=>exact⟨m,p⟩
  |ret=>exact⟨m,p⟩
 | .cond c a b,Q,e,Z,l,g,d,h=>by
  simp only[GM,aB]at l;simp only[yw]at h⊢;split at h
  .exact yv k a l.1 (λt j=>g t<|cI.2<|.inl j) d h
  .exact yv k b l.2 (λt j=>g t<|cI.2<|.inr j) d h
  .exact h.elim
 | .block id b,Q,e,Z,l,g,d,h=>by
  have q:=yv k b l g d h;refine fW k b _ _ (λx e' Z' u=> ?_) e Z q
  grind
 | .loop b,Q,e,Z,l,g,d,h=>by
  obtain⟨n,s⟩:=h;refine⟨n, ?_⟩;induction n generalizing e Z with
  |zero=>exact s.elim
  |succ n z=>
   simp only[jA]at s⊢;have q:=yv k b l g d s;refine fW k b _ _ (λx e' Z' u=> ?_) e Z q
   grind
def Ld {S:ak}{N:Nat}{vals:List VV}{t:BF sk.shs}(h:OD S N fx sk vals=O t):sk.noRo=Za/\∃st,nk S N fx sk vals=O st/\Nt sk.shs t=st.ls:=by
 unfold OD at h;have⟨a,b⟩:=az h;have⟨st,d,g⟩:=ai b;exact⟨a,st,d,Cb g⟩
def ay6 {S:ak}{N:Nat}{vals:List VV}{t:BF sk.shs}(h:ab4 S N fx sk vals=O t):sk.fxRo=Za/\∃st,nk S N fx sk vals=O st/\Nt sk.shs t=st.ls:=by
 unfold ab4 at h;have⟨a,b⟩:=az h;have⟨st,d,g⟩:=ai b;exact⟨a,st,d,Cb g⟩
def Hq {S:ak}{N:Nat}{fx:List Nat}{vals:List Nat->List VV}{d:XK->Bool}: ∀{l:List Alt} {s:wG l},yO S N fx vals d l=O s->∃p,av2 l s=O p/\d p.1.x=Za/\OD S N fx p.1.sk (vals p.1.ts)=O p.2
 |[],s,h=>by cases h
 |[a],s,h=>by
  simp only[yO]at h;cases g:d a.x with
  |false=>rw[g]at h;cases h
  |true=>rw[g]at h;exact⟨⟨a,s⟩,rfl,g,h⟩
 |a::b::r,s,h=>by
  simp only[yO]at h;split at h
  .rename_i t i;cases h;cases g:d a.x with
   |false=>rw[g]at i;cases i
   |true=>rw[g]at i;exact⟨⟨a,t⟩,rfl,g,i⟩
  .obtain⟨q,k,j⟩:=ai h;cases j;have⟨p,m,n,o⟩:=Hq k;exact⟨p,m,n,o⟩
def XK.is_out {x:XK}{y:AExit}(h:x.is y=Za):x.out=y:=by
 cases x<;>cases y<;>simp only[XK.is]at h<;>first|rfl|(cases h;done)|skip
 rename_i i j;rw[show(XK.exit i).out=AExit.exit i from rfl,cD h]
def Ki {c:Ctx}: ∀{ts:List Nat} {e:db} {ea:cx} {vs:List VV},ba c e ea->F2 (VRel c) vs (ts.map ea)->ba c (Wm e ts vs) ea
 |[],e,ea,vs,a,b=>by
  cases b;exact a
 |t::ts,e,ea,vs,a,b=>by
  cases b with
  |cons g h=>
   have:=Ki a h;intro i;simp only[Wm,yj];by_cases d:i=t
   .subst d;rw[zE rfl];exact g
   .rw[zF d];exact this i
def Hn {as:List Nat}(d:ba c e ea)(g:tx as ea ea'):ba c (rM e as) ea':=by
 intro t;rcases Aq (ts:=as) (e:=e) (t:=t)with h|⟨a,b⟩
 .rw[h];exact .undef _
 rw[b,g t a];exact d t
def No {c:Ctx}{e:db}{ea:cx}(a:ba c e ea): ∀ts:List Nat,F2 (VRel c) (ts.map<|kC e) (ts.map ea)
 |[]=> .nil
 |t::ts=> .cons (a t)<|No a ts
def Tz {β:Type}{c1:Ctx}{e0:db}{d:cx}{mov b:List Nat}{a:List Alt}{s:wG a}{k:AExit->db->ak->Option β}{y:β}{e':db}{x:AExit}(M:Rel c)(n:ba c e0 d)(g:Rel c')(P:Within c c1 fx mov)(i:Rel c1)(r:Le c1 c')(t:M1 c.S fx=Za)
  (o:tx b d ea') (m:ba c' e' ea') (N:yO c'.S (ft c.S) fx (λts=>ts.map<|kC e') (λy=>y.is x) a=O s) (h:aR5 e0 c.S fx mov b a s k=O y):sf c k y x ea' c'.Z:=by
 have⟨p,H,I,J⟩:=Hq N;have⟨u,Q,K,L⟩:=Ld J;unfold aR5 at h;rw[Tf,H]at h;simp only[zG]at h;rw[XK.is_out I]at h;unfold Kt at h;rw[L]at h;cases l:mB id p.1.sk Q.ls with
 |none=>rw[l]at h;cases h
 |some q=>
  have⟨vs,w,A⟩:=q;rw[l]at h;simp only[Bool.false_or]at h;cases j:yr fx w (jV fx mov (B5 vs w A) 0 c.S)with
  |none=>rw[j]at h;cases h
  |some S2=>
   rw[j]at h;have⟨B,C,D,z,E,F⟩:=aS8 M g P i r t u K l (No m _) j;refine⟨_,B,C,z,E,Ki (Hn (n.frame z) o) F, ?_⟩;rw[D];exact h
theorem XF {S:ak}:rQ S<|jV fx [] Za 0 S:=by
 refine⟨mt,λk=> ?_⟩;by_cases a:k<ft S
 .rw[mr a];simp only[lB,zD,bB]
  grind
 rw[yo (by rw[mt];omega),yo V1];exact .inl rfl
def bF6 (c:Ctx)(e0:db)(d:cx)(fx mov a:List Nat)(ts:List Nat)(sk:rp)(t:BF sk.shs)(ea:cx)(Z:Hp):Prop:=
 ∃b g,b.Z=Z/\Kt e0 c.S fx mov a Za ts sk t=O (g,b.S)/\Rel b/\ba b g ea/\Within c b fx mov/\tx a d ea
theorem PK {e0 e1:db}{S S1:ak}{mov a ts:List Nat}{t:BF sk.shs}(h:Kt e0 S fx mov a Za ts sk t=O (e1,S1)): ∃vs b bs S',mB id sk (Nt sk.shs t)=O (vs,b,bs)/\yr fx b (jV fx mov Za 0 S)=O S'/\e1=Wm (rM e0 a) ts vs/\S1=S'++bs:=by
 unfold Kt at h
 grind
theorem Mn {ops:List<|AOper×List Nat}: ∀{r:List LItem} {it:LItem} {t:Nat},it∈r->Nat.beq it.kind 2=Za->(bg ops it.i).dst=O t->t∈Hy ops r
 |a::r,it,t,h,b,d=>by
  simp only[Hy];rcases bf.1 h with rfl|h
  .rw[b,zC,d];exact aD
  .have:=Mn h b d
   grind
def bh {α γ:Type}(f:α->Option (α⊕γ))(n:Nat)(a:α):am f (n+1) a=gn (f a) λs=>be s (am f n) O:=rfl
def LX {f:(AExit->cx->Hp->Prop)->cx->Hp->Prop}(d: ∀(Q Q':AExit->cx->Hp->Prop),(∀x e Z,Q x e Z->Q' x e Z)->∀e Z,f Q e Z->f Q' e Z){Q:AExit->cx->Hp->Prop}:
  ∀(n m:Nat) (e:cx) (Z:Hp),n<=m->jA f Q n e Z->jA f Q m e Z
 |0,_,_,_,_,h=>h.elim
 |n+1,0,_,_,a,_=>absurd a (Nat.not_succ_le_zero _)
 |n+1,m+1,e,Z,a,h=>by
  simp only[jA]at h⊢;refine d _ _ (λx g Z' b=> ?_) e Z h;cases x with
  |normal=>exact LX d n m g Z' (Nat.le_of_succ_le_succ a) b
  |exit id=>exact b
  |ret=>exact b
def J6 {b:AC}(g: ∀(at':AT) {β:Type} {y:β} {c:Ctx} {e:db} {ea:cx} {k:AExit->db->ak->Option β},Rel c->ba c e ea->eval tab b at' β e c.S k=O y->yw (fY tab) b (sf c k y) ea c.Z):
  ∀(at':AT) {β:Type} {y:β} {c:Ctx} {e:db} {ea:cx} {k:AExit->db->ak->Option β},Rel c->ba c e ea->Pc (eval tab b) at' β e c.S k=O y->jA (yw (fY tab) b) (sf c k y) at'.rounds ea c.Z
 | .n l r,β,y,c,e,ea,k,a,d,h=>by
  simp only[Pc]at h;have w:=g l a d h;simp only[AT.rounds,jA];refine fW (bv tab) b _ _ (λx ea' Z' B=> ?_) ea c.Z w;have⟨s,c',z,j,o,p,q⟩:=B;subst z;cases x with
  |normal=>exact Ck (fW (bv tab) b) (λx t Z'' A=>pT.of j A) _ _ _ (J6 g r o p q)
  |exit i=>exact⟨s,c',rfl,j,o,p,q⟩
  |ret=>exact⟨s,c',rfl,j,o,p,q⟩
 | .sz m l r,β,y,c,e,ea,k,a,d,h=>by
  simp only[Pc]at h;simp only[AT.rounds];cases u:Nat.beq m (ft c.S) with
  |true=>
   rw[u]at h;exact LX (fW (bv tab) b) _ _ _ _ (Nat.le_add_right _ _) (J6 g l a d h)
  |false=>
   rw[u]at h;exact LX (fW (bv tab) b) _ _ _ _ (Nat.le_add_left _ _) (J6 g r a d h)
 | .no,_,_,_,_,_,_,_,_,h=>by cases h
 | .lp _ _ _ _,_,_,_,_,_,_,_,_,h=>by cases h
 | .jn _ _ _ _ _,_,_,_,_,_,_,_,_,h=>by cases h
 | .dr _,_,_,_,_,_,_,_,_,h=>by cases h
 | .all,_,_,_,_,_,_,_,_,h=>by cases h
def VK {b:AC}(o: ∀{β:Type} {y:β} {c:Ctx} {e:db} {ea:cx} {k:AExit->db->ak->Option β},Rel c->ba c e ea->eval tab b .all β e c.S k=O y->yw (fY tab) b (sf c k y) ea c.Z):
  ∀(n:Nat) {β:Type} {y:β} {c:Ctx} {e:db} {ea:cx} {k:AExit->db->ak->Option β},Rel c->ba c e ea->aC5 (eval tab b .all) n β e c.S k=O y->jA (yw (fY tab) b) (sf c k y) n ea c.Z
 |0,_,_,_,_,_,_,_,_,h=>by cases h
 |n+1,β,y,c,e,ea,k,r,s,h=>by
  have p:=o r s (show eval tab b .all β e c.S (λx a S'=>match x with
   | .normal=>aC5 (eval tab b .all) n β a S' k
   |x=>k x a S')=O y from h)
  simp only[jA];refine fW (bv tab) b _ _ (λx ea' Z' u=> ?_) ea c.Z p;have⟨a,c',q,d,g,j,l⟩:=u;subst q;cases x with
  |normal=>exact Ck (fW (bv tab) b) (λx m Z'' t=>pT.of d t) _ _ _ (VK o n g j l)
  |exit i=>exact⟨a,c',rfl,d,g,j,l⟩
  |ret=>exact⟨a,c',rfl,d,g,j,l⟩
theorem re : ∀(ac:AC) (at':AT) {β:Type} {y:β} {c:Ctx} {e:db} {ea:cx} {k:AExit->db->ak->Option β},Rel c->ba c e ea->eval tab ac at' β e c.S k=O y->yw (fY tab) ac (sf c k y) ea c.Z
 | .skip,_,_,_,c,e,ea,k,g,d,h=>⟨e,c,rfl,Le.refl c,g,d,h⟩
 | .exit i,_,_,_,c,e,ea,k,g,d,h=>⟨e,c,rfl,Le.refl c,g,d,h⟩
 | .ret,_,_,_,c,e,ea,k,g,d,h=>⟨e,c,rfl,Le.refl c,g,d,h⟩
 | .region ops,_,_,_,c,e,ea,k,g,d,h=>ON g d h
 | .sched its,_,_,_,c,e,ea,k,g,d,h=>IL g d .nil h
 | .draw ops,at',_,y,c,e,ea,k,g,d,h=>by
  simp only[eval]at h;split at h
  .rename_i L _;obtain⟨P,h⟩:=az h;rw[aB]at P;refine OM g (ft ops) (pd:=λ_=>0) P.1 ⟨Le.refl c,g,Hn d<|tx.refl _ ea, .nil,rfl,rfl,λb=>⟨.inl,λh=> ?_⟩,List.nodup_nil,(λ_ _ h=>by cases h),(λ_ h=>by cases h),(λ_ h=>by cases h),λit hit W t Q=> ?_,P.2⟩ h
   .rcases h with h|⟨_,h,_⟩
    .exact h
    .cases h
   .rcases @Aq (Hy ops<|B7 ops L L []) e t with h1|⟨h1,_⟩
    .exact h1
    .exact(h1<|Mn hit W Q).elim
  .cases h
 | .seq a b,at',β,y,c,e,ea,k,g,d,h=>by
  have M: ∀l r,(eval tab a l β e c.S λx C S'=>match x with
    | .normal=>eval tab b r β C S' k
    |x=>k x C S')=O y->yw (fY tab) (.seq a b) (sf c k y) ea c.Z:=by
   intro l r h1;refine fW (bv tab) a _ _ (λx ea' Z' hx=> ?_) ea c.Z<|re a l g d h1;have⟨C,c',h2,B,H,I,A⟩:=hx;subst h2;cases x with
   |normal=>exact fW (bv tab) b _ _ (λx ea'' Z'' hp=>pT.of B hp) _ _ (re b r H I A)
   |exit i=>exact⟨C,c',rfl,B,H,I,A⟩
   |ret=>exact⟨C,c',rfl,B,H,I,A⟩
  simp only[eval]at h;split at h
  .rename_i fx F E l r _;obtain⟨P,h⟩:=az h;rw[aB]at P;have⟨s,h1,h2⟩:=ai h;have w:rQ c.S<|jV (fx++F) [] Za 0 c.S:=XF;have hR1:Rel ⟨c.μ,jV (fx++F) [] Za 0 c.S,c.Z,c.fb⟩:=w.rel g
   have hw:Within c ⟨c.μ,jV (fx++F) [] Za 0 c.S,c.Z,c.fb⟩ fx F:=by
    refine⟨w.le,λq hq hn X=> ?_,λ_ _ _ _ _ _ _ _ hy=>hy⟩;show ag (jV (fx++F) [] Za 0 c.S) q=_;rw[mr hq];simp only[lB,zD,bB];rcases X with X|hz
    .rw[kS (by simp[hn,X])];rfl
    .cases lB q (fx++F)with
     |true=>exact(Dr hz).symm
     |false=>rfl
   have B:=yv (bv tab) (as:=nh a) (e0:=ea) a P.2 (λt Q=>Q) (tx.refl _ ea)<|re a l (c:=⟨c.μ,jV (fx++F) [] Za 0 c.S,c.Z,c.fb⟩) hR1 (d.frame w.le) h1;refine fW (bv tab) a _ _ (λx ea' Z' hx=> ?_) ea c.Z B;have⟨W,C,c',H,I,A,h7,h8⟩:=hx;subst H;have N:=Tz g d A hw hR1 I P.1 W h7 h8 h2;cases x with
   |normal=>
    have⟨D,c2,g1,g2,g3,g4,g5⟩:=N;rw[<-g1];exact fW (bv tab) b _ _ (λx ea'' Z'' hp=>pT.of g2 hp) _ _ (re b r g3 g4 g5)
   |exit i=>exact N
   |ret=>exact N
  .exact M _ _ h
  .exact M _ _ h
 | .cond t a b,at',β,y,c,e,ea,k,g,d,h=>by
  simp only[eval]at h;split at h
  .rename_i p hp;have Q:=cm d t;rw[hp]at Q;have Q:=Q.bool_inv
   have V: ∀(T D:db) (l r:AT),ba c T ea∨p=Zb->ba c D ea∨p=Za->cond p (eval tab a l β T c.S k) (eval tab b r β D c.S k)=O y->yw (fY tab) (.cond t a b) (sf c k y) ea c.Z:=by
    intro T D l r h1 h2 B;simp only[yw,Q];cases p with
    |true=>
     rcases h1 with h1|h1
     .exact re a l g h1 B
     .cases h1
    |false=>
     rcases h2 with h2|h2
     .exact re b r g h2 B
     .cases h2
   have pb: ∀(i:Nat),t= .tmp i->(ba c (rf e i<|.bool Za) ea∨p=Zb)/\(ba c (rf e i<|.bool Zb) ea∨p=Za):=by
    intro i hi;subst hi;have:=Wl d hp
    grind
   split at h
   .exact V _ _ _ _ (pb _ rfl).1 (pb _ rfl).2 h
   .exact V _ _ _ _ (pb _ rfl).1 (pb _ rfl).2 h
   .exact V _ _ _ _ (.inl d) (.inl d) h
   .exact V _ _ _ _ (.inl d) (.inl d) h
  .cases h
 | .block id b,at',β,y,c,e,ea,k,g,d,h=>by
  simp only[eval]at h;refine fW (bv tab) b _ _ (λx ea' Z' hx=> ?_) ea c.Z<|re b _ g d h;have⟨C,c',h2,B,H,I,A⟩:=hx;cases x with
  |normal=>exact⟨C,c',h2,B,H,I,A⟩
  |ret=>exact⟨C,c',h2,B,H,I,A⟩
  |exit i=>
   simp only at A⊢;cases hi:Nat.beq i id with
   |true=>
    rw[hi]at A;rw[zE<|cD hi];exact⟨C,c',h2,B,H,I,A⟩
   |false=>
    rw[hi]at A;rw[zF (λe=>by rw[e,Nat.beq_refl]at hi;cases hi)];exact⟨C,c',h2,B,H,I,A⟩
 | .loop b,at',β,y,c,e,ea,k,g,d,h=>by
  simp only[eval]at h;split at h
  .rename_i fx head E l _;have w:=Vy (ft c.S) head.sk.free head.sk.vals (head.ts.map<|kC e) c.S;refine fW (bv tab) (.loop b) _ _ (λx ea' Z' hp=>pT.of w.le hp) ea c.Z ?_;replace g:=w.rel g;replace d:=d.frame w.le;generalize aR2 (ft c.S) head.sk.free head.sk.vals (head.ts.map<|kC e) c.S=S1 at h g d w⊢;clear w;generalize hc:(⟨c.μ,S1,c.Z,c.fb⟩:Ctx)=c1 at g d⊢;have T:S1=c1.S:=by rw[<-hc]
   have D:c.Z=c1.Z:=by rw[<-hc]
   rw[D];rw[T]at h;clear T D hc;revert h d g;revert c1;intro c h g d;obtain⟨P,h⟩:=az h;rw[aB,aB]at P;have⟨⟨g1,g2⟩,g3⟩:=P;split at h
   .rename_i st hd;obtain⟨t0,h1,h⟩:=ai h;have⟨s,h2,B⟩:=ai h
    have round: ∀(n:Nat) (t:BF head.sk.shs) (J:cx) (Z1:Hp),bF6 c e ea fx (tN st.m) (nh b) head.ts head.sk t J Z1->am (λt=>match Kt e c.S fx (tN st.m) (nh b) Za head.ts head.sk t with
      |some (T,S1)=>eval tab b l (BF head.sk.shs⊕wG E) T S1 λx C S'=>(match x with
       | .normal=>gn (ab4 S' (ft c.S) fx head.sk<|head.ts.map<|kC C) λt=>O (.inl t)
       |x=>gn (yO S' (ft c.S) fx (λts=>ts.map<|kC C) (λy=>y.is x) E) λs=>O<|.inr s)
      |none=>Y) n t=O s->jA (yw (fY tab) b) (sf c k y) n J Z1:=by
     intro n;induction n with
     |zero=>intro t J Z1 _ hl;cases hl
     |succ n ih=>
      intro t J Z1 hH hl;rw[bh]at hl;have⟨z,hl1,o⟩:=ai hl;have⟨c1,T,q1,q2,q3,q4,q5,q6⟩:=hH;subst q1;rw[q2]at hl1;simp only at hl1;have H:=yv (bv tab) (as:=nh b) (e0:=ea) b g3 (λt Q=>Q) q6<|re b l q3 q4 hl1;simp only[jA];refine fW (bv tab) b _ _ (λx ea' Z' hx=> ?_) J c1.Z H;have⟨W,C,c',I,A,h7,h8,N⟩:=hx;subst I;cases x with
      |normal=>
       simp only at N⊢;have⟨t',K,u⟩:=ai N;cases u;simp only[be]at o;refine ih t' ea' c'.Z ?_ o;have⟨hro,st',h12,h13⟩:=ay6 K
       have j: ∃D S2,Kt e c.S fx (tN st.m) (nh b) Za head.ts head.sk t'=O (D,S2):=by
        cases n with
        |zero=>cases o
        |succ n=>
         rw[bh]at o
         grind
       obtain⟨D,S2,j⟩:=j;have⟨vs,fs,bs,S3,r1,r2,r3,r4⟩:=PK j;rw[h13]at r1;have⟨ct,u1,u2,u3,u4,u5,u6,u7,u8⟩:=bc3 g h7 q5 q3 A g2 hro h12 r1 (No h8 _) r2;refine⟨ct,D,u1,by rw[j,r4,u2],u6, ?_,Se u5 r2 u2 λq hq hn X U b' y' hb hy=> ?_,W⟩
       .rw[r3];exact Ki (Hn (d.frame u5) W) u7
       .refine(u8 q hq hn ?_).2 b' y' hb hy;have⟨v1,v2,v3,_⟩:=ke r2;rw[mt]at v2;rw[u2,nv (by rw[v2];exact hq),v3 q hn,mr hq,bB,kS hn];rcases X with X|hz
        .rw[kS X,zD,zD,zC,gf];exact U
        .rw[hz];cases lB q (tN st.m)with
         |true=>exact U
         |false=>rw[zD,zD,zC,gf];exact U
      |exit i=>
       simp only at N⊢;have⟨s',K,u⟩:=ai N;cases u;simp only[be]at o;cases o;exact Tz g d h7 q5 q3 A g2 W h8 K B
      |ret=>
       simp only at N⊢;have⟨s',K,u⟩:=ai N;cases u;simp only[be]at o;cases o;exact Tz g d h7 q5 q3 A g2 W h8 K B
    refine⟨cj,round cj t0 ea c.Z ?_ h2⟩
    have j: ∃D S2,Kt e c.S fx (tN st.m) (nh b) Za head.ts head.sk t0=O (D,S2):=by
     have hb:cj=(cj-1)+1:=rfl;rw[hb,bh]at h2
     grind
    obtain⟨D,S2,j⟩:=j;have⟨vs,fs,bs,S3,r1,r2,r3,r4⟩:=PK j;rw[Cb h1]at r1;have⟨ct,u1,u2,u3,u4,u5,u6,u7⟩:=al7 g g2 g1 hd r1 (No d _) r2;refine⟨ct,D,u1,by rw[j,r4,u2],u6, ?_,Se u5 r2 u2 λq hq hn X U b' y' hb hy=>by rw[u1];exact hy,tx.refl _ _⟩;rw[r3];exact Ki (Hn (d.frame u5)<|tx.refl _ _) u7
   .cases h
  .exact⟨_,VK (λg d h=>re b .all g d h) _ g d h⟩
  .exact⟨_,J6 (λat'' {β y c e ea k} g d h=>re b at'' g d h) at' g d h⟩
end
end
section
open Nat renaming le_of_ble_eq_true->aB,zero_add->aD
def Np {c:Ctx}{e:db}{ea:cx}(B:Rel c)(s:ba c e ea): ∀{J:List ARes} {vs:List VV},Kp e c.S J=O vs->∃w,LH ea c.Z J=O w/\F2 (VRel c) vs w
 |[],vs,h=>by cases h;exact⟨[],rfl, .nil⟩
 |r::J,vs,h=>by
  simp only[Kp]at h;obtain⟨v,d,h⟩:=ai h;obtain⟨T,M,h⟩:=ai h;cases h;have⟨w,N,P⟩:=Np B s M
  have I: ∃u,Px ea c.Z r=O u/\VRel c v u:=by
   cases r with
   |tmp t=>
    simp only[aW3]at d;cases d;exact⟨_,rfl,s t⟩
   |cell t=>
    simp only[aW3]at d;split at d
    .rename_i b o H;split at d
     .rename_i A z l k;have p:=s t;rw[H]at p;cases p with
      |ptr Q _ E=>
       have g:(ag c.S b).dim=O (A,ft l):=by rw[k];rfl
       have⟨L,F,C⟩:=E _ g;have m:=B.stands g F;rw[k]at m;have⟨y,a,j,i,q⟩:=m.get d;refine⟨a, ?_,q⟩;rw[aD]at i;simp only[Px,C,j,zG,i]
     .cases d
    .cases d
   |cellN t n=>
    simp only[aW3]at d;split at d
    .rename_i b o H;split at d
     .rename_i A z l k;cases D:Nat.ble (o+n) (ft l) with
      |false=>rw[D]at d;cases d
      |true=>
       rw[D]at d;cases d;have p:=s t;rw[H]at p;cases p with
       |ptr Q _ E=>
        have g:(ag c.S b).dim=O (A,ft l):=by rw[k];rfl
        have⟨L,F,C⟩:=E _ g;have m:=B.stands g F;rw[k]at m;have⟨y,K,j,i,q⟩:=m.read<|aB D;rw[aD]at i;refine⟨.agg K.toArray, ?_, .agg (by simp only[Blk.vals]at q;simpa using q)⟩;simp only[Px,C,j,zG,i,Option.map_some]
     .cases d
    .cases d
  have⟨u,j,i⟩:=I;exact⟨u::w,by simp only[LH,j,N], .cons i P⟩
def Ur {d:List Value}(h:F2 (VRel c) vs d):VRel c (Xc vs)<|Cj d:=by
 cases h with
 |nil=>exact .tup .nil
 |cons b a=>
  cases a with
  |nil=>exact b
  |cons a g=>exact .tup (by simpa using F2.cons b (F2.cons a g))
def Od {as:List Value}(h:F2 (VRel c) vs as):ba c vs<|cx.of as:=by
 intro t
 have g: ∀(l:List VV) (i:Nat),kC l i=(l[i]?).getD .undef:=by
  intro l;induction l with
  |nil=>intro i;simp[kC]
  |cons a l k=>intro i;cases i with
   |zero=>simp[kC]
   |succ i=>simp[kC,k]
 rw[g];unfold cx.of;cases j:vs[t]? with
 |none=>exact .undef _
 |some v=>
  have⟨a,b,d⟩:=h.get t v j;rw[b];exact d
def Es : ∀{n q:Nat},q<n->q∈K2 n
 |n+1,q,h=>by
  by_cases e:q=n
  .subst e;exact List.mem_cons_self
  .exact List.mem_cons_of_mem _ (Es V1)
theorem aG9 {P:Program}{tab:Tab}{run:BF (rp.shs ⟨vals,[],objs⟩)->Option (wG outs)}(ht:gg P tab.fs)(hi:ae P tab.is)
  (he: ∀t o,run t=O o->Lj P f tab vals objs outs at' t=O o):dv P ⟨f,vals,objs,outs,run⟩:=by
 intro B μ Z w g j K hs J ha;obtain⟨c,V,D,t,o,p,v,fs,bs,S',h1,X,hf,d,hl,h,A,C,hp,b,hS,hK⟩:=hs;subst h1;have a:=he t o C;unfold Lj at a;split at a
 .rename_i q vs fs0 S0 Q r;obtain⟨hg,a⟩:=az a;refine az6 Q (bv tab) (G6 ht hi) B μ c.Z w g j K ?_ J ha;have N:Nt (rp.shs ⟨vals,[],objs⟩) t=D.ls:=Cb hl;rw[N]at r;obtain⟨I,s⟩:=enter X rfl d r hf;have u:g.length<=q.ntmps:=by rw[<-s.length];exact aB hg
  refine⟨u, ?_⟩;obtain⟨l1,l2⟩:=I.len;have l:=re q.body at' (c:=kQ c D S0) I.rel (Od s) a;refine fW (bv tab) q.body _ _ (λx ea Z' hx=> ?_) _ _ l;obtain⟨e',c',h2,h3,W,h5,h6⟩:=hx;subst h2
  have fin:(match Kp e' c'.S q.results with
    |some rs=>yO c'.S S0.length (vD objs 0) (λ_=>[Xc rs]) (λ_=>Za) outs
    |none=>Y)=O o->(match LH ea c'.Z q.results with
    |some vs=>K (Cj vs) c'.Z
    |none=>False):=by
   intro H;split at H
   .rename_i rs M;obtain⟨us,h8,h9⟩:=Np W h5 M;rw[h8];simp only;obtain⟨p',E,_,q3⟩:=Hq H;simp only at hp;rw[hp]at E;injection E with E
    subst E;obtain⟨L,st',q4,q5⟩:=Ld q3;obtain⟨F,_⟩:=qD d;have z:=qB F;rw[List.nil_append]at z;simp only at b hS h A;rw[q5]at b
    have n: ∀(i:Nat) (o:OSk) (x:Src),objs[i]?=O o->o.ro=Za->D.m[i]?=O (O x)->x.k∈D.lent:=by
     intro i o x g1 g2 g3;unfold nk at d;obtain⟨st1,d1,d⟩:=ai d;obtain⟨st2,d2,d⟩:=ai d;obtain⟨U,d3,d⟩:=ai d
     have:U=D:=by
      grind
     subst this;exact Ua d3 i o x g1 g2 (by rw[aD];exact g3)
    obtain⟨ct,r1,r2,r3,r4,T,r6⟩:=Py X rfl I h3 W h A z n L (by rw[<-l1];exact q4) b (.cons (Ur h9) .nil) hS;cases T with
    |cons T _=>exact hK _ _ ⟨ct,r1,r2,r3,r4,T,r6⟩
   .cases H
  grind
 .cases a
def RT {P:Program}{a:List Inl}{run:BF (rp.shs ⟨vals,[],objs⟩)->Option (wG outs)}(g:gg P tab)(d:ae P a)
  (b: ∀t,Lj P f ⟨tab,a⟩ vals objs outs at' t=run t):dv P ⟨f,vals,objs,outs,run⟩:=aG9 (tab:=⟨tab,a⟩) g d λt o h=>(b t).trans h
def aG8 {P:Program}{run:BF (rp.shs ⟨vals,[],objs⟩)->Option (wG outs)}(b:gg P tab)
  (a: ∀t,Lj P f ⟨tab,[]⟩ vals objs outs at' t=run t):dv P ⟨f,vals,objs,outs,run⟩:=RT b (ae.nil P) a
theorem ar {P:Program}{b:List Inl}(U:gg P tab)(M:ae P b):N2 P ⟨f,bm P f ⟨tab,b⟩ at'⟩:=by
 intro B μ Z w d g K T m J;obtain⟨β,y,c,vals,k,z,I,s,a,H⟩:=T;subst z;simp only[bm]at a;split at a
 .rename_i i o;obtain⟨L,a⟩:=az a;refine az6 o (bv ⟨tab,b⟩) (G6 (tab:=⟨tab,b⟩) U M) B μ c.Z w d g K ?_ m J;have j:d.length<=i.ntmps:=by rw[<-s.length];exact aB L
  refine⟨j, ?_⟩;have h:=re i.body at' (c:=c) I (Od s) a;refine fW (bv ⟨tab,b⟩) i.body _ _ (λx ea Z' V=> ?_) _ _ h;obtain⟨t,c',A,C,r,D,W⟩:=V;subst A
  have u:(match Kp t c'.S i.results with
    |some p=>k (Xc p) c'.S
    |none=>Y)=O y->(match LH ea c'.Z i.results with
    |some vs=>K (Cj vs) c'.Z
    |none=>False):=by
   intro l;split at l
   .rename_i p n;obtain⟨X,E,F⟩:=Np r D n;rw[E];exact H _ _ ⟨Xc p,c',rfl,C,r,λq Q N=>(N<|Es Q).elim,Ur F,l⟩
   .cases l
  grind
 cases a
def IN :List Alt:=[⟨.ret,[],⟨[.leaf .bool],[],[]⟩⟩]
def yQ (Z:Hp):Ctx:=⟨λ_=>Y,[],Z,λ_=>False⟩
def X7 (h:Z.Ok):Rel<|yQ Z:=
 ⟨h,λk j b i _ _ _=>(by cases i),λk d a=>(by cases a),λk b a=>(a rfl).elim,λb g=>g.elim⟩
def O8 (b:Nat): ¬(yQ Z).mut b:=by
 rintro(⟨k,h,_⟩|h)
 .cases h
 exact h
theorem aB4 {P:Program}{run:BF (rp.shs ⟨vals,[],[]⟩)->Option (wG IN)}(h:dv P ⟨f,vals,[],IN,run⟩){w:World}(q:UT P w){rows:List Row}{args:List Value}{cargs:Array Value}{st:DSt}{t:BF<|rp.shs ⟨vals,[],[]⟩}
  (g: ∀r∈rows,∀(i:Nat) (v:Value),r.cells[i]?=O v->∃v',w.cell? ⟨r.c,r.o+i,Y⟩=O v'/\VR (oF rows) v v') (d:F2 (VR<|oF rows) args cargs.toList)
  (z:F2 (VRel<|yQ<|rP w.heap.size rows) vs args) (a:nk [] 0 [] ⟨vals,[],[]⟩ vs=O st) (s:UB _ st.ls=O t) (u:run t=O Za):
  Calls P f cargs w λe w'=>e= .returned (.bool Za)/\Go.RowKit.Below w.heap.size w w':=by
 have l:st.m=[]:=by
  unfold nk at a;obtain⟨A,C,a⟩:=ai a;obtain⟨n,D,a⟩:=ai a;obtain⟨p,b,a⟩:=ai a
  have:p=st:=by
   grind
  subst this;simp only[vz]at b;cases k:Nat.beq 0 (ft n.m) with
  |false=>rw[k]at b;cases b
  |true=>
   rw[k]at b;cases b;exact dl.1 (Nat.eq_of_beq_eq_true k).symm
 refine bm6 (S:=(FSum.mk f vals [] IN run).spec) h q g d ?_;refine⟨yQ<|rP w.heap.size rows,vs,st,t,Za,⟨⟨.ret,[],⟨[.leaf .bool],[],[]⟩⟩,Za⟩, .bool Za,[],[],cond (B5 [.bool Za] [] []) (Fh st.lent []) [],rfl,X7 aW6,z,a,s,by rw[l];rfl,by rw[l];rfl,u,rfl,rfl,by rw[l];rfl, ?_⟩;rintro r Z' ⟨B,_,_,_,_,j,_⟩;exact j.bool_inv
end
section
def an8 {α γ:Type}{f:α->Option (α⊕γ)}(I:α->Prop)(m:α->Nat)(Q:γ->Prop)(h: ∀a,I a->(∃b,f a=O (.inl b)/\I b/\m b<m a)∨∃c,f a=O (.inr c)/\Q c): ∀(n:Nat) (a:α),I a->m a<n->∃c,am f n a=O c/\Q c:=by
 intro n;induction n with
 |zero=>intro a _ d;omega
 |succ n l=>
  intro a k p;rcases h a k with⟨b,d,g,o⟩|⟨c,d,g⟩
  .obtain⟨c,i,j⟩:=l b g V1;exact⟨c,by rw[bh,d];exact i,j⟩
  exact⟨c,by rw[bh,d];rfl,g⟩
def nq {α γ:Type}{f:α->Option (α⊕γ)}{a:α}(I:α->Prop)(m:α->Nat)(Q:γ->Prop)(d:I a)(g:m a<18446744073709551616)(h: ∀a,I a->(∃b,f a=O (.inl b)/\I b/\m b<m a)∨∃c,f a=O (.inr c)/\Q c): ∃c,am f cj a=O c/\Q c:=
 an8 I m Q h cj a d g
def J7 {α γ:Type}{f:α->Option (α⊕γ)}{a:α}{c:γ}(I:α->Prop)(m:α->Nat)(d:I a)(k:m a<18446744073709551616)(h: ∀a,I a->(∃b,f a=O (.inl b)/\I b/\m b<m a)∨f a=O (.inr c)):am f cj a=O c:=by
 obtain⟨c',g,i⟩:=nq I m (· =c) d k λa j=>by
  rcases h a j with h|h
  .exact .inl h
  exact .inr ⟨c,h,rfl⟩
 rw[g,i]
def ah {α:Type}{p:Prop}[Decidable p]{x y:α}:cond (decide p) x y=if p then x else y:=by by_cases h:p<;>simp[h]
def bp {β:Type}{x:Option β}:gd Za x=x:=rfl
def bl2 {β:Type}{p:Prop}[Decidable p]{x:Option β}(h:p):gd (decide p) x=x:=by rw[zB h];rfl
theorem au {β:Type}{n b:Nat}{x:Option β}(h:n*b<=140737488355328)(a:1<=b):gd (dh n b) x=x:=by
 have:dh n b=Za:=by
  unfold dh
  simp_all
 rw[this];rfl
theorem bq {α:Type}{l:List α}{i:Nat}(h:i<ft l):rd l (i:Int)=O l[i]:=by
 unfold rd
 grind
def ad {n:Int}(h: -9223372036854775808<=n/\n<=9223372036854775807):IntKind.i64.wrap n=n:=IntWalk.i64_in _ h
def Zi {n:Int}(h: -9223372036854775808<=n/\n<=9223372036854775807:=by omega):IntKind.i64.wrap n=n:=ad h
def gM {α γ β:Type}{a:α}{f:α->Option β}{g:γ->Option β}:be (.inl a) f g=f a:=rfl
def ci {α γ β:Type}{a:γ}{f:α->Option β}{g:γ->Option β}:be (.inr a) f g=g a:=rfl
end
section
def GC (a:AFn)(tab:Tab)(vals:List Sk)(objs:List OSk)(outs:List Alt)(at':AT)(t:BF<|rp.shs ⟨vals,[],objs⟩):Option<|wG outs:=
 match mB id ⟨vals,[],objs⟩ (Nt _ t)with
 |some (vs,_,S)=>gd (Nat.ble (ft vs) a.ntmps) (eval tab a.body at' (wG outs) vs S λx e S'=>match x with
  | .exit _=>Y
  |_=>(match Kp e S' a.results with
   |some b=>yO S' (ft S) (vD objs 0) (λ_=>[Xc b]) (λ_=>Za) outs
   |none=>Y))
 |_=>Y
theorem QR {P:Program}{n:AFn}{tab:Tab}{run:BF (rp.shs ⟨vals,[],objs⟩)->Option (wG outs)}(ht:gg P tab.fs)(hi:ae P tab.is)(htr:as0 P f=O n)(D: ∀t:BF<|rp.shs ⟨vals,[],objs⟩,∃r,mB id ⟨vals,[],objs⟩ (Nt _ t)=O r)
  (he: ∀t o vs fs S,run t=O o->mB id ⟨vals,[],objs⟩ (Nt _ t)=O (vs,fs,S)->∀(c:Ctx) args,F2 (VRel c) vs args->
   ∃b,GC ⟨n.ntmps,n.results,b⟩ tab vals objs outs at' t=O o/\∀T (_:we T) Q Z,yw T b Q (cx.of args) Z->yw T n.body Q (cx.of args) Z):dv P ⟨f,vals,objs,outs,run⟩:=by
 intro B μ Z w args s K hs hR0 ha;obtain⟨c,vals',L,t,o,p,v,fs,bs,S',h1,hR,hf,g,hl,j,I,J,hp,a,hS,hK⟩:=hs;subst h1;have htl:Nt (rp.shs ⟨vals,[],objs⟩) t=L.ls:=Cb hl;cases h:mB id ⟨vals,[],objs⟩ (Nt (rp.shs ⟨vals,[],objs⟩) t)with
 |none=>
  obtain⟨r,q⟩:=D t;rw[h]at q;cases q
 |some tr=>
 obtain⟨vs,U,S0⟩:=tr;refine az6 htr (bv tab) (G6 ht hi) B μ c.Z w args s K ?_ hR0 ha;have l:=h;rw[htl]at h;obtain⟨X,z⟩:=enter hR rfl g h hf;obtain⟨bd,d,E⟩:=he t o vs U S0 J l _ _ z;unfold GC at d;rw[l]at d;obtain⟨hg,d⟩:=az d;have F:args.length<=n.ntmps:=by rw[<-z.length];exact Nat.le_of_ble_eq_true hg
 refine⟨F,E _ (bv tab) _ _ ?_⟩;obtain⟨l1,l2⟩:=X.len;have u:=re bd at' (c:=kQ c L S0) X.rel (Od z) d;refine fW (bv tab) bd _ _ (λx ea Z' hx=> ?_) _ _ u;obtain⟨e',c',h2,h3,h4,h5,V⟩:=hx;subst h2
 have C:(match Kp e' c'.S n.results with
   |some rs=>yO c'.S S0.length (vD objs 0) (λ_=>[Xc rs]) (λ_=>Za) outs
   |none=>Y)=O o->(match LH ea c'.Z n.results with
   |some vs=>K (Cj vs) c'.Z
   |none=>False):=by
  intro W;split at W
  .rename_i rs hrs;obtain⟨us,h8,h9⟩:=Np h4 h5 hrs;rw[h8];simp only;obtain⟨p',M,_,q3⟩:=Hq W;simp only at hp;rw[hp]at M;injection M with M
   subst M;obtain⟨hro,st',q4,q5⟩:=Ld q3;obtain⟨N,_⟩:=qD g;have H:=qB N;rw[List.nil_append]at H;simp only at a hS j I;rw[q5]at a
   have A: ∀(i:Nat) (o:OSk) (x:Src),objs[i]?=O o->o.ro=Za->L.m[i]?=O (O x)->x.k∈L.lent:=by
    intro i o x g1 g2 g3;unfold nk at g;obtain⟨st1,d1,g⟩:=ai g;obtain⟨st2,d2,g⟩:=ai g;obtain⟨st3,d3,g⟩:=ai g
    have:st3=L:=by
     grind
    subst this;exact Ua d3 i o x g1 g2 (by rw[Nat.zero_add];exact g3)
   obtain⟨ct,r1,r2,r3,r4,r5,r6⟩:=Py hR rfl X h3 h4 j I H A hro (by rw[<-l1];exact q4) a (.cons (Ur h9) .nil) hS;cases r5 with
   |cons r5 _=>exact hK _ _ ⟨ct,r1,r2,r3,r4,r5,r6⟩
  .cases W
 cases x with
 |exit i=>cases V
 |normal=>exact C V
 |ret=>exact C V
def XS (es bytes:Nat)(z:List Value)(c n:AOp):AC:=
 .seq (.region [⟨O 2, .move<|.const<|.slice Y 0 0,Y⟩]) (.seq (.seq (.region [⟨O 3, .move<|.tmp 0,Y⟩,⟨O 4,c,Y⟩])<|.cond (.tmp 4) (.seq (.region [⟨O 2,n,Y⟩]) .ret) .skip)
  (.seq (.region [⟨O 5, .buildSlice es 0 z [],Y⟩,⟨O 6, .move<|.tmp 0,Y⟩,⟨O 7, .append es bytes (.tmp 5)<|.tmp 6,Y⟩,⟨O 2, .move<|.tmp 7,Y⟩]) .ret))
def Tl (es bytes:Nat)(z:List Value):AFn:=⟨8,[.tmp 2],XS es bytes z (.eqv 2 Zb (.tmp 3)<|.const<|.slice Y 0 0)<|.move<|.const<|.slice Y 0 0⟩
def aO4 (es bytes:Nat)(z:List Value):AFn:=⟨8,[.tmp 2],XS es bytes z (.move<|.const<|.bool Zb)<|.move<|.const<|.slice Y 0 0⟩
def ax6 (es bytes:Nat)(z:List Value):AFn:=⟨8,[.tmp 2],XS es bytes z (.move<|.const<|.bool Za)<|.append es bytes (.const<|.slice Y 0 0)<|.tmp 0⟩
def Bh (s:Sh):List Alt:=[⟨.ret,[],⟨[.full 0],[],[.arr Zb s]⟩⟩]
theorem Gz {P:Program}{es bytes:Nat}{z:List Value}{s:Sh}(j:as0 P f=O (Tl es bytes z))
  (m: ∀t:BF<|rp.shs ⟨[.leaf<|.list s],[],[]⟩,mB id ⟨[.leaf<|.list s],[],[]⟩ (Nt _ t)=O ([.lst s t],[],[]))
  (r: ∀l:List<|El s,GC (aO4 es bytes z) ⟨[],[]⟩ [.leaf<|.list s] [] (Bh s) .no l=gd (dh (0+ft l) bytes) (O l))
  (u:GC (ax6 es bytes z) ⟨[],[]⟩ [.leaf<|.list s] [] (Bh s) .no ([]:List<|El s)=gd (dh (0+0) bytes) (O ([]:List<|El s))):
  dv P ⟨f,[.leaf<|.list s],[],Bh s,λl:List (El s)=>gd (dh (0+ft l) bytes)<|O l⟩:=by
 refine QR (at':= .no) (tab:=⟨[],[]⟩) (gg.nil P) (ae.nil P) j (λt=>⟨_,m t⟩) λt o vs C S d B c a i=> ?_
 have k:vs=[.lst s t]:=by
  grind
 subst k;cases i with
 |cons i A=>
 cases A
 have no: ∀q n g (a:List Value),a=[.slice (O q) n g]->∃b,GC ⟨(Tl es bytes z).ntmps,(Tl es bytes z).results,b⟩ ⟨[],[]⟩ [.leaf<|.list s] [] (Bh s) .no t=O o/\
   ∀T (_:we T) Q Z,yw T b Q (cx.of a) Z->yw T (Tl es bytes z).body Q (cx.of a) Z:=by
  rintro q n g a rfl;exact⟨_,(r t).trans d,λT _ Q Z h=>h⟩
 cases i with
 | @lst s l b p n g y w D E F H I J=>exact no _ _ _ _ rfl
 | @lstn s q w=>
  cases q with
  |some q=>exact no _ _ _ _ rfl
  |none=>exact⟨_,u.trans d,λT _ Q Z h=>h⟩
end
section
theorem ET {P:Program}{run:BF (rp.shs ⟨vals,[],objs⟩)->Option (wG outs)}(h: ∀t,run t=Y):dv P ⟨f,vals,objs,outs,run⟩:=by
 intro B μ Z w d a K k;have⟨c,b,z,t,o,p,v,m,l,S',n,q,s,r,u,g,j,i,_⟩:=k
 grind
end
open Go.Ab Go.ChangeShapes Go.WideShapes
section
def an6 {P:Program}{run:BF (rp.shs ⟨vals,[],[]⟩)->Option (wG IN)}(h:dv P ⟨f,vals,[],IN,run⟩){w:World}(j:UT P w){rows:List Row}{args:List Value}{cargs:Array Value}(t:BF<|rp.shs ⟨vals,[],[]⟩)
  (b: ∀r∈rows,∀(i:Nat) (v:Value),r.cells[i]?=O v->∃v',w.cell? ⟨r.c,r.o+i,Y⟩=O v'/\VR (oF rows) v v') (a:F2 (VR<|oF rows) args cargs.toList)
  (m:F2 (VRel<|yQ<|rP w.heap.size rows) vs args) (k:(gn (nk [] 0 [] ⟨vals,[],[]⟩ vs) λst=>UB _ st.ls)=O t) (l:run t=O Za):
  Calls P f cargs w λe w'=>e= .returned (.bool Za)/\Go.RowKit.Below w.heap.size w w':=by
 have⟨st,d,g⟩:=ai k;exact aB4 h j b a m d g l
end
section
def IQ {α δ:Type}{f:α->Option (α⊕δ)}{n:Nat}(F:Nat->α){c:δ}(o:n<9223372036854775808)(j: ∀i,i<n->f (F i)=O (.inl<|F<|i+1))(h:f (F n)=O (.inr c)):am f cj (F 0)=O c:=by
 have a: ∀k i m,i+k=n->k<m->am f m (F i)=O c:=by
  intro k;induction k with
  |zero=>
   intro i m d g;obtain⟨m,rfl⟩: ∃b,m=b+1:=⟨m-1,V1⟩
   have:i=n:=by omega
   subst this;show(f<|F i).bind _=_;rw[h];rfl
  |succ k l=>
   intro i m d g;obtain⟨m,rfl⟩: ∃b,m=b+1:=⟨m-1,V1⟩
   show(f<|F i).bind _=_;rw[j i V1];exact l (i+1) m V1 V1
 exact a n 0 cj V1 (by unfold cj;omega)
def bz {γ δ:Type}{f:(Int×γ)->Option ((Int×γ)⊕δ)}{n:Nat}(F:Nat->γ){c:δ}(b:n<9223372036854775808)(d: ∀i,i<n->f ((i:Int),F i)=O (.inl (((i+1:Nat):Int),F<|i+1)))(a:f ((n:Int),F n)=O (.inr c)):am f cj (0,F 0)=O c:=
 IQ (λi=>((i:Int),F i)) b d a
def nr {δ:Type}{f:Int->Option (Int⊕δ)}{n:Nat}{c:δ}(b:n<9223372036854775808)(d: ∀i:Nat,i<n->f (i:Int)=O (.inl ((i+1:Nat):Int)))(a:f (n:Int)=O (.inr c)):am f cj 0=O c:=
 IQ (λi=>(i:Int)) b d a
def Lu {α γ δ:Type}{f:(Int×γ)->Option ((Int×γ)⊕δ)}{l:List α}(g:γ->α->γ)(s:γ){c:γ->δ}(j:ft l<9223372036854775807)
  (d: ∀(i:Nat) (h:i<ft l) s,f ((i:Int),s)=O (.inl (((i+1:Nat):Int),g s l[i]))) (b: ∀s,f ((ft l:Int),s)=O (.inr<|c s)):am f cj (0,s)=O (c<|l.foldl g s):=by
 have h:=bz (f:=f) (n:=ft l) (λi=>(l.take i).foldl g s) (c:=c<|l.foldl g s) V1 ?_ ?_
 .exact h
 .intro i a;rw[d i a,List.take_succ_eq_append_getElem a,List.foldl_append];rfl
 .rw[b,List.take_length]
def ag5 (n:Int):IntKind.u64.wrap n=n % 18446744073709551616:=by rfl
def wY {n:Nat}(h:n<9223372036854775808):IntKind.u64.wrap (n:Int)=n:=by
 rw[ag5];omega
def cn {n:Int}(h:0<=n/\n<18446744073709551616):IntKind.u64.wrap n=n:=by
 rw[ag5];omega
def Zk {n:Int}(h:0<=n/\n<18446744073709551616:=by omega):IntKind.u64.wrap n=n:=cn h
def rh {l:Zd}{i:Nat}(h:i<ft l):rd l (i:Int)=O (l.getD i 0):=by
 rw[bq h,List.getD_eq_getElem?_getD,List.getElem?_eq_getElem h];rfl
theorem bl {k n:Nat}(h:k<n):ix (k:Int) n=O k:=by
 unfold ix
 grind
theorem fy {a b:Int}{n:Nat}(h:0<=a/\a<=b/\b<=n):eU a b n=Za:=by
 unfold eU
 grind
def Zl {a b:Int}{n:Nat}(h:0<=a/\a<=b/\b<=n:=by omega):eU a b n=Za:=fy h
def ag0 {a b:Int}(h:0<=a):Int.tdiv a b=a / b:=Int.tdiv_eq_ediv_of_nonneg h
end
end Go.V
