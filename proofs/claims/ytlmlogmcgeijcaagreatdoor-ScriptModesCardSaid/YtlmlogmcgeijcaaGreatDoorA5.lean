/- A part of the proof. No condition. -/
import Derived.Test.YtlmlogmcgeijcaaGreatDoorA4
set_option linter.unusedVariables false
set_option linter.unusedSimpArgs false
set_option linter.unusedSectionVars false
namespace Go.V
open Go.Ab
open Option renaming some->O,none->Y
open Bool renaming true->Za,false->Zb
open Decidable renaming decide->Zc
variable {a:Value}{i k lo o p:Nat}{s:Sh}{x z:Operand}{b blk:Blk}{v:VV}{kd:IntKind}{d:Nat×Nat}{e:cm}{S':ai}{ea:cf}{cs:List VV}{Z':Hp}{agg neg:Bool}
section
open Nat renaming lt_of_lt_of_le -> aB
structure Ctx where
 μ:Nat->Option Nat
 S:ai
 Z:Hp
 fb:Nat->Prop
def Blk.dim :Blk->Option (Nat×Nat)
 | .dead=>Y
 | .cells f _ l=>O (f,l.length)
 | .arr s _ l=>O (s.w,l.length*s.w)
def Blk.vals :Blk->List VV
 | .dead=>[]
 | .cells _ _ l=>l
 | .arr s _ l=>ff s l
def Ctx.own (c:Ctx)(b:Nat):Prop:= ∃k,(ae c.S k).frozen=Zb/\c.μ k=O b
def Ctx.mut (c:Ctx)(b:Nat):Prop:=c.own b∨c.fb b
def Ga (c:Ctx)(k lo n:Nat)(d:Nat×Nat)(a:Value):Prop:=
 (a= .slice Y 0 0/\lo=0/\n=0/\c.μ k=Y/\d.2=0)∨
 ∃b f y,a= .slice (O ⟨b,lo*d.1,Y⟩) n f/\c.μ k=O b/\(lo+n)*d.1<=d.2/\n<=f/\c.Z.m b=O y/\(lo+f)*d.1<=y.cells.length
inductive VRel (c:Ctx):VV->Value->Prop where
 |undef (a:Value):VRel c .undef a
 |bool (b:Bool):VRel c (.bool b) (.bool b)
 |int (k:IntKind) (n:Int):VRel c (.int k n) (.int k n)
 |str {l:Zd} {s:ByteArray}:cw s=l->VRel c (.str l) (.string s)
 |nilp:VRel c .nilp (.pointer Y)
 |nils:VRel c .nils (.slice Y 0 0)
 |nilf:VRel c .nilf .nilFunc
 |ptr {k o:Nat} {a:Value}:k<c.S.length->one a=Za->(∀d,(ae c.S k).dim=O d->∃b,c.μ k=O b/\a= .pointer (O ⟨b,o,Y⟩))->VRel c (.ptr k o) a
 |it {k:Nat} {l:Zd} {s:ByteArray} {a:Value}:k<c.S.length->one a=Za->cw s=l->(∀d,(ae c.S k).dim=O d->∃b,c.μ k=O b/\a= .iface b (.string s))->VRel c (.it k l) a
 |bld {k:Nat} {a:Value}:k<c.S.length->one a=Za->(∀d,(ae c.S k).dim=O d->∃b,c.μ k=O b/\a= .iface b .nilFunc)->VRel c (.bld k) a
 |pix {k o n i:Nat} {a:Value}:k<c.S.length->one a=Za->i<n->(∀d,(ae c.S k).dim=O d->∃b,c.μ k=O b/\a= .pointer (O ⟨b,o+i,Y⟩))->VRel c (.pix k o n i) a
 |pel {k i o:Nat} {a:Value}:k<c.S.length->one a=Za->(∀d,(ae c.S k).dim=O d->∃b,c.μ k=O b/\a= .pointer (O ⟨b,i*d.1+o,Y⟩))->VRel c (.pel k i o) a
 |pin {s:Sh} {x:El s} {o b p:Nat} {y:Ab.Blk}: ¬c.mut b->c.Z.m b=O y->p+s.w<=y.cells.length->F2 (VRel c) (dq s x) ((y.cells.drop p).take s.w)->VRel c (.pin s x o) (.pointer (O ⟨b,p+o,Y⟩))
 |lstn {s:Sh} {q:Option Addr}:(∀z,q=O z->z.spot=Y)->VRel c (.lst s []) (.slice q 0 0)
 |lst {s:Sh} {l:List (El s)} {b p n cp:Nat} {y:Ab.Blk}: ¬c.mut b->c.Z.m b=O y->y.es=s.w->n=l.length->n<=cp->p+n*s.w<=y.cells.length->
   F2 (VRel c) (ff s l) ((y.cells.drop p).take (n*s.w))->VRel c (.lst s l) (.slice (O ⟨b,p,Y⟩) n cp)
 |tgtn {s:Sh} {a:Value}:(a= .slice Y 0 0∨∃b o,a= .slice (O ⟨b,o,O 0⟩) 0 0)->VRel c (.tgt s []) a
 |tgt {s:Sh} {l:List (El s)} {b p:Nat} {y:Ab.Blk}: ¬c.mut b->c.Z.m b=O y->y.es=s.w->p+l.length*s.w<=y.cells.length->
   F2 (VRel c) (ff s l) ((y.cells.drop p).take (l.length*s.w))->VRel c (.tgt s l) (.slice (O ⟨b,p,O 0⟩) l.length l.length)
 |full {k:Nat} {a:Value}:k<c.S.length->one a=Za->(∀d,(ae c.S k).dim=O d->∃n,n*d.1=d.2/\Ga c k 0 n d a)->VRel c (.full k) a
 |part {k lo n:Nat} {a:Value}:k<c.S.length->one a=Za->(∀d,(ae c.S k).dim=O d->Ga c k lo n d a)->VRel c (.part k lo n) a
 |fn {f:Nat} {a b:List VV} {a' b':Array Value}:F2 (VRel c) a a'.toList->F2 (VRel c) b b'.toList->VRel c (.fn f a b) (.func (.func f) a' b')
 |agg {l:List VV} {l':Array Value}:F2 (VRel c) l l'.toList->VRel c (.agg l) (.agg l')
 |tup {l:List VV} {l':Array Value}:F2 (VRel c) l l'.toList->VRel c (.tup l) (.tuple l')
def J8 (c:Ctx)(k:Nat):Prop:= ∀d,(ae c.S k).dim=O d->1<=d.1/\
 ((d.2=0/\c.μ k=Y)∨∃b y cs f,c.μ k=O b/\c.Z.m b=O y/\y.es=d.1/\((ae c.S k).frozen=Zb->y.own=Za)/\y.cells=cs++f/\F2 (VRel c) (ae c.S k).vals cs)
structure dv (c:Ctx):Prop where
 ok:c.Z.Ok
 inj: ∀k k' b,(ae c.S k).frozen=Zb->(ae c.S k').dim≠Y->c.μ k=O b->c.μ k'=O b->k=k'
 blk: ∀k,J8 c k
 fbk: ∀k b,(ae c.S k).dim≠Y->c.μ k=O b->¬c.fb b
 fbl: ∀b,c.fb b->b<c.Z.n
structure Le (c c':Ctx):Prop where
 len:c.S.length<=c'.S.length
 al: ∀k d,k<c.S.length->(ae c'.S k).dim=O d->(ae c.S k).dim=O d/\c'.μ k=c.μ k
 fz: ∀k,(ae c.S k).frozen=Za->(ae c.S k).dim≠Y->ae c'.S k=ae c.S k
 ln: ∀k d b y,k<c.S.length->(ae c'.S k).dim=O d->c.μ k=O b->c.Z.m b=O y->∃y',c'.Z.m b=O y'/\y'.cells.length=y.cells.length
 un: ∀b y,c.Z.m b=O y->¬c.own b->c'.Z.m b=O y
 ow: ∀b y,c.Z.m b=O y->¬c.own b->¬c'.own b
 n:c.Z.n<=c'.Z.n
 fb:c'.fb=c.fb
theorem Le.rd {c f:Ctx}(h:Le c f)(b:Nat)(y:Ab.Blk)(l:c.Z.m b=O y)(j: ¬c.mut b):f.Z.m b=O y/\¬f.mut b:=by
 have g: ¬c.own b:=λe=>j (.inl e)
 refine⟨h.un b y l g,λe=> ?_⟩;rcases e with e|e
 .exact h.ow b y l g e
 .rw[h.fb]at e;exact j (.inr e)
def uR (d:List Nat)(c f:Ctx):Prop:= ∀k,k<c.S.length->k∉d->(ae c.S k).dim≠Y->(ae f.S k).dim≠Y/\∀b,c.μ k=O b->f.Z.m b=c.Z.m b
theorem me {S:ai}(h:(ae S k).dim≠Y):k<S.length:=by
 induction S generalizing k with
 |nil=>exact(h rfl).elim
 |cons b r f=>
  cases k with
  |zero=>exact Nat.zero_lt_succ _
  |succ k=>exact Nat.succ_lt_succ (f h)
theorem vC {S:ai}(h:S.length<=k):ae S k= .dead:=by
 induction S generalizing k with
 |nil=>rfl
 |cons b r f=>
  cases k with
  |zero=>simp at h
  |succ k=>exact f (by simpa using h)
theorem Ee {S:ai}:(kE S k b).length=S.length:=by
 induction S generalizing k with
 |nil=>rfl
 |cons a r f=>cases k<;>simp[kE,f]
theorem xy {S:ai}:ae (kE S k b) i=if i=k/\k<S.length then b else ae S i:=by
 induction S generalizing k i with
 |nil=>simp[kE]
 |cons a r f=>
  cases k with
  |zero=>cases i<;>simp[kE,ae]
  |succ k=>
   cases i with
   |zero=>simp[kE,ae]
   |succ i=>simp[kE,ae,f]
theorem UV {S:ai}(h:k<S.length):ae (kE S k b) k=b:=by rw[xy,zE ⟨rfl,h⟩]
theorem aq7 {S:ai}(h:i≠k):ae (kE S k b) i=ae S i:=by rw[xy,zF (λe=>h e.1)]
theorem mK {S:ai}{l:List Blk}(h:k<S.length):ae (S++l) k=ae S k:=by
 induction S generalizing k with
 |nil=>simp at h
 |cons a r f=>
  cases k with
  |zero=>rfl
  |succ k=>exact f (by simpa using h)
theorem rH {S:ai}{l:List Blk}{k:Nat}:ae (S++l) (S.length+k)=ae l k:=by
 induction S with
 |nil=>simp
 |cons a r f=>
  have:(a::r).length+k=(r.length+k)+1:=by simp;omega
  rw[this];exact f
theorem Ry {S:ai}:ae (S++[b]) S.length=b:=by
 exact @rH S [b] 0
theorem lT (h:b.frozen=Zb):b.dim≠Y:=by cases b<;>simp[Blk.frozen,Blk.dim]at*
theorem fF :b.freeze.dim=b.dim:=by cases b<;>rfl
theorem Ja :b.freeze.vals=b.vals:=by cases b<;>rfl
theorem ke :b.freeze.frozen=Za:=by cases b<;>rfl
theorem A0 (h:b.frozen=Za):b.freeze=b:=by cases b<;>simp[Blk.frozen,Blk.freeze]at* <;>simp[h]
theorem Le.refl (c:Ctx):Le c c:=⟨Nat.le_refl _,λ_ _ _ h=>⟨h,rfl⟩,λ_ _ _=>rfl,λ_ _ _ y _ _ _ f=>⟨y,f,rfl⟩,λ_ _ h _=>h,λ_ _ _ h=>h,Nat.le_refl _,rfl⟩
theorem Le.trans {a b c:Ctx}(h:Le a b)(k:Le b c):Le a c:=by
 refine⟨Nat.le_trans h.len k.len,λi d j g=> ?_,λi u g=> ?_,λi d x y j g w l=> ?_,λx y l m=>k.un x y (h.un x y l m) (h.ow x y l m),λx y l m=>k.ow x y (h.un x y l m) (h.ow x y l m),Nat.le_trans h.n k.n,k.fb.trans h.fb⟩
 .obtain⟨f,t⟩:=k.al i d (aB j h.len) g;obtain⟨q,r⟩:=h.al i d j f;exact⟨q,t.trans r⟩
 .have f:=h.fz i u g;rw[k.fz i (by rw[f];exact u) (by rw[f];exact g),f]
 .obtain⟨f,t⟩:=k.al i d (aB j h.len) g;obtain⟨D,q,r⟩:=h.ln i d x y j f w l;obtain⟨_,B⟩:=h.al i d j f;obtain⟨E,A,C⟩:=k.ln i d x D (aB j h.len) g (B.trans w) q;exact⟨E,A,C.trans r⟩
theorem uR.refl (d:List Nat)(c:Ctx):uR d c c:=λ_ _ _ h=>⟨h,λ_ _=>rfl⟩
theorem Ga.frame {c g:Ctx}(h:Le c g){n:Nat}(q:k<c.S.length)(m:(ae g.S k).dim=O d)(B:Ga c k lo n d a):Ga g k lo n d a:=by
 obtain⟨E,l⟩:=h.al k d q m;rcases B with⟨rfl,rfl,rfl,f,D⟩|⟨b,r,y,rfl,f,t,u,C,w⟩
 .exact .inl ⟨rfl,rfl,rfl,l.trans f,D⟩
 .obtain⟨y',j,A⟩:=h.ln k d b y q m f C;exact .inr ⟨b,r,y',rfl,l.trans f,t,u,j,by rw[A];exact w⟩
theorem VRel.frame {c C:Ctx}(h:Le c C): ∀{v:VV} {a:Value},VRel c v a->VRel C v a
 |_,_, .undef a=> .undef a
 |_,_, .bool b=> .bool b
 |_,_, .int k n=> .int k n
 |_,_, .str F=> .str F
 |_,_, .nilp=> .nilp
 |_,_, .nils=> .nils
 |_,_, .nilf=> .nilf
 |_,_, .ptr j f t=> .ptr (aB j h.len) f λd g=>by
  obtain⟨f,q⟩:=h.al _ d j g;obtain⟨b,r,u⟩:=t d f;exact⟨b,q.trans r,u⟩
 |_,_, .it j f F t=> .it (aB j h.len) f F λd g=>by
  obtain⟨f,q⟩:=h.al _ d j g;obtain⟨b,r,u⟩:=t d f;exact⟨b,q.trans r,u⟩
 |_,_, .bld j f t=> .bld (aB j h.len) f λd g=>by
  obtain⟨f,q⟩:=h.al _ d j g;obtain⟨b,r,u⟩:=t d f;exact⟨b,q.trans r,u⟩
 |_,_, .pix j f H t=> .pix (aB j h.len) f H λd g=>by
  obtain⟨f,q⟩:=h.al _ d j g;obtain⟨b,r,u⟩:=t d f;exact⟨b,q.trans r,u⟩
 |_,_, .pel j f t=> .pel (aB j h.len) f λd g=>by
  obtain⟨f,q⟩:=h.al _ d j g;obtain⟨b,r,u⟩:=t d f;exact⟨b,q.trans r,u⟩
 |_,_, .pin w A I B=> .pin (h.rd _ _ A w).2 (h.rd _ _ A w).1 I (go B)
 |_,_, .lstn E=> .lstn E
 |_,_, .lst w A D f q r B=> .lst (h.rd _ _ A w).2 (h.rd _ _ A w).1 D f q r (go B)
 |_,_, .tgtn E=> .tgtn E
 |_,_, .tgt w A D r B=> .tgt (h.rd _ _ A w).2 (h.rd _ _ A w).1 D r (go B)
 |_,_, .full j f t=> .full (aB j h.len) f λd g=>by
  obtain⟨f,q⟩:=h.al _ d j g;obtain⟨n,r,u⟩:=t d f;exact⟨n,r,u.frame h j g⟩
 |_,_, .part j f t=> .part (aB j h.len) f λd g=>by
  obtain⟨f,q⟩:=h.al _ d j g;exact(t d f).frame h j g
 |_,_, .fn f q=> .fn (go f) (go q)
 |_,_, .agg f=> .agg (go f)
 |_,_, .tup f=> .tup (go f)
where
 go: ∀{l:List VV} {m:List Value},F2 (VRel c) l m->F2 (VRel C) l m
  |_,_, .nil=> .nil
  |_,_, .cons f q=> .cons (VRel.frame h f) (go q)
theorem VRel.frames {c f:Ctx}(h:Le c f){l:List VV}{m:List Value}(g:F2 (VRel c) l m):F2 (VRel f) l m:=g.imp λ_ _ j=>j.frame h
def gx {β:Type}(c:Ctx)(d:List Nat)(k:VV->ai->Option β)(y:β)(v:Value)(Z':Hp):Prop:=
 ∃g f,f.Z=Z'/\Le c f/\dv f/\uR d c f/\VRel f g v/\k g f.S=O y
theorem gx.same {β:Type}{c:Ctx}{d:List Nat}{k:VV->ai->Option β}{y:β}{v:Value}{f:VV}(g:dv c)(j:VRel c f v)(h:k f c.S=O y):gx c d k y v c.Z:=
 ⟨f,c,rfl,Le.refl c,g,uR.refl d c,j,h⟩
end
variable {c:Ctx}
section
open List renaming length_append -> bB, take_of_length_le -> bD, length_cons -> cD, length_drop -> cK, take_append -> cL
open Nat renaming succ_mul -> aB, le_refl -> aD, mul_le_mul_right -> cB
theorem mM : ∀s:Sh,1<=s.w
 | .int _=>aD _
 | .bool=>aD _
 | .str=>aD _
 | .list _=>aD _
 | .pair a _=>Nat.le_trans (mM a) (Nat.le_add_right _ _)
theorem ec : ∀(s:Sh) (x:El s),(dq s x).length=s.w
 | .int _,_=>rfl
 | .bool,_=>rfl
 | .str,_=>rfl
 | .list _,_=>rfl
 | .pair a b,x=>by
  simp only[dq,bB,Sh.w];rw[ec a,ec b]
theorem EG :ff s []=[]:=rfl
theorem gf {x:El s}{l:List (El s)}:ff s (x::l)=dq s x++ff s l:=rfl
theorem gk {l:List (El s)}:(ff s l).length=l.length*s.w:=by
 induction l with
 |nil=>simp[EG]
 |cons x l f=>rw[gf,bB,ec,f,cD,aB,Nat.add_comm]
theorem xq {l m:List (El s)}:ff s (l++m)=ff s l++ff s m:=List.flatMap_append
theorem kA {l:List (El s)}{n:Nat}:ff s (l.take n)=(ff s l).take (n*s.w):=by
 induction l generalizing n with
 |nil=>simp[EG]
 |cons x l g=>
  cases n with
  |zero=>simp[EG]
  |succ n=>
   rw[List.take_succ_cons,gf,gf,g,cL,ec];have f:(n+1)*s.w-s.w=n*s.w:=by rw[aB];omega
   rw[f,bD (l:=dq s x) (by rw[ec,aB];omega)]
theorem yr {l:List (El s)}{n:Nat}:ff s (l.drop n)=(ff s l).drop (n*s.w):=by
 induction l generalizing n with
 |nil=>simp[EG]
 |cons x l g=>
  cases n with
  |zero=>simp
  |succ n=>
   rw[List.drop_succ_cons,gf,g,List.drop_append,ec];have f:(n+1)*s.w-s.w=n*s.w:=by rw[aB];omega
   rw[f,List.drop_of_length_le (l:=dq s x) (by rw[ec,aB];omega),List.nil_append]
theorem HY {l:List (El s)}{x:El s}(h:l[i]?=O x):((ff s l).drop (i*s.w)).take s.w=dq s x:=by
 rw[<-yr]
 have f:i<l.length:=by
  rcases Nat.lt_or_ge i l.length with h1|h1
  .exact h1
  .rw[List.getElem?_eq_none h1]at h;cases h
 have g:l.drop i=x::l.drop (i+1):=by
  rw[List.drop_eq_getElem_cons f];rw[List.getElem?_eq_getElem f]at h;injection h with h
  rw[h]
 rw[g,gf,cL,ec,Nat.sub_self,List.take_zero,List.append_nil,bD (by rw[ec];exact aD _)]
theorem lG {f:Sh}{x:El f}{y:El s}(h:kZ f s x=O y): ∃e:f=s,y=e▸x:=by
 unfold kZ at h;split at h
 .rename_i e;injection h with h
  exact⟨e,h.symm⟩
 .cases h
theorem jY {x:El s}:kZ s s x=O x:=by
 unfold kZ;rw[dif_pos rfl]
theorem F2.app_left {α β:Type}{r:α->β->Prop}{l l':List α}{m:List β}(h:F2 r (l++l') m): ∃f g,m=f++g/\F2 r l f/\F2 r l' g:=by
 induction l generalizing m with
 |nil=>exact⟨[],m,rfl, .nil,h⟩
 |cons a l u=>
  cases h with
  |cons j n=>
   obtain⟨f,g,rfl,q,t⟩:=u n;exact⟨_::f,g,rfl, .cons j q,t⟩
def xU (c:Ctx)(s:Sh)(l:List (El s))(a:Value):Prop:=
 (∃q:Option Addr,a= .slice q 0 0/\l=[]/\∀z,q=O z->z.spot=Y)∨∃b p f y,a= .slice (O ⟨b,p,Y⟩) l.length f/\c.Z.m b=O y/\y.es=s.w/\l.length<=f/\p+l.length*s.w<=y.cells.length/\F2 (VRel c) (ff s l) ((y.cells.drop p).take (l.length*s.w))
theorem xU.rel {l:List (El s)}(h:xU c s l a)(A: ∀b p n f,a= .slice (O ⟨b,p,Y⟩) n f->f≠0->¬c.mut b):VRel c (.lst s l) a:=by
 rcases h with⟨q,rfl,rfl,B⟩|⟨b,p,f,y,rfl,m,r,t,u,w⟩
 .exact .lstn B
 .by_cases j:f=0
  .subst j;have:l=[]:=List.length_eq_zero_iff.1 (by omega);subst this;exact .lstn λz g=>by injection g with g;rw[<-g]
  .exact .lst (A _ _ _ _ rfl j) m r rfl t u w
theorem VRel.listAt {l:List (El s)}(h:VRel c (.lst s l) a):xU c s l a:=by
 cases h with
 |lstn q=>exact .inl ⟨_,rfl,rfl,q⟩
 |lst t r n f g j m=>subst f;exact .inr ⟨_,_,_,_,rfl,r,n,g,j,m⟩
theorem VRel.lst_mut {l:List (El s)}{b n f:Nat}(h:VRel c (.lst s l) (.slice (O ⟨b,p,Y⟩) n f))(g:f≠0): ¬c.mut b:=by
 cases h with
 |lstn=>exact(g rfl).elim
 |lst j=>exact j
theorem dv.fz_mut (g:dv c){b:Nat}(l:(ae c.S k).frozen=Za)(j:(ae c.S k).dim≠Y)(m:c.μ k=O b): ¬c.mut b:=by
 rintro(⟨q,f,n⟩|h)
 .have:=g.inj q k b f j n m;subst this;rw[f]at l;cases l
 .exact g.fbk k b j m h
def IK (c:Ctx)(s:Sh)(f:List VV->Option (El s×List VV)):Prop:= ∀g x h,f g=O (x,h)->
 ∃j,g=j++h/\j.length=s.w/\∀l,F2 (VRel c) j l->F2 (VRel c) (dq s x) l
theorem HN {c:Ctx}{s:Sh}{f:List VV->Option (El s×List VV)}(u:IK c s f): ∀(n:Nat) (cells:List VV) (l:List (El s)),IP f n cells=O l->
  cells.length=l.length*s.w/\∀as,F2 (VRel c) cells as->F2 (VRel c) (ff s l) as
 |n,[],l,h=>by
  have:l=[]:=by cases n<;>simpa[IP]using h.symm
  subst this;exact⟨by simp,λas j=>j⟩
 |0,_::_,_,h=>by simp[IP]at h
 |n+1,v::r,l,h=>by
  simp only[IP]at h;cases m:f (v::r)with
  |none=>rw[m]at h;cases h
  |some p=>
   obtain⟨x,g⟩:=p;rw[m]at h;simp only[zG]at h;cases q:IP f n g with
   |none=>rw[q]at h;cases h
   |some H=>
    rw[q]at h;injection h with h
    subst h;obtain⟨I,t,A,B⟩:=u _ _ _ m;obtain⟨C,D⟩:=HN u n g H q;refine⟨by rw[t,bB,A,C,cD,aB,Nat.add_comm],λas j=> ?_⟩;rw[t]at j;obtain⟨J,K,rfl,E,F⟩:=F2.app_left j;exact(B _ E).append (D _ F)
theorem rB {f:List VV->Option (El s×List VV)}(r:IK c s f){l:List (El s)}(h:xc s f (ae c.S k)=O l):
  ∃d,(ae c.S k).dim=O d/\d.1=s.w/\d.2=l.length*s.w/\∀as,F2 (VRel c) (ae c.S k).vals as->F2 (VRel c) (ff s l) as:=by
 generalize ae c.S k=b at h;cases b with
 |dead=>cases h
 |arr t z m=>
  obtain⟨e,g⟩:=lG h;cases e;subst g;exact⟨_,rfl,rfl,rfl,λ_ h=>h⟩
 |cells n z m=>
  simp only[xc]at h;cases j:Nat.beq n s.w with
  |false=>rw[j]at h;cases h
  |true=>
   rw[j,zC]at h;obtain⟨g,q⟩:=HN r _ _ _ h;exact⟨_,rfl,Nat.eq_of_beq_eq_true j,g,q⟩
theorem KI (W:dv c){f:List VV->Option (El s×List VV)}(X:IK c s f){n:Nat}{l:List (El s)}(h:xc s f (ae c.S k)=O l)
  (M:(ae c.S k).dim=O d) (hs:Ga c k lo n d a):xU c s ((l.drop lo).take n) a/\((l.drop lo).take n).length=n:=by
 obtain⟨d',B,C,I,U⟩:=rB X h;rw[M]at B;injection B with B
 subst B;obtain⟨h0,L⟩:=W.blk k d M;have N:=mM s;rcases hs with⟨rfl,rfl,rfl,q,H⟩|⟨b,Q,y,rfl,q,J,K,F,V⟩
 .have:l.length=0:=by
   rw[H]at I;rcases Nat.eq_zero_or_pos l.length with h|h
   .exact h
   .have:=Nat.mul_pos h N;omega
  rw[List.length_eq_zero_iff]at this;subst this;exact⟨.inl ⟨Y,rfl,by simp,λz H=>by cases H⟩,by simp⟩
 .have Z:lo+n<=l.length:=by
   rw[C,I]at J;exact Nat.le_of_mul_le_mul_right J N
  have g:((l.drop lo).take n).length=n:=by rw[List.length_take,cK];omega
  refine⟨.inr ⟨b,lo*d.1,Q,y,by rw[g],F, ?_,by rw[g];exact K, ?_, ?_⟩,g⟩
  .rcases L with⟨m,j⟩|⟨P,y',cs,A,m,j,r,_⟩
   .rw[j]at q;cases q
   .rw[q]at m;injection m with m
    subst m;rw[F]at j;injection j with j
    subst j;rw[r,C]
  .rw[g];have:=cB d.1 K;rw[Nat.add_mul]at V;rw[<-C];omega
  .rcases L with⟨m,j⟩|⟨P,y',cs,A,m,j,r,_,D,E⟩
   .rw[j]at q;cases q
   .rw[q]at m;injection m with m
    subst m;rw[F]at j;injection j with j
    subst j;have t:=U _ E;have u:cs.length=l.length*s.w:=by rw[<-t.length,gk]
    rw[g,kA,yr,C,D,List.drop_append_of_le_length (by rw[u];exact cB _ (by omega)),List.take_append_of_le_length]
    .exact(t.drop _).take _
    .rw[cK,u,<-Nat.sub_mul];exact cB _ (by omega)
theorem Qp (u:dv c){f:List VV->Option (El s×List VV)}(m:IK c s f){l:List (El s)}(h:xc s f (ae c.S k)=O l)(A:VRel c (.full k) a):xU c s l a:=by
 obtain⟨d,g,q,r,B⟩:=rB m h;cases A with
 |full C _ w=>
  obtain⟨n,j,t⟩:=w d g
  have D:n=l.length:=by
   rw[q,r]at j;exact Nat.eq_of_mul_eq_mul_right (mM s) j
  have:=(KI u m h g t).1
  rwa [List.drop_zero,bD (by omega)]at this
theorem QZ (m:dv c){f:List VV->Option (El s×List VV)}(j:IK c s f){n:Nat}{l:List (El s)}(h:xc s f (ae c.S k)=O l)(r:VRel c (.part k lo n) a):
  xU c s ((l.drop lo).take n) a/\((l.drop lo).take n).length=n:=by
 obtain⟨d,g,t,u,w⟩:=rB j h;cases r with
 |part A _ q=>exact KI m j h g (q d g)
def H7 :VV->Option Nat
 | .full k=>O k
 | .part k _ _=>O k
 |_=>Y
theorem Ga.addr {n:Nat}{b m g:Nat}(h:Ga c k lo n d (.slice (O ⟨b,p,Y⟩) m g)):c.μ k=O b:=by
 rcases h with⟨h,_⟩|⟨q,j,y,h,l,_⟩
 .cases h
 .injection h with f r t
  injection f with f
  injection f with f
  subst f;exact l
theorem Nq (w:dv c){f:List VV->Option (El s×List VV)}(t:IK c s f){l:List (El s)}(h:D4 c.S s f v=O l)(j:VRel c v a):
  xU c s l a/\∀b p n q,a= .slice (O ⟨b,p,Y⟩) n q->q≠0->¬c.mut b∨∃k,H7 v=O k/\(ae c.S k).dim≠Y/\c.μ k=O b:=by
 cases v<;>simp only[D4]at h<;>try(cases h;done)
 case nils=>
  injection h with h
  subst h;cases j;exact⟨.inl ⟨Y,rfl,rfl,λz D=>by cases D⟩,λb p n q e=>by cases e⟩
 case lst s' l'=>
  obtain⟨e,g⟩:=lG h;cases e;subst g;refine⟨j.listAt,λb p n q e B=> .inl ?_⟩;subst e;exact j.lst_mut B
 case full k=>
  refine⟨Qp w t h j,λb p n q e _=> .inr ⟨k,rfl, ?_⟩⟩;obtain⟨d,g,_⟩:=rB t h;subst e;cases j with
  |full C _ u=>
   obtain⟨_,_,A⟩:=u d g;exact⟨by rw[g];simp,A.addr⟩
 case part k lo m=>
  cases r:xc s f (ae c.S k)with
  |none=>rw[r]at h;cases h
  |some E=>
   rw[r]at h;injection h with h
   subst h;refine⟨(QZ w t r j).1,λb p n q e _=> .inr ⟨k,rfl, ?_⟩⟩;obtain⟨d,g,_⟩:=rB t r;subst e;cases j with
   |part C _ u=>exact⟨by rw[g];simp,(u d g).addr⟩
theorem Li (t:dv c){f:List VV->Option (El s×List VV)}(C:IK c s f){l:List (El s)}(h:O0 c.S s f v=O l)(D:VRel c v a):VRel c (.lst s l) a:=by
 have j:D4 c.S s f v=O l/\∀k,H7 v=O k->(ae c.S k).frozen=Za:=by
  unfold O0 at h;split at h
  .rename_i k;cases g:(ae c.S k).frozen with
   |false=>rw[g]at h;cases h
   |true=>
    rw[g]at h;exact⟨h,λE e=>by cases e;exact g⟩
  .rename_i k lo n;cases g:(ae c.S k).frozen with
   |false=>rw[g]at h;cases h
   |true=>
    rw[g]at h;exact⟨h,λE e=>by cases e;exact g⟩
  .rename_i m q;refine⟨h,λk e=> ?_⟩;cases v<;>simp only[H7]at e<;>try(cases e;done)
   .exact(m _ rfl).elim
   .exact(q _ _ _ rfl).elim
 obtain⟨m,q⟩:=Nq t C j.1 D;refine m.rel λb p n u e B=> ?_
 rcases q b p n u e B with r|⟨k,r,w,A⟩
 .exact r
 .exact t.fz_mut (j.2 k r) w A
theorem jZ {c:Ctx}(u:dv c): ∀s:Sh,IK c s (jS c.S s)
 | .int k,f,x,g,h=>by
  cases f with
  |nil=>simp[jS]at h
  |cons v r=>
   cases v<;>simp only[jS]at h<;>try(cases h;done)
   rename_i L n;cases C:Zc (L=k)with
   |false=>rw[C]at h;cases h
   |true=>
    rw[C]at h;injection h with h
    injection h with j m
    subst j;subst m;have:=of_decide_eq_true C;subst this;exact⟨[_],rfl,rfl,λ_ h=>h⟩
 | .bool,f,x,g,h=>by
  cases f with
  |nil=>simp[jS]at h
  |cons v r=>
   cases v<;>simp only[jS]at h<;>try(cases h;done)
   injection h with h
   injection h with j m
   subst j;subst m;exact⟨[_],rfl,rfl,λ_ h=>h⟩
 | .str,f,x,g,h=>by
  cases f with
  |nil=>simp[jS]at h
  |cons v r=>
   cases v<;>simp only[jS]at h<;>try(cases h;done)
   injection h with h
   injection h with j m
   subst j;subst m;exact⟨[_],rfl,rfl,λ_ h=>h⟩
 | .list s,f,x,g,h=>by
  cases f with
  |nil=>simp[jS]at h
  |cons v r=>
   simp only[jS]at h;cases j:O0 c.S s (jS c.S s) v with
   |none=>rw[j]at h;cases h
   |some l=>
    rw[j]at h;injection h with h
    injection h with m w
    subst m;subst w;refine⟨[v],rfl,rfl,λF t=> ?_⟩;cases t with
    |cons t K=>
     cases K;exact .cons (Li u (jZ u s) j t) .nil
 | .pair a b,f,x,g,h=>by
  simp only[jS]at h;cases j:jS c.S a f with
  |none=>rw[j]at h;cases h
  |some p=>
   obtain⟨y,P⟩:=p;rw[j]at h;simp only[zG]at h;cases m:jS c.S b P with
   |none=>rw[m]at h;cases h
   |some q=>
    obtain⟨z,V⟩:=q;rw[m]at h;injection h with h
    injection h with w H
    subst w;subst H;obtain⟨M,rfl,D,A⟩:=jZ u a _ _ _ j;obtain⟨N,rfl,E,B⟩:=jZ u b _ _ _ m;refine⟨M++N,by rw[List.append_assoc],by rw[bB,D,E];rfl,λF t=> ?_⟩;obtain⟨Q,U,rfl,I,J⟩:=F2.app_left t;exact(A _ I).append (B _ J)
theorem Yc (g:dv c){l:List (El s)}(h:Uw c.S s v=O l)(j:VRel c v a):
  xU c s l a/\∀b p n f,a= .slice (O ⟨b,p,Y⟩) n f->f≠0->¬c.mut b∨∃k,H7 v=O k/\(ae c.S k).dim≠Y/\c.μ k=O b:=
 Nq g (jZ g s) h j
end
section
open Bool renaming and_eq_true -> aD
open List renaming getElem?_eq_getElem -> aB, getD_eq_getElem?_getD -> bB, getElem?_map -> bD, all_append -> cD, getElem?_eq_none -> cK, length_drop -> cL, length_take -> cM
open Nat renaming zero_add -> cB, le_of_ble_eq_true -> cN
def au (c:Ctx)(e:cm)(ea:cf):Prop:= ∀t,VRel c (ld e t) (ea t)
theorem au.frame {f:Ctx}(h:au c e ea)(g:Le c f):au f e ea:=λt=>(h t).frame g
theorem vy {d t:Nat}:ld (pP e d v) t=if t=d then v else ld e t:=by
 induction d generalizing e t with
 |zero=>cases e<;>cases t<;>simp[pP,ld]
 |succ d f=>
  cases e with
  |nil=>
   cases t with
   |zero=>simp[pP,ld]
   |succ t=>simp[pP,ld,f]
  |cons a r=>
   cases t with
   |zero=>simp[pP,ld]
   |succ t=>simp[pP,ld,f]
theorem au.put (h:au c e ea){d:Nat}(g:VRel c v a):au c (pP e d v) (ea.put d a):=by
 intro t;rw[vy];unfold cf.put;by_cases f:t=d
 .rw[zE f,zE f];exact g
 .rw[zF f,zF f];exact h t
theorem au.putO (h:au c e ea){d:Option Nat}(f:VRel c v a):au c (putO e d v) (ea.putO d a):=by
 cases d with
 |none=>exact h
 |some d=>exact h.put f
theorem QN (c:Ctx)(v:Value):VRel c (JF v) v:=by
 unfold JF;split
 .exact .bool _
 .exact .int _ _
 .exact .str rfl
 .exact .nilp
 .exact .nils
 .exact .nilf
 .exact .undef _
theorem EP (c:Ctx)(l:List Value):F2 (VRel c) (l.map JF) l:=by
 induction l with
 |nil=>exact .nil
 |cons v l f=>exact .cons (QN c v) f
theorem am9 (c:Ctx)(v:Value):VRel c (ofC v) v:=by
 unfold ofC;split
 .rename_i cs;exact .agg (by simpa using EP c cs.toList)
 .exact QN c _
theorem bv (h:au c e ea)(x:Operand):VRel c (ev e x) (ea.ev x):=by
 cases x with
 |tmp t=>exact h t
 |const v=>exact am9 c v
 |global _=>exact .undef _
 |func f=>exact .fn .nil .nil
theorem JU (h:au c e ea)(f:List Operand):F2 (VRel c) (f.map (ev e)) (f.map ea.ev):=by
 induction f with
 |nil=>exact .nil
 |cons x f g=>exact .cons (bv h x) g
theorem aw {β:Type}{b:Bool}{x:Option β}{y:β}(h:gd b x=O y):b=Za/\x=O y:=by
 cases b with
 |false=>cases h
 |true=>exact⟨rfl,h⟩
theorem QT (h:VRel c v a)(f:ao5 v=Za):one a=Za:=by
 cases h<;>first|rfl|assumption|(cases f;done)|(rename_i h;rcases h with rfl|⟨_,_,rfl⟩<;>rfl)
theorem ku {c:Ctx}: ∀{l:List VV} {m:List Value},F2 (VRel c) l m->oC l=Za->m.all one=Za
 |_,_, .nil,_=>rfl
 |_,_, .cons f g,h=>by
  simp only[oC,List.all_cons,aD]at h⊢;exact⟨QT f h.1,ku g h.2⟩
theorem Em : ∀(s:Sh) (x:El s),oC (dq s x)=Za
 | .int _,_=>rfl
 | .bool,_=>rfl
 | .str,_=>rfl
 | .list _,_=>rfl
 | .pair a b,x=>by
  have f:=Em a x.1;have g:=Em b x.2;simp only[oC,dq,cD,aD]at*;exact⟨f,g⟩
theorem rE (s:Sh)(l:List (El s)):oC (ff s l)=Za:=by
 induction l with
 |nil=>rfl
 |cons x l g=>
  have f:=Em s x;rw[gf];simp only[oC,cD,aD]at*;exact⟨f,g⟩
theorem HM (h:VRel c v a)(g:oC (mF v)=Za):F2 (VRel c) (mF v) (cellsOf a):=by
 have f:one a=Za->cellsOf a=[a]:=λh=>by cases a<;>first|rfl|(cases h;done)
 cases v with
 |agg l=>
  cases h with
  |agg h=>exact h
 |undef=>cases g
 |tup l=>cases g
 |_=>
  rw[f (QT h rfl)];exact .cons h .nil
theorem bw {T:fM}{op:AOp}{e:cf}{Z:Hp}{v:Value}{K:Value->Hp->Prop}(h:op.run e Z=O (v,Z'))(f:K v Z'):bu T op e Z K:=by
 unfold bu;split
 .cases h
 .cases h
 .rw[h];exact f
theorem we {α:Type}: ∀(l:List α) (i:Nat),nth l i=l[i]?
 |[],_=>rfl
 |_::_,0=>rfl
 |_::l,i+1=>by
  rw[show nth (_::l) (i+1)=nth l i from rfl,we l i];rfl
theorem F2.nth {l:List VV}{m:List Value}(h:F2 (VRel c) l m)(f:nth l i=O v): ∃a,m[i]?=O a/\VRel c v a:=by
 rw[we]at f;exact h.get i v f
theorem H9 {k:IntKind}: ∀{cs:List VV} {l:Zd},vz k cs=O l->cs=l.map (.int k)
 |[],l,h=>by cases h;rfl
 |v::r,l,h=>by
  cases v<;>simp only[vz]at h<;>try(cases h;done)
  rename_i j n;cases g:Zc (j=k)with
  |false=>rw[g]at h;cases h
  |true=>
   rw[g,zC]at h;cases f:vz k r with
   |none=>rw[f]at h;cases h
   |some m=>
    rw[f]at h;injection h with h
    subst h;rw[H9 f,of_decide_eq_true g];rfl
theorem KK : ∀{cs:List VV} {l:List Bool},KJ cs=O l->cs=l.map .bool
 |[],l,h=>by cases h;rfl
 |v::r,l,h=>by
  cases v<;>simp only[KJ]at h<;>try(cases h;done)
  cases f:KJ r with
  |none=>rw[f]at h;cases h
  |some m=>
   rw[f]at h;injection h with h
   subst h;rw[KK f];rfl
theorem NJ : ∀{cs:List VV} {l:List (Zd)},RD cs=O l->cs=l.map .str
 |[],l,h=>by cases h;rfl
 |v::r,l,h=>by
  cases v<;>simp only[RD]at h<;>try(cases h;done)
  cases f:RD r with
  |none=>rw[f]at h;cases h
  |some m=>
   rw[f]at h;injection h with h
   subst h;rw[NJ f];rfl
theorem Q0 {β:Type}{S:ai}{k:VV->ai->Option β}{y:β}: ∀{cs:List VV} {i:Nat},UK S k cs i=O y->∃v,cs[i]?=O v/\k v S=O y
 |[],_,h=>by cases h
 |v::r,i,h=>by
  simp only[UK]at h;cases f:Nat.beq i 0 with
  |true=>
   rw[f]at h;have:=Nat.eq_of_beq_eq_true f;subst this;exact⟨v,rfl,h⟩
  |false=>
   rw[f]at h;obtain⟨w,g,l⟩:=Q0 h;have:i≠0:=λe=>by subst e;cases f
   obtain⟨j,rfl⟩:=Nat.exists_eq_succ_of_ne_zero this;exact⟨w,g,l⟩
theorem P1 {β:Type}{S:ai}{k:VV->ai->Option β}{y:β}(j:i<cs.length)(h:P0 cs i S k=O y): ∃v,cs[i]?=O v/\k v S=O y:=by
 unfold P0 at h;split at h
 .rename_i kd n r;split at h
  .rename_i l g;have:=H9 g;subst this;refine⟨_, ?_,h⟩;rw[show(VV.int kd n::l.map (VV.int kd))=(n::l).map (VV.int kd)from rfl,bD];have f:i<(n::l).length:=by simpa using j
   rw[aB f,bB,aB f];rfl
  .cases h
 .rename_i b r;split at h
  .rename_i l g;have:=KK g;subst this;refine⟨_, ?_,h⟩;rw[show(VV.bool b::l.map VV.bool)=(b::l).map VV.bool from rfl,bD];have f:i<(b::l).length:=by simpa using j
   rw[aB f,bB,aB f];rfl
  .cases h
 .rename_i b r;split at h
  .rename_i l g;have:=NJ g;subst this;refine⟨_, ?_,h⟩;rw[show(VV.str b::l.map VV.str)=(b::l).map VV.str from rfl,bD];have f:i<(b::l).length:=by simpa using j
   rw[aB f,bB,aB f];rfl
  .cases h
 .exact Q0 h
theorem dv.block (j:dv c){b:Nat}(l:(ae c.S k).dim=O d)(f:c.μ k=O b):
  ∃y cs rest,c.Z.m b=O y/\y.es=d.1/\((ae c.S k).frozen=Zb->y.own=Za)/\y.cells=cs++rest/\F2 (VRel c) (ae c.S k).vals cs:=by
 obtain⟨_,h⟩:=j.blk k d l;rcases h with⟨_,h⟩|⟨n,y,cs,rest,h,g⟩
 .rw[h]at f;cases f
 .rw[f]at h;injection h with h
  subst h;exact⟨y,cs,rest,g⟩
def uj (c:Ctx)(cs:List VV)(b p:Nat):Prop:= ∃y,c.Z.m b=O y/\p+cs.length<=y.cells.length/\F2 (VRel c) cs ((y.cells.drop p).take cs.length)
theorem uj.get {b:Nat}(h:uj c cs b p)(f:nth cs o=O v): ∃y a,c.Z.m b=O y/\y.cells[p+o]?=O a/\VRel c v a:=by
 obtain⟨y,g,r,j⟩:=h;obtain⟨a,l,n⟩:=F2.nth j f;refine⟨y,a,g, ?_,n⟩;rw[we]at f
 have q:o<cs.length:=by
  rcases Nat.lt_or_ge o cs.length with h|h
  .exact h
  .rw[cK h]at f;cases f
 rwa [List.getElem?_take,zE q,List.getElem?_drop]at l
theorem uj.read {b:Nat}(h:uj c cs b p){n:Nat}(q:o+n<=cs.length): ∃y as,c.Z.m b=O y/\pz y (p+o) n=O as/\F2 (VRel c) ((cs.drop o).take n) as:=by
 obtain⟨y,g,l,j⟩:=h;refine⟨y,(y.cells.drop (p+o)).take n,g,Zg, ?_⟩;have f:=(j.drop o).take n;rw[List.drop_take,List.drop_drop,List.take_take,Nat.min_eq_left (by omega)]at f;exact f
theorem dv.stands (l:dv c){b:Nat}(m:(ae c.S k).dim=O d)(n:c.μ k=O b):uj c (ae c.S k).vals b 0:=by
 obtain⟨y,cs,h,j,_,_,f,g⟩:=l.block m n;have q:=g.length;refine⟨y,j,by rw[f,List.length_append];omega, ?_⟩;rw[List.drop_zero,f,List.take_append_of_le_length (by omega),List.take_of_length_le (by omega)];exact g
theorem uj.part {b:Nat}(h:uj c cs b p){n:Nat}(q:o+n<=cs.length):uj c ((cs.drop o).take n) b (p+o):=by
 obtain⟨y,g,m,j⟩:=h;have f:((cs.drop o).take n).length=n:=by rw[cM,cL];omega
 refine⟨y,g,by rw[f];omega, ?_⟩;have l:=(j.drop o).take n;rw[List.drop_take,List.drop_drop,List.take_take,Nat.min_eq_left (by omega)]at l
 rwa [f]
theorem Q7 {β:Type}(P:dv c){n:Nat}{k:VV->ai->Option β}{y:β}(h:NB c.S n agg v k=O y)(M:VRel c v a):
  ∃b o x,a= .pointer (O ⟨b,o,Y⟩)/\c.Z.m b=O x/\
   (agg=Zb->∃u w,x.cells[o]?=O u/\VRel c w u/\k w c.S=O y)/\
   (agg=Za->∃K L,pz x o n=O K/\F2 (VRel c) L K/\k (.agg L) c.S=O y):=by
 have t: ∀(cs:List VV) (b p o:Nat),uj c cs b p->a= .pointer (O ⟨b,p+o,Y⟩)->
   cond agg (gd (Nat.ble (o+n) cs.length) (k (.agg ((cs.drop o).take n)) c.S)) (match nth cs o with
    |some v=>k v c.S
    |none=>Y)=O y->
   ∃b o x,a= .pointer (O ⟨b,o,Y⟩)/\c.Z.m b=O x/\
   (agg=Zb->∃u w,x.cells[o]?=O u/\VRel c w u/\k w c.S=O y)/\
   (agg=Za->∃K L,pz x o n=O K/\F2 (VRel c) L K/\k (.agg L) c.S=O y):=by
  intro cs b p o g r h;cases agg with
  |true=>
   obtain⟨C,N⟩:=aw h;obtain⟨x,X,D,B,E⟩:=g.read (cN C);exact⟨b,p+o,x,r,D,(by intro h;cases h),λ_=>⟨X,_,B,E,N⟩⟩
  |false=>
   rw[zD]at h;split at h
   .rename_i w hw;obtain⟨x,u,D,B,E⟩:=g.get hw;exact⟨b,p+o,x,r,D,(λ_=>⟨u,w,B,E,h⟩),(by intro h;cases h)⟩
   .cases h
 unfold NB at h;cases v with
 |ptr q o=>
  simp only at h;cases f:ae c.S q with
  |dead=>rw[f]at h;cases h
  |arr s z l=>rw[f]at h;cases h
  |cells A z l=>
   rw[f]at h;cases M with
   |ptr V _ H=>
    obtain⟨b,I,r⟩:=H (A,l.length) (by rw[f];rfl);have g:=P.stands (k:=q) (d:=(A,l.length)) (by rw[f];rfl) I;rw[f]at g;exact t l b 0 o g (by rw[r,cB]) h
 |pix q o m i=>
  simp only at h;cases f:ae c.S q with
  |dead=>rw[f]at h;cases h
  |arr s z l=>rw[f]at h;cases h
  |cells A z l=>
   rw[f]at h;obtain⟨C,N⟩:=aw h;rw[aD]at C;have D:=cN C.2;have F:agg=Zb:=by simpa using C.1
   subst F;cases M with
   |pix V _ U H=>
    obtain⟨b,I,r⟩:=H (A,l.length) (by rw[f];rfl);have g:=P.stands (k:=q) (d:=(A,l.length)) (by rw[f];rfl) I;rw[f]at g;have W:((l.drop o).take m).length=m:=by rw[cM,cL];omega
    obtain⟨w,B,E⟩:=P1 (by omega) N;have j:uj c ((l.drop o).take m) b (0+o):=uj.part (cs:=l) g D;rw[<-we]at B;obtain⟨x,u,h6,h7,h8⟩:=j.get B;exact⟨b,o+i,x,r,h6,(λ_=>⟨u,w,by rwa [cB]at h7,h8,E⟩),(by intro h;cases h)⟩
 |pel q i o=>
  simp only at h;cases f:ae c.S q with
  |dead=>rw[f]at h;cases h
  |cells A z l=>rw[f]at h;cases h
  |arr s z l=>
   rw[f]at h;simp only at h;cases J:l[i]? with
   |none=>rw[J]at h;cases h
   |some x=>
    rw[J]at h;cases M with
    |pel V _ H=>
     obtain⟨b,I,r⟩:=H (s.w,l.length*s.w) (by rw[f];rfl);have g:=P.stands (k:=q) (d:=(s.w,l.length*s.w)) (by rw[f];rfl) I;rw[f]at g
     have U:i<l.length:=by
      rcases Nat.lt_or_ge i l.length with h|h
      .exact h
      .rw[cK h]at J;cases J
     have Q:i*s.w+s.w<=(ff s l).length:=by
      rw[gk,<-Nat.succ_mul];exact Nat.mul_le_mul_right _ U
     have j:uj c (((ff s l).drop (i*s.w)).take s.w) b (0+i*s.w):=uj.part (cs:=ff s l) g Q;rw[HY J,cB]at j;exact t (dq s x) b (i*s.w) o j r h
 |pin s x o=>
  simp only at h;cases M with
  |pin hn hy hl hf=>
   exact t (dq s x) _ _ o ⟨_,hy,by rw[ec];exact hl,by rw[ec];exact hf⟩ rfl h
 |_=>cases h
end
section
open Nat renaming lt_of_lt_of_le -> aB
theorem J8.frame {f:Ctx}(E:Le c f)(h:J8 c k)(q:ae f.S k=ae c.S k)(F:(ae c.S k).dim≠Y->f.μ k=c.μ k)(D: ∀b y,(ae c.S k).dim≠Y->c.μ k=O b->c.Z.m b=O y->f.Z.m b=O y):J8 f k:=by
 intro d l;rw[q]at l;obtain⟨t,u⟩:=h d l;have r:=F (by rw[l];simp);refine⟨t, ?_⟩;rcases u with⟨j,n⟩|⟨b,y,cs,g,j,n,w,A,B,C⟩
 .exact .inl ⟨j,r.trans n⟩
 .exact .inr ⟨b,y,cs,g,r.trans j,D b y (by rw[l];simp) j n,w,by rw[q];exact A,B,by rw[q];exact VRel.frames E C⟩
def tB (S S':ai):Prop:=S'.length=S.length/\∀k,ae S' k=ae S k∨ae S' k=(ae S k).freeze
theorem tB.refl (S:ai):tB S S:=⟨rfl,λ_=> .inl rfl⟩
theorem MK :b.freeze.freeze=b.freeze:=by cases b<;>rfl
theorem tB.trans {a b c:ai}(h:tB a b)(k:tB b c):tB a c:=by
 refine⟨k.1.trans h.1,λi=> ?_⟩;rcases h.2 i with h1|h1<;>rcases k.2 i with h2|h2
 .exact .inl (h2.trans h1)
 .exact .inr (by rw[h2,h1])
 .exact .inr (h2.trans h1)
 .exact .inr (by rw[h2,h1,MK])
theorem tB.put {S:ai}:tB S (kE S k (ae S k).freeze):=by
 refine⟨Ee,λi=> ?_⟩;rw[xy];split
 .rename_i h;rw[h.1];exact .inr rfl
 .exact .inl rfl
theorem tB.fold {f:ai->VV->ai}(g: ∀S v,tB S (f S v)): ∀(l:List VV) (S:ai),tB S (l.foldl f S)
 |[],S=>tB.refl S
 |v::l,S=>(g S v).trans (tB.fold g l _)
theorem Um : ∀(n:Nat) (S:ai) (v:VV),tB S (fzv n S v)
 |0,S,_=>tB.refl S
 |n+1,S,v=>by
  have f: ∀k,tB S (match ae S k with
    | .cells j _ l=>l.foldl (fzv n) (kE S k (.cells j Za l))
    |b=>kE S k b.freeze):=by
   intro k;have g:=tB.put (S:=S) (k:=k);split
   .rename_i j z l h;rw[h]at g;exact tB.trans g (tB.fold (Um n) l _)
   .exact g
  unfold fzv;split
  .exact f _
  .exact f _
  .exact tB.refl S
theorem EJ (S:ai)(l:List VV):tB S (Gf S l):=tB.fold (Um 3) l S
theorem XX (S:ai)(v:VV):tB S (aB2 S v):=by
 unfold aB2;split
 .split
  .exact EJ S _
  .exact tB.refl S
 .split
  .exact EJ S _
  .exact tB.refl S
 .exact tB.refl S
theorem VS (k:Sk)(v:VV)(S:ai):tB S (XW k v S):=by
 unfold XW;split
 .exact XX S v
 .exact tB.refl S
theorem K8 : ∀(l:List Sk) (vs:List VV) (S:ai),tB S (DX l vs S)
 |[],_,S=>tB.refl S
 |_::_,[],S=>tB.refl S
 |k::r,v::vs,S=>(VS k v S).trans (K8 r vs _)
theorem uq : ∀(l:List Nat) (S:ai),tB S (CG l S)
 |[],S=>tB.refl S
 |_::l,S=>tB.put.trans (uq l _)
theorem tB.dim {S:ai}(h:tB S S')(k:Nat):(ae S' k).dim=(ae S k).dim:=by
 rcases h.2 k with h|h<;>rw[h]
 exact fF
theorem tB.vals {S:ai}(h:tB S S')(k:Nat):(ae S' k).vals=(ae S k).vals:=by
 rcases h.2 k with h|h<;>rw[h]
 exact Ja
theorem tB.fz {S:ai}(h:tB S S')(f:(ae S' k).frozen=Zb):ae S' k=ae S k:=by
 rcases h.2 k with h|h
 .exact h
 .rw[h,ke]at f;cases f
theorem tB.le (h:tB c.S S'):Le c ⟨c.μ,S',c.Z,c.fb⟩:=by
 refine⟨Nat.le_of_eq h.1.symm,λk d _ l=>⟨(h.dim k)▸l,rfl⟩,λk m _=> ?_,λ_ _ _ y _ _ _ f=>⟨y,f,rfl⟩,λb y f _=>f,λb y f n=> ?_,Nat.le_refl _,rfl⟩
 .rcases h.2 k with h|h
  .exact h
  .exact h.trans (A0 m)
 .rintro⟨k,g,j⟩;exact n ⟨k,by rw[<-h.fz g];exact g,j⟩
theorem tB.rel (f:dv c)(h:tB c.S S'):dv ⟨c.μ,S',c.Z,c.fb⟩:=by
 refine⟨f.ok,λk H b j n q r=>f.inj k H b (by rw[<-h.fz j];exact j) (by rw[<-h.dim];exact n) q r,λk d F=> ?_,λk b j q=>f.fbk k b (by rw[<-h.dim];exact j) q,f.fbl⟩;have m:(ae c.S k).dim=O d:=(h.dim k)▸F;obtain⟨u,l⟩:=f.blk k d m;refine⟨u, ?_⟩;rcases l with l|⟨b,y,cs,g,w,A,B,C,D,E⟩
 .exact .inl l
 .exact .inr ⟨b,y,cs,g,w,A,B,λt=>C (by rw[<-h.fz t];exact t),D,by rw[h.vals k];exact VRel.frames h.le E⟩
theorem tB.calm (d:List Nat)(h:tB c.S S'):uR d c ⟨c.μ,S',c.Z,c.fb⟩:=λk _ _ f=>⟨by rw[h.dim];exact f,λ_ _=>rfl⟩
theorem uR.trans {a b:Ctx}{d:List Nat}(h:uR d a b)(k:uR d b c)(n:Le a b):uR d a c:=by
 intro i f m w;obtain⟨j,r⟩:=h i f m w;obtain⟨t,u⟩:=k i (aB f n.len) m j;refine⟨t,λx q=> ?_⟩
 have g:b.μ i=O x:=by
  cases l:(ae b.S i).dim with
  |none=>exact(j l).elim
  |some z=>exact(n.al i z f l).2.trans q
 exact(u x g).trans (r x q)
def TI (c:Ctx)(kill:Option Nat)(b:Nat):Prop:= ∃k,kill=O k/\c.μ k=O b
def tX (c:Ctx)(b1:Option Nat):Nat->Option Nat:=λi=>if i=c.S.length then b1 else c.μ i
theorem xr {S:ai}{kill:Option Nat}:(px S kill).length=S.length:=by cases kill<;>simp[px,Ee]
theorem Wb {S:ai}{kill:Option Nat}:ae (px S kill) i=if kill=O i then .dead else ae S i:=by
 cases kill with
 |none=>simp[px]
 |some k=>
  simp only[px,xy,Option.some.injEq];by_cases h:i=k
  .subst h;by_cases f:i<S.length
   .simp[f]
   .simp[f,vC (Nat.le_of_not_lt f)]
  .simp[h,Ne.symm h]
structure Moves (c:Ctx)(kill:Option Nat)(b1:Option Nat)(blk:Blk)(Z':Hp):Prop where
 fr: ∀b,b1=O b->(∀z,c.Z.m b≠O z)->¬c.fb b
 kz: ∀k,kill=O k->(ae c.S k).frozen=Zb
 ok:Z'.Ok
 n:c.Z.n<=Z'.n
 old: ∀i y,c.Z.m i=O y->¬TI c kill i->Z'.m i=O y
 one: ∃d,blk.dim=O d/\1<=d.1/\((b1=Y/\d.2=0)∨∃b y cs rest,b1=O b/\Z'.m b=O y/\y.es=d.1/\(blk.frozen=Zb->y.own=Za)/\y.cells=cs++rest/\F2 (VRel c) blk.vals cs/\((∀z,c.Z.m b≠O z)∨TI c kill b))
section
variable {c:Ctx} {kill b1:Option Nat} {blk:Blk} {Z':Hp}
theorem kf (i:Nat):ae (px c.S kill++[blk]) i=if i=c.S.length then blk else if kill=O i then .dead else ae c.S i:=by
 by_cases h:i=c.S.length
 .subst h;rw[zE rfl,<-xr (S:=c.S) (kill:=kill),Ry]
 .rw[zF h];by_cases f:i<c.S.length
  .rw[mK (by rw[xr];exact f),Wb]
  .have g:c.S.length<i:=by omega
   rw[vC (by rw[List.length_append,xr];simp;omega),vC (k:=i) (S:=c.S) (by omega)];split<;>rfl
theorem Moves.low (g:dv c)(h:Moves c kill b1 blk Z'){i b:Nat}(_:i≠c.S.length)(l:kill≠O i)(j:(ae c.S i).dim≠Y)(m:c.μ i=O b): ¬TI c kill b:=by
 rintro⟨k,rfl,f⟩;exact l (congrArg O (g.inj k i b (h.kz k rfl) j f m))
theorem Moves.le (C:dv c)(h:Moves c kill b1 blk Z'):Le c ⟨tX c b1,px c.S kill++[blk],Z',c.fb⟩:=by
 have j: ∀k,k<c.S.length->k≠c.S.length:=λk g=>by omega
 refine⟨by simp[xr],λk d g f=> ?_,λk D f=> ?_,λk d b y g f r t=> ?_,λb y t u=>h.old b y t λ⟨k,e,r⟩=>u ⟨k,h.kz k e,r⟩,λb y t u=> ?_,h.n,rfl⟩
 .simp only[kf,zF (j k g)]at f;split at f
  .cases f
  .exact⟨f,zF (j k g)⟩
 .have g:=me f;simp only[kf,zF (j k g)];rw[zF];intro e;have:=h.kz k e;rw[D]at this;cases this
 .simp only[kf,zF (j k g)]at f;split at f
  .cases f
  .rename_i w;exact⟨y,h.old b y t (h.low C (j k g) w (by rw[f];simp) r),rfl⟩
 .have A: ¬TI c kill b:=λ⟨k,e,r⟩=>u ⟨k,h.kz k e,r⟩
  rintro⟨k,m,l⟩;simp only[kf]at m;simp only[tX]at l;by_cases g:k=c.S.length
  .rw[zE g]at m l;obtain⟨d,_,_,q⟩:=h.one;rcases q with⟨q,_⟩|⟨E,y',cs,B,q,_,_,_,_,_,h4⟩
   .rw[q]at l;cases l
   .rw[q]at l;injection l with l
    subst l;rcases h4 with h4|h4
    .exact h4 y t
    .exact A h4
  .rw[zF g]at m l;split at m
   .cases m
   .exact u ⟨k,m,l⟩
theorem Moves.rel (w:dv c)(h:Moves c kill b1 blk Z'):dv ⟨tX c b1,px c.S kill++[blk],Z',c.fb⟩:=by
 have E:=h.le w
 have A: ∀i b,i≠c.S.length->kill≠O i->(ae c.S i).dim≠Y->c.μ i=O b->b1≠O b:=by
  intro i b P f u l e;obtain⟨d,_,_,j⟩:=h.one;rcases j with⟨j,_⟩|⟨F,y',cs,t,j,_,_,_,_,_,h4⟩
  .rw[j]at e;cases e
  .rw[j]at e;injection e with e
   subst e;rcases h4 with h4|h4
   .cases D:(ae c.S i).dim with
    |none=>exact u D
    |some U=>
     obtain⟨y,_,_,J,_⟩:=w.block D l;exact h4 y J
   .exact h.low w P f u l h4
 have I: ∀b,c.fb b->b1≠O b:=by
  intro b B e;obtain⟨d,_,_,j⟩:=h.one;rcases j with⟨j,_⟩|⟨F,y',cs,t,j,_,_,_,_,_,h4⟩
  .rw[j]at e;cases e
  .rw[j]at e;injection e with e
   subst e;rcases h4 with h4|⟨k,h4,H⟩
   .exact h.fr _ j h4 B
   .exact w.fbk k _ (lT (h.kz k h4)) H B
 refine⟨h.ok,λk K b f g l m=> ?_,λk=> ?_,λk b f l B=> ?_,λb B=>aB (w.fbl b B) h.n⟩
 rotate_left 2
 .simp only[kf]at f;simp only[tX]at l;by_cases r:k=c.S.length
  .rw[zE r]at l;exact I b B l
  .rw[zF r]at l f;split at f
   .exact f rfl
   .exact w.fbk k b f l B
 .simp only[kf]at f g;simp only[tX]at l m;by_cases r:k=c.S.length<;>by_cases C:K=c.S.length
  .omega
  .rw[zE r]at l;rw[zF C]at m g;split at g
   .exact(g rfl).elim
   .rename_i q;exact(A K b C q g m l).elim
  .rw[zF r]at l f;rw[zE C]at m;split at f
   .cases f
   .rename_i q;exact(A k b r q (lT f) l m).elim
  .rw[zF r]at l f;rw[zF C]at m g;split at f
   .cases f
   .split at g
    .exact(g rfl).elim
    .exact w.inj k K b f g l m
 .by_cases f:k=c.S.length
  .subst f;intro d u;simp only[kf,if_true]at u⊢;obtain⟨Q,r,C,j⟩:=h.one;rw[u]at r;injection r with r
   subst r;refine⟨C, ?_⟩;simp only[tX,if_true];rcases j with⟨j,h4⟩|⟨F,y',cs,t,j,h4,H,L,M,N,_⟩
   .exact .inl ⟨h4,j⟩
   .exact .inr ⟨F,y',cs,t,j,h4,H,L,M,VRel.frames E N⟩
  .by_cases q:kill=O k
   .intro d u;simp only[kf,zF f,zE q]at u;cases u
   .refine(w.blk k).frame E ?_ (λ_=>zF f) λb y u l J=> ?_
    .simp only[kf,zF f,zF q]
    .exact h.old b y J (h.low w f q u l)
theorem Moves.calm (m:dv c)(h:Moves c kill b1 blk Z'){d:List Nat}(r: ∀k,kill=O k->k∈d):uR d c ⟨tX c b1,px c.S kill++[blk],Z',c.fb⟩:=by
 intro k w t f;have j:k≠c.S.length:=by omega
 have l:kill≠O k:=λe=>t (r k e)
 simp only[kf,zF j,zF l];refine⟨f,λb n=> ?_⟩;cases g:(ae c.S k).dim with
 |none=>exact(f g).elim
 |some u=>
  obtain⟨y,_,_,q,_⟩:=m.block g n;rw[q];exact h.old b y q (h.low m j l f n)
end
theorem PW (g:dv c){x:Ab.Blk}(m:blk.dim=O d)(j:1<=d.1)(q:x.es=d.1)(t:x.own=Za)(r:F2 (VRel c) blk.vals x.cells):
  Moves c Y (O c.Z.n) blk (c.Z.add x):=by
 refine⟨(λb h _ l=>by injection h with h;subst h;exact Nat.lt_irrefl _ (g.fbl _ l)),(λ_ h=>by cases h),λb y f=> ?_,Nat.le_succ _,λi y f _=> ?_,d,m,j, .inr ⟨c.Z.n,x,x.cells,[],rfl,zE rfl,q,λ_=>t,by simp,r, .inl λz u=> ?_⟩⟩
 .simp only[Hp.add]at f⊢;split at f
  .omega
  .have:=g.ok b y f;omega
 .have:=g.ok i y f;simp only[Hp.add];rw[Zh];exact f
 .have:=g.ok _ _ u;omega
structure Writes (c:Ctx)(k b:Nat)(blk:Blk)(y':Ab.Blk):Prop where
 kz:(ae c.S k).frozen=Zb
 mu:c.μ k=O b
 dim:blk.dim=(ae c.S k).dim
 fz:blk.frozen=Zb
 one: ∃y cs rest d,c.Z.m b=O y/\(ae c.S k).dim=O d/\y'.es=d.1/\y'.own=Za/\y'.cells.length=y.cells.length/\y'.cells=cs++rest/\F2 (VRel c) blk.vals cs
section
variable {c:Ctx} {k b:Nat} {blk:Blk} {y':Ab.Blk}
theorem Writes.get (h:Writes c k b blk y')(i:Nat):ae (kE c.S k blk) i=if i=k then blk else ae c.S i:=by
 rw[xy];have:=me (lT h.kz);by_cases f:i=k
 .rw[zE ⟨f,this⟩,zE f]
 .rw[zF (λe=>f e.1),zF f]
theorem Writes.low (g:dv c)(h:Writes c k b blk y'){i f:Nat}(l:i≠k)(j:(ae c.S i).dim≠Y)(m:c.μ i=O f):f≠b:=by
 rintro rfl;exact l (g.inj k i f h.kz j h.mu m).symm
theorem Writes.le (r:dv c)(h:Writes c k b blk y'):Le c ⟨c.μ,kE c.S k blk,c.Z.set b (O y'),c.fb⟩:=by
 refine⟨by simp[Ee],λi d _ g=> ?_,λi q g=> ?_,λi d x y _ g t j=> ?_,λx y j m=> ?_,λx y j m=> ?_,Nat.le_refl _,rfl⟩
 .simp only[h.get]at g;split at g
  .rename_i e;subst e;exact⟨h.dim▸g,rfl⟩
  .exact⟨g,rfl⟩
 .simp only[h.get];rw[zF];rintro rfl;rw[h.kz]at q;cases q
 .by_cases e:x=b
  .subst e;obtain⟨u,_,_,_,f,_,_,_,l,_⟩:=h.one;rw[j]at f;injection f with f
   subst f;exact⟨y',by simp[Hp.set],l⟩
  .exact⟨y,by simp[Hp.set,e,j],rfl⟩
 .have n:x≠b:=by rintro rfl;exact m ⟨k,h.kz,h.mu⟩
  simp[Hp.set,n,j]
 .rintro⟨i,f,l⟩;simp only[h.get]at f;split at f
  .rename_i e;subst e;exact m ⟨i,h.kz,l⟩
  .exact m ⟨i,f,l⟩
theorem Writes.rel (f:dv c)(h:Writes c k b blk y'):dv ⟨c.μ,kE c.S k blk,c.Z.set b (O y'),c.fb⟩:=by
 have n:=h.le f
 have A: ∀i,(ae (kE c.S k blk) i).frozen=Zb->(ae c.S i).frozen=Zb:=by
  intro i l;rw[h.get]at l;split at l
  .rename_i e;subst e;exact h.kz
  .exact l
 have g: ∀i,(ae (kE c.S k blk) i).dim=(ae c.S i).dim:=by
  intro i;rw[h.get];split
  .rename_i e;subst e;exact h.dim
  .rfl
 refine⟨λx z r=> ?_,λi j x l I q B=>f.inj i j x (A i l) (by rw[<-g];exact I) q B,λi=> ?_,λi x l q=>f.fbk i x (by rw[<-g];exact l) q,f.fbl⟩
 .simp only[Hp.set]at r;split at r
  .rename_i e;subst e;obtain⟨y,_,_,_,C,_⟩:=h.one;exact f.ok _ _ C
  .exact f.ok _ _ r
 .by_cases e:i=k
  .subst e;intro d w;obtain⟨y,cs,t,J,C,u,D,E,K,F,H⟩:=h.one;have m:(ae c.S i).dim=O d:=by rw[<-g];exact w
   rw[m]at u;injection u with u
   subst u;refine⟨(f.blk i d m).1, .inr ⟨b,y',cs,t,h.mu,by simp[Hp.set],D,λ_=>E,F, ?_⟩⟩;simp only[h.get,if_true];exact VRel.frames n H
  .refine(f.blk i).frame n (by simp only[h.get,zF e]) (λ_=>rfl) λx z w q r=> ?_
   have:=h.low f e w q;simp[Hp.set,this,r]
theorem Writes.calm (j:dv c)(h:Writes c k b blk y'){d:List Nat}(l:k∈d):uR d c ⟨c.μ,kE c.S k blk,c.Z.set b (O y'),c.fb⟩:=by
 intro i _ n f;have g:i≠k:=by rintro rfl;exact n l
 simp only[h.get,zF g];refine⟨f,λx m=> ?_⟩;have:=h.low j g f m;simp[Hp.set,this]
end
end
section
open Bool renaming and_eq_true -> aB
open List renaming replicate -> bD, nil_append -> cL, append_assoc -> cN, drop_append -> cO, drop_of_length_le -> cP, length_append -> cQ, length_cons -> cR, length_take -> cS, replicate_succ -> cT, take_append_drop -> cU
open Nat renaming beq -> aD, le_of_ble_eq_true -> bB, eq_of_beq_eq_true -> cB, ble -> cD, le_refl -> cK, zero_add -> cM
section
variable {β:Type} {T:fM} {c:Ctx} {e:cm} {ea:cf} {k:VV->ai->Option β} {y:β} {d:List Nat}
theorem VRel.bool_inv {b:Bool}(h:VRel c (.bool b) a):a= .bool b:=by cases h;rfl
theorem VRel.int_inv {n:Int}(h:VRel c (.int kd n) a):a= .int kd n:=by cases h;rfl
theorem VRel.str_inv {l:Zd}(h:VRel c (.str l) a): ∃s,a= .string s/\cw s=l:=by cases h;exact⟨_,rfl,by assumption⟩
theorem VRel.agg_inv {l:List VV}(h:VRel c (.agg l) a): ∃as:Array Value,a= .agg as/\F2 (VRel c) l as.toList:=by cases h;exact⟨_,rfl,by assumption⟩
theorem VRel.tup_inv {l:List VV}(h:VRel c (.tup l) a): ∃as:Array Value,a= .tuple as/\F2 (VRel c) l as.toList:=by cases h;exact⟨_,rfl,by assumption⟩
theorem Rv {p:Bool}{x z v:VV}{l m:Value}(h:Y4 p x z=O v)(g:VRel c x l)(j:VRel c z m):VRel c v (cond p l m):=by
 unfold Y4 at h;split at h
 .rename_i n r q t;cases f:Zc (n=q)with
  |false=>rw[f]at h;cases h
  |true=>
   rw[f]at h;injection h with h
   subst h;have:=of_decide_eq_true f;subst this;rw[g.int_inv,j.int_inv];cases p<;>exact .int _ _
 .injection h with h
  subst h;rw[g.bool_inv,j.bool_inv];cases p<;>exact .bool _
 .injection h with h
  subst h;cases p<;>assumption
 .cases h
theorem am3 (f:dv c)(g:au c e ea)(h:k (ev e x) c.S=O y):bu T (.move x) ea c.Z (gx c d k y):=
 bw rfl (gx.same f (bv g x) h)
theorem ao8 (l:dv c)(g:au c e ea){t a b:Operand}{p:Bool}(n:ev e t= .bool p)(h:YL p (ev e a) (ev e b) c.S k=O y):bu T (.pick t a b) ea c.Z (gx c d k y):=by
 have j:=bv g t;rw[n]at j;have j:=j.bool_inv
 have f: ∀v,VRel c v (cond p (ea.ev a) (ea.ev b))->k v c.S=O y->bu T (.pick t a b) ea c.Z (gx c d k y):=by
  intro v r m;refine bw (v:=cond p (ea.ev a) (ea.ev b)) (Z':=c.Z) ?_ (gx.same l r m);simp only[AOp.run,j];cases p<;>rfl
 unfold YL at h;split at h
 .rename_i v q;exact f v (Rv q (bv g a) (bv g b)) h
 .cases p with
  |true=>exact f _ (bv g a) h
  |false=>exact f _ (bv g b) h
theorem gx.new {v:Value}{g:VV}{b1:Option Nat}{kill:Option Nat}(f:dv c)(h:Moves c kill b1 blk Z')(j: ∀q,kill=O q->q∈d)(m:VRel ⟨tX c b1,px c.S kill++[blk],Z',c.fb⟩ g v)(l:k g (px c.S kill++[blk])=O y):gx c d k y v Z':=
 ⟨g,_,rfl,h.le f,h.rel f,h.calm f j,m,l⟩
theorem UG {x:Ab.Blk}{dm:Nat×Nat}(_:blk.dim=O dm):VRel ⟨tX c (O c.Z.n),px c.S Y++[blk],c.Z.add x,c.fb⟩ (.ptr c.S.length 0) (.pointer (O ⟨c.Z.n,0,Y⟩)):=by
 refine .ptr (by simp[px]) rfl λf _=>⟨c.Z.n, ?_,rfl⟩
 simp[tX]
theorem ac1 : ∀{z:List Value},z.all aB9=Za->z=bD z.length (.int .u8 0)
 |[],_=>rfl
 |v::z,h=>by
  rw[List.all_cons,aB]at h
  have g:v= .int .u8 0:=by
   have f:=h.1;unfold aB9 at f;split at f
   .rw[of_decide_eq_true f]
   .cases f
  rw[cR,cT,<-ac1 h.2,g]
theorem w8 (es:Nat)(z:List Value):(DN es z).dim=O (es,z.length)/\(DN es z).frozen=Zb/\∀c:Ctx,F2 (VRel c) (DN es z).vals z:=by
 unfold DN;cases f:Sw es z with
 |false=>
  rw[zD];exact⟨by simp[Blk.dim],rfl,λc=>EP c z⟩
 |true=>
  rw[zC];unfold Sw at f;rw[aB,aB]at f;have j:=cB f.1.1;subst j;refine⟨by simp[Blk.dim,Sh.w],rfl,λc=> ?_⟩;have l:=ac1 f.2
  have g: ∀n,F2 (VRel c) (ff (.int .u8) (bD n (0:Int))) (bD n (.int .u8 0)):=by
   intro n;induction n with
   |zero=>exact .nil
   |succ n m=>exact .cons (.int _ _) m
  have h:=g z.length;rw[<-l]at h;exact h
theorem Xg (g:dv c){es:Nat}{z:List Value}(h:gd (cD 1 es) (k (.ptr c.S.length 0) (c.S++[DN es z]))=O y):bu T (.alloc es z) ea c.Z (gx c d k y):=by
 obtain⟨j,l⟩:=aw h;obtain⟨f,n,m⟩:=w8 es z;exact bw rfl (gx.new (kill:=Y) g (PW g (blk:=DN es z) (x:=⟨z,Za,es⟩) (d:=(es,z.length)) f (bB j) rfl rfl (m c)) (λ_ h=>by cases h) (UG (dm:=(es,z.length)) f) l)
theorem az4 (g:dv c)(m:au c e ea){es:Nat}(h:gd (cD 1 es&&oC (mF (ev e x))) (k (.ptr c.S.length 0) (c.S++[.cells es Zb (mF (ev e x))]))=O y):bu T (.box es x) ea c.Z (gx c d k y):=by
 obtain⟨f,l⟩:=aw h;rw[aB]at f;have j:=HM (bv m x) f.2;refine bw (by simp only[AOp.run];rw[zE (ku j f.2)]) (gx.new (kill:=Y) g (PW g (blk:= .cells es Zb (mF (ev e x))) (x:=⟨cellsOf (ea.ev x),Za,es⟩) (d:=(es,(mF (ev e x)).length)) rfl (bB f.1) rfl rfl j) (λ_ h=>by cases h) (UG (dm:=(es,_)) rfl) l)
theorem xe (m:au c e ea): ∀(j:List (Nat×Nat×Operand)) {cs r:List VV} {as:List Value},IV cs (Av e j)=O r->F2 (VRel c) cs as->∃l,DV as (j.map λ(o,s,x)=>(o,s,ea.ev x))=O l/\F2 (VRel c) r l
 |[],cs,r,as,h,g=>by
  injection h with h
  subst h;exact⟨as,rfl,g⟩
 |(o,s,x)::j,cs,r,as,h,g=>by
  simp only[Av,List.map_cons,IV]at h;cases f:(aD (mF (ev e x)).length s&&cD (o+s) cs.length&&(mF (ev e x)).all ao5)with
  |false=>rw[f]at h;cases h
  |true=>
   rw[f,zC]at h;rw[aB,aB]at f;have q:=cB f.1.1;have A:=bB f.1.2;have n:=HM (bv m x) f.2;have t:(cellsOf (ea.ev x)).length=s:=by rw[<-n.length];exact q
   have B:as.length=cs.length:=g.length.symm;obtain⟨l,u,w⟩:=xe m j h (((g.take o).append n).append (g.drop (o+s)));refine⟨l, ?_,w⟩;simp only[List.map_cons,DV];rw[zE ⟨t,by omega⟩];exact u
theorem Xw (l:dv c)(m:au c e ea){z:List Value}{f:List (Nat×Nat×Operand)}{cs:List VV}(n:IV (z.map JF) (Av e f)=O cs)(h:k (.agg cs) c.S=O y):bu T (.build z f) ea c.Z (gx c d k y):=by
 obtain⟨q,g,j⟩:=xe m f n (EP c z);exact bw (by simp only[AOp.run,g];rfl) (gx.same l (.agg (by simpa using j)) h)
theorem vA {dm:Nat×Nat}{n m:Nat}{b:Nat}{yb:Ab.Blk}{kill:Option Nat}(h:blk.dim=O dm)(g:n*dm.1=dm.2)(l:n<=m)(q:Z'.m b=O yb)(j:m*dm.1<=yb.cells.length):
  VRel ⟨tX c (O b),px c.S kill++[blk],Z',c.fb⟩ (.full c.S.length) (.slice (O ⟨b,0,Y⟩) n m):=by
 refine .full (by simp[xr]) rfl λr f=> ?_
 simp only[kf,if_true]at f;rw[h]at f;injection f with f
 subst f;exact⟨n,g, .inr ⟨b,m,yb,by simp,by simp[tX],by rw[cM,g];exact cK _,l,q,by rw[cM];exact j⟩⟩
theorem Is : ∀(n:Nat) (z:List Value),F2 (VRel c) ((bD n (z.map JF)).flatten) (eb z n)
 |0,_=> .nil
 |n+1,z=>by
  simp only[eb,cT,List.flatten_cons];exact(EP c z).append (Is n z)
theorem MD (m:dv c)(t:au c e ea){es ln:Nat}{z:List Value}{j:List (Nat×Nat×Operand)}{cs:List VV}(u:IV ((bD ln (z.map JF)).flatten) (Av e j)=O cs)
  (h:gd (oC cs&&aD (ln*es) cs.length&&cD 1 es) (k (.full c.S.length) (c.S++[.cells es Zb cs]))=O y):bu T (.buildSlice es ln z j) ea c.Z (gx c d k y):=by
 obtain⟨f,q⟩:=aw h;rw[aB,aB]at f;obtain⟨n,r,g⟩:=xe t j u (Is ln z);have l:=cB f.1.2;refine bw (by simp only[AOp.run,r];rw[zE (ku g f.1.1)]) (gx.new (kill:=Y) m (PW m (blk:= .cells es Zb cs) (x:=⟨n,Za,es⟩) (d:=(es,cs.length)) rfl (bB f.2) rfl rfl g) (λ_ h=>by cases h) ?_ q);exact vA (dm:=(es,cs.length)) (yb:=⟨n,Za,es⟩) rfl l (cK _) (zE rfl) (by rw[<-g.length];exact Nat.le_of_eq l)
theorem al4 (f:dv c)(r:au c e ea)(h:NB c.S 1 Zb (ev e x) k=O y):bu T (.load x) ea c.Z (gx c d k y):=by
 obtain⟨b,o,blk,g,j,l,_⟩:=Q7 f h (bv r x);obtain⟨u,w,m,n,q⟩:=l rfl;exact bw (by simp only[AOp.run,g,j,m];rfl) (gx.same f n q)
theorem Ye (f:dv c)(t:au c e ea){n:Nat}(h:NB c.S n Za (ev e x) k=O y):bu T (.loadN n x) ea c.Z (gx c d k y):=by
 obtain⟨b,o,blk,g,j,_,l⟩:=Q7 f h (bv t x);obtain⟨u,w,m,q,r⟩:=l rfl;exact bw (by simp only[AOp.run,g,j,m];rfl) (gx.same f (.agg (by simpa using q)) r)
theorem Be : ∀(vs cells:List Value) (o:Nat),(kD cells o vs).length=cells.length
 |[],_,_=>rfl
 |v::vs,cells,o=>by simp only[kD];rw[Be vs];simp
theorem F2.set {l:List VV}{m:List Value}(h:F2 (VRel c) l m){v:VV}(j:VRel c v a): ∀i,F2 (VRel c) (l.set i v) (m.set i a):=by
 induction h with
 |nil=>intro i;simp;exact .nil
 |cons f g n=>
  intro i;cases i with
  |zero=>exact .cons j g
  |succ i=>exact .cons f (n i)
theorem LS : ∀{vs:List VV} {as:List Value},F2 (VRel c) vs as->∀{l:List VV} {m:List Value} (o:Nat),F2 (VRel c) l m->F2 (VRel c) (aq6 l o vs) (kD m o as)
 |_,_, .nil,_,_,_,h=>h
 |_,_, .cons f g,_,_,o,h=>LS g (o+1) (F2.set h f o)
theorem Ea : ∀(vs:List Value) (cs rest:List Value) (o:Nat),o+vs.length<=cs.length->kD (cs++rest) o vs=kD cs o vs++rest
 |[],_,_,_,_=>rfl
 |v::vs,cs,rest,o,h=>by
  simp only[cR]at h;simp only[kD];rw[List.set_append_left _ _ (by omega),Ea vs _ _ _ (by simp;omega)]
theorem yB : ∀(vs:List Value) (pre cs:List Value) (o:Nat),kD (pre++cs) (pre.length+o) vs=pre++kD cs o vs
 |[],_,_,_=>rfl
 |v::vs,pre,cs,o=>by
  simp only[kD];rw[List.set_append_right _ _ (by omega),Nat.add_sub_cancel_left,Nat.add_assoc,yB vs]
theorem E1 {blk:Ab.Blk}{o:Nat}{vs:List Value}(f:blk.own=Za)(g:o+vs.length<=blk.cells.length)(h:vs.all one=Za):wh blk o vs=O ⟨kD blk.cells o vs,Za,blk.es⟩:=by
 unfold wh;rw[zE ⟨f,g,h⟩,f]
theorem Hv (F:dv c){q es o b:Nat}{l l' vs:List VV}{as:List Value}(g:ae c.S q= .cells es Zb l)(C:c.μ q=O b)(A:F2 (VRel c) vs as)(D:oC vs=Za)(I:o+vs.length<=l.length)
  (h: ∀cs,F2 (VRel c) l cs->F2 (VRel c) l' (kD cs o as)): ∃blk,c.Z.m b=O blk/\∃f,wh blk o as=O f/\Writes c q b (.cells es Zb l') f:=by
 obtain⟨r,cs,j,t,E,u,w,n⟩:=F.block (k:=q) (d:=(es,l.length)) (by rw[g];rfl) C;rw[g]at u n;have B:=F2.length n;simp only[Blk.vals]at B;have H:=F2.length A;refine⟨r,t,_,E1 (u rfl) (by rw[w,cQ];omega) (ku A D),⟨by rw[g];rfl,C, ?_,rfl,r,kD cs o as,j,(es,l.length),t,by rw[g];rfl,E,rfl,Be _ _ _, ?_,h cs n⟩⟩
 .have:=F2.length (h cs n);rw[Be]at this;simp only[g,Blk.dim];rw[this,<-B]
 .show kD r.cells o as=_;rw[w,Ea _ _ _ _ (by omega)]
theorem LR {v:VV}{A:Value}(u:VRel c v A): ∀{cs:List VV} {as:List Value} {i j:Nat} {r:List VV},LQ v cs i j=O r->F2 (VRel c) cs as->F2 (VRel c) r (if j<=i then as.set (i-j) A else as)
 |[],_,i,j,r,h,n=>by
  cases n;injection h with h
  subst h;simp;exact .nil
 |w::cs,_,i,j,r,h,n=>by
  cases n with
  |cons B C=>
   rename_i a as;simp only[LQ]at h;cases t:Y4 (aD i j) v w with
   |none=>rw[t]at h;cases h
   |some x=>
    rw[t]at h;simp only[zG]at h;cases q:LQ v cs i (j+1)with
    |none=>rw[q]at h;cases h
    |some F=>
     rw[q]at h;injection h with h
     subst h;have f:=LR u q C;have g:=Rv t u B;by_cases l:i=j
     .subst l;rw[Zh]at f;rw[zE (cK _),Nat.sub_self];have:aD i i=Za:=Nat.beq_refl i;rw[this]at g;exact .cons g f
     .have D:aD i j=Zb:=by
       cases E:aD i j with
       |false=>rfl
       |true=>exact(l (cB E)).elim
      rw[D]at g;by_cases m:j+1<=i
      .rw[zE m]at f;rw[Zg,show i-j=(i-(j+1))+1 by omega];exact .cons g f
      .rw[zF m]at f;rw[Zh];exact .cons g f
theorem Nf {s:Sh}{x:El s}: ∀{l:List (El s)} {i:Nat},i<l.length->ff s (l.set i x)=(ff s l).take (i*s.w)++(dq s x++(ff s l).drop (i*s.w+s.w))
 |[],_,h=>by simp at h
 |a::l,0,_=>by
  rw[List.set_cons_zero,gf,gf,Nat.zero_mul,List.take_zero,cL,cM,cO,ec,Nat.sub_self,List.drop_zero,cP (by rw[ec];exact cK _),cL]
 |a::l,i+1,h=>by
  have f:(i+1)*s.w=s.w+i*s.w:=by rw[Nat.succ_mul];omega
  rw[List.set_cons_succ,gf,gf,Nf (by simpa using h),f,List.take_append,cO,ec,List.take_of_length_le (l:=dq s a) (by rw[ec];omega),cP (l:=dq s a) (by rw[ec];omega),cL,cN];rw[show s.w+i*s.w-s.w=i*s.w by omega,show s.w+i*s.w+s.w-s.w=i*s.w+s.w by omega]
theorem HS (v:VV){q:Nat}(h:vp v=O q):q∈Wq (vp v):=by rw[h];exact List.mem_singleton.2 rfl
theorem LU {vs cs:List Value}{p o w:Nat}(g:o+vs.length<=w)(l:p+w<=cs.length):kD cs (p+o) vs=cs.take p++(kD ((cs.drop p).take w) o vs++cs.drop (p+w)):=by
 have f:cs=cs.take p++((cs.drop p).take w++cs.drop (p+w)):=by
  rw[<-List.drop_drop,cU,cU]
 have h:(cs.take p).length=p:=by rw[cS];omega
 have j:((cs.drop p).take w).length=w:=by rw[cS,List.length_drop];omega
 conv=>lhs;rw[f]
 have:=yB vs (cs.take p) ((cs.drop p).take w++cs.drop (p+w)) o;rw[h]at this;rw[this,Ea _ _ _ _ (by rw[j];exact g)]
theorem aa3 (hR:dv c)(he:au c e ea){n:Nat}{a:Operand}(hd: ∀q,vp (ev e a)=O q->q∈d)
  (h:gd (aD (mF (ev e x)).length n&&oC (mF (ev e x))) (Tq c.S (ev e a) (mF (ev e x)) λS'=>k .undef S')=O y):bu T (.store n a x) ea c.Z (gx c d k y):=by
 obtain⟨V,f⟩:=aw h;rw[aB]at V;have hn:=cB V.1;have Q:=HM (bv he x) V.2;have hlen:(cellsOf (ea.ev x)).length=n:=by rw[<-Q.length];exact hn
 have ha:=bv he a
 have U: ∀(M:Ctx) (q b o:Nat) (j:Ab.Blk) (blk:Blk) (g:Ab.Blk),M.Z=c.Z->Le c M->uR d c M->dv M->q∈d->ea.ev a= .pointer (O ⟨b,o,Y⟩)->c.Z.m b=O j->wh j o (cellsOf (ea.ev x))=O g->Writes M q b blk g->
   k .undef (kE M.S q blk)=O y->bu T (.store n a x) ea c.Z (gx c d k y):=by
  intro M q b o j blk g hZ P N r hq F H J I K;refine bw (v:=undef) (Z':=c.Z.set b (O g)) ?_ ?_
  .simp only[AOp.run,F,hlen,if_true,H,J]
  .rw[<-hZ];exact⟨.undef,_,rfl,P.trans (I.le r),I.rel r,N.trans (I.calm r hq) P, .undef _,K⟩
 generalize cellsOf (ea.ev x)=as at*;generalize ev e a=av at*;generalize mF (ev e x)=L at*;unfold Tq at f;cases av with
 |ptr q o=>
  simp only at f;cases t:ae c.S q with
  |dead=>rw[t]at f;cases f
  |arr s z l=>rw[t]at f;cases f
  |cells es z l=>
   rw[t]at f;cases z with
   |true=>cases f
   |false=>
    obtain⟨F,H⟩:=aw f;cases ha with
    |ptr hk _ C=>
     obtain⟨b,W,B⟩:=C (es,l.length) (by rw[t];rfl);obtain⟨j,J,g,I,K⟩:=Hv hR t W Q V.2 (bB F) λcs A=>LS Q o A
     exact U c q b o j _ g rfl (Le.refl c) (uR.refl d c) hR (hd q rfl) B J I K H
 |pix q o m i=>
  simp only at f;split at f
  .rename_i es l v t;obtain⟨F,H⟩:=aw f;have F:=bB F;split at H
   .rename_i l' hs;cases Q with
    |cons hv hnil=>
     rename_i va as';cases hnil;cases ha with
     |pix hk _ hi C=>
      obtain⟨b,W,B⟩:=C (es,l.length) (by rw[t];rfl)
      obtain⟨j,J,g,I,K⟩:=Hv (l':=l.take o++l'++l.drop (o+m)) (o:=o+i) hR t W (.cons hv .nil) V.2 (by simp;omega) λcs A=>by
       have hl:=A.length;rw[LU (w:=m) (by simp;omega) (by omega),cN];have h8:=LR hv hs ((A.drop o).take m);rw[zE (Nat.zero_le _),Nat.sub_zero]at h8;exact(A.take o).append (h8.append (A.drop _))
      exact U c q b (o+i) j _ g rfl (Le.refl c) (uR.refl d c) hR (hd q rfl) B J I K H
   .cases H
  .cases f
 |pel q i o=>
  simp only at f;cases t:ae (Gf c.S L) q with
  |dead=>rw[t]at f;cases f
  |cells es z l=>rw[t]at f;cases f
  |arr s z l=>
   rw[t]at f;cases z with
   |true=>cases f
   |false=>
    simp only at f;cases E:l[i]? with
    |none=>rw[E]at f;cases f
    |some x'=>
     rw[E]at f;simp only[zG]at f;split at f
     .rename_i z hof;obtain⟨F,H⟩:=aw f;have F:=bB F;have D:=EJ c.S L;have r:dv ⟨c.μ,Gf c.S L,c.Z,c.fb⟩:=D.rel hR
      have hi:i<l.length:=by
       rcases Nat.lt_or_ge i l.length with h|h
       .exact h
       .rw[List.getElem?_eq_none h]at E;cases E
      have hx1:F2 (VRel ⟨c.μ,Gf c.S L,c.Z,c.fb⟩) L as:=VRel.frames D.le Q;cases ha with
      |pel hk _ C=>
       have u:(ae (Gf c.S L) q).dim=O (s.w,l.length*s.w):=by rw[t];rfl
       obtain⟨b,W,B⟩:=C (s.w,l.length*s.w) (by rw[<-D.dim];exact u);obtain⟨y0,cs,rest,J,I,K,h8,h9⟩:=r.block (k:=q) u W;rw[t]at K h9;have hl:=h9.length;simp only[Blk.vals,gk]at hl;have P:i*s.w+s.w<=l.length*s.w:=by rw[<-Nat.succ_mul];exact Nat.mul_le_mul_right _ hi
       have hlen':L.length=as.length:=Q.length;refine U ⟨c.μ,Gf c.S L,c.Z,c.fb⟩ q b (i*s.w+o) y0 (.arr s Zb (l.set i z)) _ rfl D.le (D.calm d) r (hd q rfl) B J (E1 (K rfl) (by rw[h8,cQ];omega) (ku Q V.2)) ⟨by rw[t];rfl,W,by rw[u];simp[Blk.dim],rfl,y0,kD cs (i*s.w+o) as,rest,_,J,u,I,rfl,Be _ _ _,by rw[h8,Ea _ _ _ _ (by omega)], ?_⟩ H;obtain⟨pre,X,h11,h12⟩:=jZ r s _ _ _ hof;rw[List.append_nil]at X;subst X;simp only[Blk.vals];rw[Nf hi,LU (w:=s.w) (by omega) (by omega)];refine(h9.take _).append (F2.append (h12 _ (LS hx1 o ?_)) (h9.drop _));have h13:=(h9.drop (i*s.w)).take s.w;simp only[Blk.vals]at h13
       rwa [HY E]at h13
     .cases f
 |_=>cases f
end
end
section
open Bool renaming and_eq_true -> aD, false_eq_true -> bB
open List renaming extract_eq_take_drop -> bD
open Nat renaming eq_of_beq_eq_true -> cB
open Option renaming map_some -> aB
section
variable {β:Type} {T:fM} {c:Ctx} {e:cm} {ea:cf} {k:VV->ai->Option β} {y:β} {d:List Nat}
theorem rC (s:ByteArray):(cw s).length=s.size:=by simp[cw]
theorem KP (s t:ByteArray):cw (s++t)=cw s++cw t:=by
 simp[cw,ByteArray.data_append]
theorem En : ∀{l m:List UInt8},(l.map λb=>(b.toNat:Int))=m.map (λb=>(b.toNat:Int))->l=m
 |[],[],_=>rfl
 |[],_::_,h=>by simp at h
 |_::_,[],h=>by simp at h
 |a::l,b::m,h=>by
  simp only[List.map_cons,List.cons.injEq]at h;rw[En h.2,UInt8.toNat_inj.1 (Int.ofNat.inj h.1)]
theorem I8 (s:ByteArray):s.toList=s.data.toList:=by
 rw[ByteArray.toList_eq]
theorem HL (s t:ByteArray):(s.toList==t.toList)=Zc (cw s=cw t):=by
 rw[I8,I8];by_cases h:s.data.toList=t.data.toList
 .simp[cw,h]
 .have:cw s≠cw t:=λe=>h (En e)
  have f: ¬s.data=t.data:=λe=>h (by rw[e])
  simp[this,f]
theorem Vn {op:BinOp}{a b:Int}{j:VV->Option β}(h:Sn op kd a b j=O y): ∃v l,Uq op kd a b=O l/\VRel c v l/\j v=O y:=by
 cases op<;>simp only[Sn]at h<;>try(cases h;done)
 case add=>exact⟨_,_,rfl, .int _ _,h⟩
 case sub=>exact⟨_,_,rfl, .int _ _,h⟩
 case mul=>exact⟨_,_,rfl, .int _ _,h⟩
 case quo=>
  obtain⟨f,g⟩:=aw h;exact⟨_,_,zF (of_decide_eq_true f), .int _ _,g⟩
 case rem=>
  obtain⟨f,g⟩:=aw h;exact⟨_,_,zF (of_decide_eq_true f), .int _ _,g⟩
 case and=>exact⟨_,_,rfl, .int _ _,h⟩
 case or=>exact⟨_,_,rfl, .int _ _,h⟩
 case xor=>exact⟨_,_,rfl, .int _ _,h⟩
 case andNot=>exact⟨_,_,rfl, .int _ _,h⟩
 case eql=>
  refine⟨_,_,rfl, ?_,h⟩;have:(a==b)=Zc (a=b):=by by_cases h:a=b<;>simp[h]
  rw[this];exact .bool _
 case neq=>
  refine⟨_,_,rfl, ?_,h⟩;have:(a !=b)=Zc (a≠b):=by by_cases h:a=b<;>simp[h]
  rw[this];exact .bool _
 case lss=>exact⟨_,_,rfl, .bool _,h⟩
 case leq=>exact⟨_,_,rfl, .bool _,h⟩
 case gtr=>exact⟨_,_,rfl, .bool _,h⟩
 case geq=>exact⟨_,_,rfl, .bool _,h⟩
theorem az1 (C:dv c)(r:au c e ea){op:BinOp}(h:az0 op (ev e x) (ev e z) (λv=>k v c.S)=O y):bu T (.bin op x z) ea c.Z (gx c d k y):=by
 have u:=bv r x;have w:=bv r z
 have f: ∀v n,Aq op (ea.ev x) (ea.ev z)=O n->VRel c v n->k v c.S=O y->bu T (.bin op x z) ea c.Z (gx c d k y):=λv n g j q=>
  bw (by simp only[AOp.run,g];rfl) (gx.same C j q)
 generalize ev e x=F at*;generalize ev e z=H at*;unfold az0 at h;split at h
 .rename_i D a E b;rw[u.int_inv,w.int_inv]at f;cases l:uO op with
  |true=>
   rw[l,zC]at h;simp only[Aq,l,if_true]at f;cases op<;>simp only[Y7]at h<;>try(cases h;done)
   .obtain⟨g,j⟩:=aw h;have g:=of_decide_eq_true g;refine f _ _ ?_ (.int _ _) j;simp only[LW];rw[Zh]
   .obtain⟨g,j⟩:=aw h;have g:=of_decide_eq_true g;refine f _ _ ?_ (.int _ _) j;simp only[LW];rw[Zh]
  |false=>
   rw[l,zD]at h;cases m:Zc (D=E)with
   |false=>rw[m]at h;cases h
   |true=>
    rw[m,zC]at h;have m:=of_decide_eq_true m;subst m;obtain⟨v,n,g,j,q⟩:=Vn (c:=c) h;refine f v n ?_ j q;simp only[Aq,l,bB,if_false,if_true,g]
 .rename_i a b;obtain⟨s,A,rfl⟩:=u.str_inv;obtain⟨t,B,rfl⟩:=w.str_inv;rw[A,B]at f;cases l:uO op with
  |true=>rw[l]at h;cases h
  |false=>
   rw[l,zD]at h;simp only[Aq,l,bB,if_false]at f;cases op<;>simp only[aM8]at h<;>try(cases h;done)
   .obtain⟨g,j⟩:=aw h;have g:(cw s).length+(cw t).length<=9223372036854775807:=Nat.le_of_ble_eq_true g;rw[rC,rC]at g;refine f _ _ ?_ (.str (KP s t)) j;simp only[U0];rw[zF];show¬(((s.size+t.size:Nat):Int) > 9223372036854775807);omega
   .refine f _ _ rfl ?_ h;rw[HL];exact .bool _
   .refine f _ _ rfl ?_ h;rw[HL];have:(!Zc (cw s=cw t))=Zc (cw s≠cw t):=by simp
    rw[this];exact .bool _
 .cases h
theorem ti (h:b.live=Za): ∃dm,b.dim=O dm:=by cases b<;>first|(cases h;done)|exact⟨_,rfl⟩
theorem FT {v:VV}(h:VRel c v a)(l:Lc c.S v=Za): ∃x,a= .pointer (O x):=by
 cases v<;>try(cases l;done)
 case ptr q o=>
  obtain⟨f,j⟩:=ti l;cases h with
  |ptr m _ g=>obtain⟨b,_,h⟩:=g f j;exact⟨_,h⟩
 case pix q o n i=>
  obtain⟨f,j⟩:=ti l;cases h with
  |pix m _ _ g=>obtain⟨b,_,h⟩:=g f j;exact⟨_,h⟩
 case pel q i o=>
  obtain⟨f,j⟩:=ti l;cases h with
  |pel m _ g=>obtain⟨b,_,h⟩:=g f j;exact⟨_,h⟩
 case pin s x o=>cases h;exact⟨_,rfl⟩
theorem QM (q:dv c)(t:au c e ea)(h:(match ev e x with
  | .fn f a b=>k (.fn f a b) c.S
  |v=>gd (Lc c.S v) (k v c.S))=O y):bu T (.nilCheck x) ea c.Z (gx c d k y):=by
 have g:=bv t x;split at h
 .rename_i f a b u;rw[u]at g
  have: ∃l m,ea.ev x= .func (.func f) l m:=by
   generalize ea.ev x=w at g;cases g;exact⟨_,_,rfl⟩
  obtain⟨l,m,j⟩:=this;rw[j]at g;exact bw (by simp only[AOp.run,j]) (gx.same q g h)
 .obtain⟨j,r⟩:=aw h;obtain⟨p,n⟩:=FT g j;rw[n]at g;exact bw (by simp only[AOp.run,n]) (gx.same q g r)
theorem Yo {b:Bool}:(b !=neg)=Yn neg b:=by cases neg<;>cases b<;>rfl
theorem aA7 (w:dv c)(u:au c e ea){kd:Nat}{p:Bool}(f:aA6 c.S kd (ev e x) (ev e z)=O p)(h:k (.bool (Yn neg p)) c.S=O y):bu T (.eqv kd neg x z) ea c.Z (gx c d k y):=by
 have j:=bv u x;have l:=bv u z
 have g:Qh kd (ea.ev x) (ea.ev z)=O p->bu T (.eqv kd neg x z) ea c.Z (gx c d k y):=λn=>
  bw (v:= .bool (p !=neg)) (by simp only[AOp.run,n];rfl) (gx.same w (by rw[Yo];exact .bool _) h)
 generalize ev e x=A at*;generalize ev e z=B at*;unfold aA6 at f;split at f
 .injection f with f;subst f
  rw[j.bool_inv,l.bool_inv]at g;exact g rfl
 .injection f with f;subst f
  refine g ?_;generalize ea.ev x=r at*;generalize ea.ev z=t at*;cases j;cases l;rfl
 .cases m:Lc c.S B with
  |false=>rw[m]at f;cases f
  |true=>
   rw[m]at f;injection f with f;subst f
   refine g ?_;obtain⟨q,n⟩:=FT l m;rw[n];generalize ea.ev x=r at*;cases j;rfl
 .cases m:Lc c.S A with
  |false=>rw[m]at f;cases f
  |true=>
   rw[m]at f;injection f with f;subst f
   refine g ?_;obtain⟨q,n⟩:=FT j m;rw[n];generalize ea.ev z=t at*;cases l;rfl
 .injection f with f;subst f
  refine g ?_;generalize ea.ev x=r at*;generalize ea.ev z=t at*;cases j;cases l;rfl
 .injection f with f;subst f
  refine g ?_;generalize ea.ev x=r at*;generalize ea.ev z=t at*;cases j;cases l;rfl
 .injection f with f;subst f
  refine g ?_;generalize ea.ev x=r at*;generalize ea.ev z=t at*;cases j;cases l;rfl
 .injection f with f;subst f
  refine g ?_;generalize ea.ev x=r at*;generalize ea.ev z=t at*;cases j;cases l;rfl
 .cases f
theorem ah5 {kd:Nat}{v w:VV}{l m:Value}{p:Bool}(h:VG kd v w=O p)(g:VRel c v l)(j:VRel c w m):vu kd l m=O p:=by
 unfold VG at h;split at h
 .injection h with h;subst h
  rw[g.bool_inv,j.bool_inv];rfl
 .rename_i r a u b;cases f:Zc (r=u)with
  |false=>rw[f]at h;cases h
  |true=>
   rw[f]at h;injection h with h;subst h
   rw[g.int_inv,j.int_inv];simp only[vu,of_decide_eq_true f,if_true];by_cases e:a=b<;>simp[e]
 .injection h with h;subst h
  obtain⟨s,n,rfl⟩:=g.str_inv;obtain⟨t,q,rfl⟩:=j.str_inv;rw[n,q];simp only[vu];rw[HL]
 .cases h
theorem ah6 : ∀{f:List Nat} {l m:List VV} {u A:List Value} {p:Bool},MJ f l m=O p->F2 (VRel c) l u->F2 (VRel c) m A->jG f u A=O p:=by
 intro f;induction f with
 |nil=>
  intro l m u A p h B C;cases B<;>cases C<;>simp only[MJ]at h<;>try(cases h;done)
  exact h
 |cons kd f P=>
  intro l m u A p h B C;cases B with
  |nil=>cases m<;>simp[MJ]at h
  |cons M I=>
   cases C with
   |nil=>cases f<;>simp[MJ]at h
   |cons N J=>
    rename_i v Q K F w S L H
    have t: ∀q r,VG kd v w=O q->MJ f K L=O r->p=(q&&r)->jG (kd::f) (Q::F) (S::H)=O p:=by
     intro q r g n j;simp only[jG,ah5 g M N];cases q with
     |false=>simp[j]
     |true=>rw[P n I J,j];simp
    unfold MJ at h;split at h
    .rename_i g n j;cases g
    .rename_i g n j;cases g;cases n;cases j;cases I;cases J;exact t p Za h rfl (by simp)
    .rename_i g n j;cases g;cases n;cases j;cases D:VG kd v w with
     |none=>rw[D]at h;cases h
     |some q=>
      rw[D]at h;simp only[zG]at h;cases E:MJ f K L with
      |none=>rw[E]at h;cases h
      |some r=>
       rw[E]at h;injection h with h
       exact t q r D E h.symm
    .cases h
theorem SG (w:dv c)(f:au c e ea){l:List Nat}{a b:List VV}{p:Bool}(t:ev e x= .agg a)(u:ev e z= .agg b)(A:MJ l a b=O p)(h:k (.bool (Yn neg p)) c.S=O y):
  bu T (.eqCells neg l x z) ea c.Z (gx c d k y):=by
 have g:=bv f x;have j:=bv f z;rw[t]at g;rw[u]at j;obtain⟨B,m,q⟩:=g.agg_inv;obtain⟨C,n,r⟩:=j.agg_inv;exact bw (v:= .bool (p !=neg)) (by simp only[AOp.run,m,n,ah6 A q r];rfl) (gx.same w (by rw[Yo];exact .bool _) h)
theorem aM9 (j:dv c)(l:au c e ea){op:UnOp}(h:unK op (ev e x) (λv=>k v c.S)=O y):bu T (.un op x) ea c.Z (gx c d k y):=by
 have f:=bv l x;unfold unK at h;split at h
 .rename_i kd n g;rw[g]at f;exact bw (by simp only[AOp.run,f.int_inv];rfl) (gx.same j (.int _ _) h)
 .rename_i kd n g;rw[g]at f;exact bw (by simp only[AOp.run,f.int_inv];rfl) (gx.same j (.int _ _) h)
 .rename_i b g;rw[g]at f;exact bw (by simp only[AOp.run,f.bool_inv];rfl) (gx.same j (.bool _) h)
 .cases h
theorem La {v:VV}{n:Int}(h:GO v=O n)(f:VRel c v a): ∃kd,a= .int kd n:=by
 cases v<;>simp only[GO]at h<;>try(cases h;done)
 injection h with h;subst h
 exact⟨_,f.int_inv⟩
theorem ag1 (f:dv c)(g:au c e ea){n:Int}(j:GO (ev e x)=O n)(h:k (.int kd (kd.wrap n)) c.S=O y):bu T (.conv kd x) ea c.Z (gx c d k y):=by
 obtain⟨m,l⟩:=La j (bv g x);exact bw (by simp only[AOp.run,l];rfl) (gx.same f (.int _ _) h)
theorem Wg (j:dv c)(g:au c e ea){f:Nat}{a b:List Operand}(h:k (.fn f (a.map (ev e)) (b.map (ev e))) c.S=O y):bu T (.mkFunc f a b) ea c.Z (gx c d k y):=
 bw rfl (gx.same j (.fn (by simpa using JU g a) (by simpa using JU g b)) h)
theorem VI (q:dv c)(B:au c e ea){o n:Nat}{cs:List VV}(C:ev e x= .agg cs)(h:cond agg (k (.agg (AY cs o n)) c.S) (Ws c.S (nth cs o) k)=O y):bu T (.fieldV o n agg x) ea c.Z (gx c d k y):=by
 have r:=bv B x;rw[C]at r;obtain⟨j,l,m⟩:=r.agg_inv;cases agg with
 |true=>
  refine bw (v:= .agg (j.extract o (o+n))) (by simp only[AOp.run,l];rfl) (gx.same q (.agg ?_) h);have:=(m.drop o).take n;simpa[AY,Array.toList_extract,bD]using this
 |false=>
  rw[zD]at h;cases g:nth cs o with
  |none=>rw[g]at h;cases h
  |some w=>
   rw[g]at h;obtain⟨u,t,A⟩:=F2.nth m g;have f:j[o]?=O u:=by simpa using t
   exact bw (by simp only[AOp.run,l,f];rfl) (gx.same q A h)
theorem SI (t:dv c)(A:au c e ea){i:Nat}{cs:List VV}(B:ev e x= .tup cs)(h:Ws c.S (nth cs i) k=O y):bu T (.extract x i) ea c.Z (gx c d k y):=by
 have j:=bv A x;rw[B]at j;obtain⟨l,m,n⟩:=j.tup_inv;cases g:nth cs i with
 |none=>rw[g]at h;cases h
 |some w=>
  rw[g]at h;obtain⟨u,q,r⟩:=F2.nth n g;have f:l[i]?=O u:=by simpa using q
  exact bw (by simp only[AOp.run,m,f];rfl) (gx.same t r h)
theorem EL {i:Int}{n j:Nat}(h:ix i n=O j):0<=i/\i<n/\j=i.toNat/\j<n:=by
 unfold ix at h;cases f:(Zc (0<=i)&&Zc (i<n))with
 |false=>rw[f]at h;cases h
 |true=>
  rw[f]at h;injection h with h
  rw[aD]at f;have g:=of_decide_eq_true f.1;have l:=of_decide_eq_true f.2;exact⟨g,l,h.symm,by omega⟩
theorem UN {α:Type}{l:List α}{i:Int}{x:α}(h:rd l i=O x):0<=i/\i<l.length/\l[i.toNat]?=O x:=by
 unfold rd at h;cases f:Zc (0<=i)with
 |false=>rw[f]at h;cases h
 |true=>
  rw[f]at h;have g:=of_decide_eq_true f
  have j:i.toNat<l.length:=by
   rcases Nat.lt_or_ge i.toNat l.length with h3|h3
   .exact h3
   .rw[zC,List.getElem?_eq_none h3]at h;cases h
  exact⟨g,by omega,h⟩
theorem ah {α γ:Type}{x:Option α}{f:α->Option γ}{z:γ}(h:x.bind f=O z): ∃a,x=O a/\f a=O z:=by
 cases x with
 |none=>cases h
 |some a=>exact⟨a,rfl,h⟩
theorem V0 (F:dv c)(H:au c e ea){ln es:Nat}{cs:List VV}{i:Int}(N:ev e x= .agg cs)(P:ev e z= .int kd i)
  (h:((ix i ln).bind λj=>cond agg (k (.agg (AY cs (j*es) es)) c.S) (gd (Nat.beq es 1&&Nat.beq cs.length ln) (P0 cs j c.S k)))=O y):bu T (.indexV ln es agg x z) ea c.Z (gx c d k y):=by
 have I:=bv H x;have J:=bv H z;rw[N]at I;rw[P]at J;obtain⟨t,A,C⟩:=I.agg_inv;have B:=J.int_inv;obtain⟨j,K,q⟩:=ah h;obtain⟨D,E,rfl,Q⟩:=EL K;cases agg with
 |true=>
  refine bw (v:= .agg (t.extract (i.toNat*es) (i.toNat*es+es))) (by simp only[AOp.run,A,B];rw[zE ⟨D,E⟩];rfl) (gx.same F (.agg ?_) q);have:=(C.drop (i.toNat*es)).take es;simpa[AY,Array.toList_extract,bD]using this
 |false=>
  rw[zD]at q;obtain⟨r,L⟩:=aw q;rw[aD]at r;have M:=cB r.1;have U:=cB r.2;subst M;obtain⟨w,f,g⟩:=P1 (by omega) L;obtain⟨u,l,m⟩:=C.get _ _ f;have n:t[i.toNat*1]?=O u:=by rw[Nat.mul_one];simpa using l
  exact bw (by simp only[AOp.run,A,B,n];rw[zE ⟨D,E⟩];rfl) (gx.same F m g)
theorem VZ (D:dv c)(j:au c e ea){l:Zd}{i:Int}(E:ev e x= .str l)(F:ev e z= .int kd i)(h:((rd l i).bind λb=>k (.int .u8 b) c.S)=O y):bu T (.indexS x z) ea c.Z (gx c d k y):=by
 have m:=bv j x;have n:=bv j z;rw[E]at m;rw[F]at n;obtain⟨s,q,rfl⟩:=m.str_inv;have r:=n.int_inv;obtain⟨b,t,w⟩:=ah h;obtain⟨A,B,f⟩:=UN t;simp only[cw,List.getElem?_map]at f;cases g:s.data.toList[i.toNat]? with
 |none=>rw[g]at f;cases f
 |some u=>
  rw[g,aB]at f;injection f with f
  subst f
  have C:s[i.toNat]?=O u:=by
   have:i.toNat<s.size:=by rw[rC]at B;omega
   rw[getElem?_pos s i.toNat this];rw[<-g,Array.getElem?_toList,getElem?_pos s.data i.toNat this];rfl
  exact bw (v:= .int .u8 u.toNat) (by simp only[AOp.run,q,r,C];rw[zE A];rfl) (gx.same D (.int _ _) w)
theorem am2 (m:dv c)(g:au c e ea){f:IntKind}{a b:Int}(n:ev e x= .int kd a)(q:ev e z= .int f b)(h:k (.int kd (max a b)) c.S=O y):bu T (.most x z) ea c.Z (gx c d k y):=by
 have j:=bv g x;have l:=bv g z;rw[n]at j;rw[q]at l;refine bw (v:= .int kd (max a b)) ?_ (gx.same m (.int _ _) h);simp only[AOp.run,j.int_inv,l.int_inv,Tz,aB]
 congr 3
 split<;>omega
theorem X9 (m:dv c)(g:au c e ea){f:IntKind}{a b:Int}(n:ev e x= .int kd a)(q:ev e z= .int f b)(h:k (.int kd (min a b)) c.S=O y):bu T (.least x z) ea c.Z (gx c d k y):=by
 have j:=bv g x;have l:=bv g z;rw[n]at j;rw[q]at l;refine bw (v:= .int kd (min a b)) ?_ (gx.same m (.int _ _) h);simp only[AOp.run,j.int_inv,l.int_inv,Pv,aB]
 congr 3
 split<;>omega
end
end
end Go.V
