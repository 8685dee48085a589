/- A part of the proof. No condition. -/
import Derived.Test.YtknphpcjacoaeaaGreatA4
set_option linter.unusedVariables false
set_option linter.unusedSimpArgs false
set_option linter.unusedSectionVars false
namespace Go.V
open Go.Ab
open Option renaming some->O,none->Y
open Bool renaming true->Za,false->Zb
open Decidable renaming decide->Zc
variable {x z:Operand}{a:Value}{kd:IntKind}{b i:Int}{c:Ctx}{S S':ak}{blk:Blk}{neg p:Bool}{k:Nat}
section
open Nat renaming lt_of_lt_of_le -> aB
theorem Oy.frame {f:Ctx}(C:Le c f)(h:Oy c k)(o:ae f.S k=ae c.S k)(D:(ae c.S k).dim≠Y->f.μ k=c.μ k)(B: ∀b y,(ae c.S k).dim≠Y->c.μ k=O b->c.Z.m b=O y->f.Z.m b=O y):Oy f k:=by
 intro d l;rw[o]at l;obtain⟨s,t⟩:=h d l;have q:=D (by rw[l];simp);refine⟨s, ?_⟩;rcases t with⟨j,n⟩|⟨b,y,r,g,j,n,u,v,w,A⟩
 .exact .inl ⟨j,q.trans n⟩
 .exact .inr ⟨b,y,r,g,q.trans j,B b y (by rw[l];simp) j n,u,by rw[o];exact v,w,by rw[o];exact VRel.frames C A⟩
def yA (S S':ak):Prop:=S'.length=S.length/\∀k,ae S' k=ae S k∨ae S' k=(ae S k).freeze
theorem yA.refl (S:ak):yA S S:=⟨rfl,λ_=> .inl rfl⟩
theorem Rl {b:Blk}:b.freeze.freeze=b.freeze:=by cases b<;>rfl
theorem yA.trans {a b c:ak}(h:yA a b)(k:yA b c):yA a c:=by
 refine⟨k.1.trans h.1,λi=> ?_⟩;rcases h.2 i with h1|h1<;>rcases k.2 i with h2|h2
 .exact .inl (h2.trans h1)
 .exact .inr (by rw[h2,h1])
 .exact .inr (h2.trans h1)
 .exact .inr (by rw[h2,h1,Rl])
theorem yA.put :yA S (oW S k (ae S k).freeze):=by
 refine⟨IJ,λi=> ?_⟩;rw[Cf];split
 .rename_i h;rw[h.1];exact .inr rfl
 .exact .inl rfl
theorem yA.fold {f:ak->VV->ak}(g: ∀S v,yA S (f S v)): ∀(l:List VV) (S:ak),yA S (l.foldl f S)
 |[],S=>yA.refl S
 |v::l,S=>(g S v).trans (yA.fold g l _)
theorem Y4 : ∀(n:Nat) (S:ak) (v:VV),yA S (fzv n S v)
 |0,S,_=>yA.refl S
 |n+1,S,v=>by
  have f: ∀k,yA S (match ae S k with
    | .cells j _ l=>l.foldl (fzv n) (oW S k (.cells j Za l))
    |b=>oW S k b.freeze):=by
   intro k;have g:=yA.put (S:=S) (k:=k);split
   .rename_i j z l h;rw[h]at g;exact yA.trans g (yA.fold (Y4 n) l _)
   .exact g
  unfold fzv;split
  .exact f _
  .exact f _
  .exact yA.refl S
theorem Je (S:ak)(l:List VV):yA S (KJ S l):=yA.fold (Y4 3) l S
theorem at1 (S:ak)(v:VV):yA S (ba5 S v):=by
 unfold ba5;split
 .split
  .exact Je S _
  .exact yA.refl S
 .split
  .exact Je S _
  .exact yA.refl S
 .exact yA.refl S
theorem ah1 (k:Sk)(v:VV)(S:ak):yA S (at0 k v S):=by
 unfold at0;split
 .exact at1 S v
 .exact yA.refl S
theorem PE : ∀(l:List Sk) (vs:List VV) (S:ak),yA S (Iq l vs S)
 |[],_,S=>yA.refl S
 |_::_,[],S=>yA.refl S
 |k::r,v::vs,S=>(ah1 k v S).trans (PE r vs _)
theorem zl : ∀(l:List Nat) (S:ak),yA S (G3 l S)
 |[],S=>yA.refl S
 |_::l,S=>yA.put.trans (zl l _)
theorem yA.dim (h:yA S S')(k:Nat):(ae S' k).dim=(ae S k).dim:=by
 rcases h.2 k with h|h<;>rw[h]
 exact gp
theorem yA.vals (h:yA S S')(k:Nat):(ae S' k).vals=(ae S k).vals:=by
 rcases h.2 k with h|h<;>rw[h]
 exact NH
theorem yA.fz (h:yA S S')(f:(ae S' k).frozen=Zb):ae S' k=ae S k:=by
 rcases h.2 k with h|h
 .exact h
 .rw[h,oh]at f;cases f
theorem yA.le (h:yA c.S S'):Le c ⟨c.μ,S',c.Z,c.fb⟩:=by
 refine⟨Nat.le_of_eq h.1.symm,λk d _ l=>⟨(h.dim k)▸l,rfl⟩,λk m _=> ?_,λ_ _ _ y _ _ _ f=>⟨y,f,rfl⟩,λb y f _=>f,λb y f n=> ?_,Nat.le_refl _,rfl⟩
 .rcases h.2 k with h|h
  .exact h
  .exact h.trans (E9 m)
 .rintro⟨k,g,j⟩;exact n ⟨k,by rw[<-h.fz g];exact g,j⟩
theorem yA.rel (f:Rel c)(h:yA c.S S'):Rel ⟨c.μ,S',c.Z,c.fb⟩:=by
 refine⟨f.ok,λk E b j n o q=>f.inj k E b (by rw[<-h.fz j];exact j) (by rw[<-h.dim];exact n) o q,λk d D=> ?_,λk b j o=>f.fbk k b (by rw[<-h.dim];exact j) o,f.fbl⟩;have m:(ae c.S k).dim=O d:=(h.dim k)▸D;obtain⟨t,l⟩:=f.blk k d m;refine⟨t, ?_⟩;rcases l with l|⟨b,y,s,g,u,v,w,A,B,C⟩
 .exact .inl l
 .exact .inr ⟨b,y,s,g,u,v,w,λr=>A (by rw[<-h.fz r];exact r),B,by rw[h.vals k];exact VRel.frames h.le C⟩
theorem yA.calm (d:List Nat)(h:yA c.S S'):zX d c ⟨c.μ,S',c.Z,c.fb⟩:=λk _ _ f=>⟨by rw[h.dim];exact f,λ_ _=>rfl⟩
theorem zX.trans {a b:Ctx}{d:List Nat}(h:zX d a b)(k:zX d b c)(n:Le a b):zX d a c:=by
 intro i f m t;obtain⟨j,q⟩:=h i f m t;obtain⟨r,s⟩:=k i (aB f n.len) m j;refine⟨r,λx o=> ?_⟩
 have g:b.μ i=O x:=by
  cases l:(ae b.S i).dim with
  |none=>exact(j l).elim
  |some z=>exact(n.al i z f l).2.trans o
 exact(s x g).trans (q x o)
def YN (c:Ctx)(kill:Option Nat)(b:Nat):Prop:= ∃k,kill=O k/\c.μ k=O b
def Bs (c:Ctx)(b1:Option Nat):Nat->Option Nat:=λi=>if i=c.S.length then b1 else c.μ i
theorem Cd {kill:Option Nat}:(vx S kill).length=S.length:=by cases kill<;>simp[vx,IJ]
theorem ah7 {kill:Option Nat}{i:Nat}:ae (vx S kill) i=if kill=O i then .dead else ae S i:=by
 cases kill with
 |none=>simp[vx]
 |some k=>
  simp only[vx,Cf,Option.some.injEq];by_cases h:i=k
  .subst h;by_cases f:i<S.length
   .simp[f]
   .simp[f,AG (Nat.le_of_not_lt f)]
  .simp[h,Ne.symm h]
structure Moves (c:Ctx)(kill:Option Nat)(b1:Option Nat)(blk:Blk)(Z':Hp):Prop where
 fr: ∀b,b1=O b->(∀z,c.Z.m b≠O z)->¬c.fb b
 kz: ∀k,kill=O k->(ae c.S k).frozen=Zb
 ok:Z'.Ok
 n:c.Z.n<=Z'.n
 old: ∀i y,c.Z.m i=O y->¬YN c kill i->Z'.m i=O y
 one: ∃d,blk.dim=O d/\1<=d.1/\((b1=Y/\d.2=0)∨∃b y cs rest,b1=O b/\Z'.m b=O y/\y.es=d.1/\(blk.frozen=Zb->y.own=Za)/\y.cells=cs++rest/\F2 (VRel c) blk.vals cs/\((∀z,c.Z.m b≠O z)∨YN c kill b))
section
variable {c:Ctx} {kill b1:Option Nat} {blk:Blk} {Z':Hp}
theorem oj (i:Nat):ae (vx c.S kill++[blk]) i=if i=c.S.length then blk else if kill=O i then .dead else ae c.S i:=by
 by_cases h:i=c.S.length
 .subst h;rw[zE rfl,<-Cd (S:=c.S) (kill:=kill),WM]
 .rw[zF h];by_cases f:i<c.S.length
  .rw[qS (by rw[Cd];exact f),ah7]
  .have g:c.S.length<i:=by omega
   rw[AG (by rw[List.length_append,Cd];simp;omega),AG (k:=i) (S:=c.S) (by omega)];split<;>rfl
theorem Moves.low (g:Rel c)(h:Moves c kill b1 blk Z'){i b:Nat}(_:i≠c.S.length)(l:kill≠O i)(j:(ae c.S i).dim≠Y)(m:c.μ i=O b): ¬YN c kill b:=by
 rintro⟨k,rfl,f⟩;exact l (congrArg O (g.inj k i b (h.kz k rfl) j f m))
theorem Moves.le (w:Rel c)(h:Moves c kill b1 blk Z'):Le c ⟨Bs c b1,vx c.S kill++[blk],Z',c.fb⟩:=by
 have j: ∀k,k<c.S.length->k≠c.S.length:=λk g=>by omega
 refine⟨by simp[Cd],λk d g f=> ?_,λk A f=> ?_,λk d b y g f q r=> ?_,λb y r s=>h.old b y r λ⟨k,e,q⟩=>s ⟨k,h.kz k e,q⟩,λb y r s=> ?_,h.n,rfl⟩
 .simp only[oj,zF (j k g)]at f;split at f
  .cases f
  .exact⟨f,zF (j k g)⟩
 .have g:=qu f;simp only[oj,zF (j k g)];rw[zF];intro e;have:=h.kz k e;rw[A]at this;cases this
 .simp only[oj,zF (j k g)]at f;split at f
  .cases f
  .rename_i t;exact⟨y,h.old b y r (h.low w (j k g) t (by rw[f];simp) q),rfl⟩
 .have u: ¬YN c kill b:=λ⟨k,e,q⟩=>s ⟨k,h.kz k e,q⟩
  rintro⟨k,m,l⟩;simp only[oj]at m;simp only[Bs]at l;by_cases g:k=c.S.length
  .rw[zE g]at m l;obtain⟨d,_,_,o⟩:=h.one;rcases o with⟨o,_⟩|⟨B,y',C,v,o,_,_,_,_,_,h4⟩
   .rw[o]at l;cases l
   .rw[o]at l;injection l with l
    subst l;rcases h4 with h4|h4
    .exact h4 y r
    .exact u h4
  .rw[zF g]at m l;split at m
   .cases m
   .exact s ⟨k,m,l⟩
theorem Moves.rel (t:Rel c)(h:Moves c kill b1 blk Z'):Rel ⟨Bs c b1,vx c.S kill++[blk],Z',c.fb⟩:=by
 have B:=h.le t
 have u: ∀i b,i≠c.S.length->kill≠O i->(ae c.S i).dim≠Y->c.μ i=O b->b1≠O b:=by
  intro i b M f s l e;obtain⟨d,_,_,j⟩:=h.one;rcases j with⟨j,_⟩|⟨C,y',D,r,j,_,_,_,_,_,h4⟩
  .rw[j]at e;cases e
  .rw[j]at e;injection e with e
   subst e;rcases h4 with h4|h4
   .cases A:(ae c.S i).dim with
    |none=>exact s A
    |some P=>
     obtain⟨y,_,_,H,_⟩:=t.block A l;exact h4 y H
   .exact h.low t M f s l h4
 have F: ∀b,c.fb b->b1≠O b:=by
  intro b v e;obtain⟨d,_,_,j⟩:=h.one;rcases j with⟨j,_⟩|⟨C,y',D,r,j,_,_,_,_,_,h4⟩
  .rw[j]at e;cases e
  .rw[j]at e;injection e with e
   subst e;rcases h4 with h4|⟨k,h4,E⟩
   .exact h.fr _ j h4 v
   .exact t.fbk k _ (qP (h.kz k h4)) E v
 refine⟨h.ok,λk I b f g l m=> ?_,λk=> ?_,λk b f l v=> ?_,λb v=>aB (t.fbl b v) h.n⟩
 rotate_left 2
 .simp only[oj]at f;simp only[Bs]at l;by_cases q:k=c.S.length
  .rw[zE q]at l;exact F b v l
  .rw[zF q]at l f;split at f
   .exact f rfl
   .exact t.fbk k b f l v
 .simp only[oj]at f g;simp only[Bs]at l m;by_cases q:k=c.S.length<;>by_cases w:I=c.S.length
  .omega
  .rw[zE q]at l;rw[zF w]at m g;split at g
   .exact(g rfl).elim
   .rename_i o;exact(u I b w o g m l).elim
  .rw[zF q]at l f;rw[zE w]at m;split at f
   .cases f
   .rename_i o;exact(u k b q o (qP f) l m).elim
  .rw[zF q]at l f;rw[zF w]at m g;split at f
   .cases f
   .split at g
    .exact(g rfl).elim
    .exact t.inj k I b f g l m
 .by_cases f:k=c.S.length
  .subst f;intro d s;simp only[oj,if_true]at s⊢;obtain⟨N,q,w,j⟩:=h.one;rw[s]at q;injection q with q
   subst q;refine⟨w, ?_⟩;simp only[Bs,if_true];rcases j with⟨j,h4⟩|⟨C,y',D,r,j,h4,E,J,K,L,_⟩
   .exact .inl ⟨h4,j⟩
   .exact .inr ⟨C,y',D,r,j,h4,E,J,K,VRel.frames B L⟩
  .by_cases o:kill=O k
   .intro d s;simp only[oj,zF f,zE o]at s;cases s
   .refine(t.blk k).frame B ?_ (λ_=>zF f) λb y s l H=> ?_
    .simp only[oj,zF f,zF o]
    .exact h.old b y H (h.low t f o s l)
theorem Moves.calm (m:Rel c)(h:Moves c kill b1 blk Z'){d:List Nat}(q: ∀k,kill=O k->k∈d):zX d c ⟨Bs c b1,vx c.S kill++[blk],Z',c.fb⟩:=by
 intro k t r f;have j:k≠c.S.length:=by omega
 have l:kill≠O k:=λe=>r (q k e)
 simp only[oj,zF j,zF l];refine⟨f,λb n=> ?_⟩;cases g:(ae c.S k).dim with
 |none=>exact(f g).elim
 |some s=>
  obtain⟨y,_,_,o,_⟩:=m.block g n;rw[o];exact h.old b y o (h.low m j l f n)
end
theorem ae4 (g:Rel c){x:Ab.Blk}{d:Nat×Nat}(m:blk.dim=O d)(j:1<=d.1)(o:x.es=d.1)(r:x.own=Za)(q:F2 (VRel c) blk.vals x.cells):
  Moves c Y (O c.Z.n) blk (c.Z.add x):=by
 refine⟨(λb h _ l=>by injection h with h;subst h;exact Nat.lt_irrefl _ (g.fbl _ l)),(λ_ h=>by cases h),λb y f=> ?_,Nat.le_succ _,λi y f _=> ?_,d,m,j, .inr ⟨c.Z.n,x,x.cells,[],rfl,zE rfl,o,λ_=>r,by simp,q, .inl λz s=> ?_⟩⟩
 .simp only[Hp.add]at f⊢;split at f
  .omega
  .have:=g.ok b y f;omega
 .have:=g.ok i y f;simp only[Hp.add];rw[Zh];exact f
 .have:=g.ok _ _ s;omega
structure Writes (c:Ctx)(k b:Nat)(blk:Blk)(y':Ab.Blk):Prop where
 kz:(ae c.S k).frozen=Zb
 mu:c.μ k=O b
 dim:blk.dim=(ae c.S k).dim
 fz:blk.frozen=Zb
 one: ∃y cs rest d,c.Z.m b=O y/\(ae c.S k).dim=O d/\y'.es=d.1/\y'.own=Za/\y'.cells.length=y.cells.length/\y'.cells=cs++rest/\F2 (VRel c) blk.vals cs
section
variable {c:Ctx} {k b:Nat} {blk:Blk} {y':Ab.Blk}
theorem Writes.get (h:Writes c k b blk y')(i:Nat):ae (oW c.S k blk) i=if i=k then blk else ae c.S i:=by
 rw[Cf];have:=qu (qP h.kz);by_cases f:i=k
 .rw[zE ⟨f,this⟩,zE f]
 .rw[zF (λe=>f e.1),zF f]
theorem Writes.low (g:Rel c)(h:Writes c k b blk y'){i f:Nat}(l:i≠k)(j:(ae c.S i).dim≠Y)(m:c.μ i=O f):f≠b:=by
 rintro rfl;exact l (g.inj k i f h.kz j h.mu m).symm
theorem Writes.le (q:Rel c)(h:Writes c k b blk y'):Le c ⟨c.μ,oW c.S k blk,c.Z.set b (O y'),c.fb⟩:=by
 refine⟨by simp[IJ],λi d _ g=> ?_,λi o g=> ?_,λi d x y _ g r j=> ?_,λx y j m=> ?_,λx y j m=> ?_,Nat.le_refl _,rfl⟩
 .simp only[h.get]at g;split at g
  .rename_i e;subst e;exact⟨h.dim▸g,rfl⟩
  .exact⟨g,rfl⟩
 .simp only[h.get];rw[zF];rintro rfl;rw[h.kz]at o;cases o
 .by_cases e:x=b
  .subst e;obtain⟨s,_,_,_,f,_,_,_,l,_⟩:=h.one;rw[j]at f;injection f with f
   subst f;exact⟨y',by simp[Hp.set],l⟩
  .exact⟨y,by simp[Hp.set,e,j],rfl⟩
 .have n:x≠b:=by rintro rfl;exact m ⟨k,h.kz,h.mu⟩
  simp[Hp.set,n,j]
 .rintro⟨i,f,l⟩;simp only[h.get]at f;split at f
  .rename_i e;subst e;exact m ⟨i,h.kz,l⟩
  .exact m ⟨i,f,l⟩
theorem Writes.rel (f:Rel c)(h:Writes c k b blk y'):Rel ⟨c.μ,oW c.S k blk,c.Z.set b (O y'),c.fb⟩:=by
 have n:=h.le f
 have u: ∀i,(ae (oW c.S k blk) i).frozen=Zb->(ae c.S i).frozen=Zb:=by
  intro i l;rw[h.get]at l;split at l
  .rename_i e;subst e;exact h.kz
  .exact l
 have g: ∀i,(ae (oW c.S k blk) i).dim=(ae c.S i).dim:=by
  intro i;rw[h.get];split
  .rename_i e;subst e;exact h.dim
  .rfl
 refine⟨λx z q=> ?_,λi j x l F o v=>f.inj i j x (u i l) (by rw[<-g];exact F) o v,λi=> ?_,λi x l o=>f.fbk i x (by rw[<-g];exact l) o,f.fbl⟩
 .simp only[Hp.set]at q;split at q
  .rename_i e;subst e;obtain⟨y,_,_,_,w,_⟩:=h.one;exact f.ok _ _ w
  .exact f.ok _ _ q
 .by_cases e:i=k
  .subst e;intro d t;obtain⟨y,A,r,H,w,s,B,C,I,D,E⟩:=h.one;have m:(ae c.S i).dim=O d:=by rw[<-g];exact t
   rw[m]at s;injection s with s
   subst s;refine⟨(f.blk i d m).1, .inr ⟨b,y',A,r,h.mu,by simp[Hp.set],B,λ_=>C,D, ?_⟩⟩;simp only[h.get,if_true];exact VRel.frames n E
  .refine(f.blk i).frame n (by simp only[h.get,zF e]) (λ_=>rfl) λx z t o q=> ?_
   have:=h.low f e t o;simp[Hp.set,this,q]
theorem Writes.calm (j:Rel c)(h:Writes c k b blk y'){d:List Nat}(l:k∈d):zX d c ⟨c.μ,oW c.S k blk,c.Z.set b (O y'),c.fb⟩:=by
 intro i _ n f;have g:i≠k:=by rintro rfl;exact n l
 simp only[h.get,zF g];refine⟨f,λx m=> ?_⟩;have:=h.low j g f m;simp[Hp.set,this]
end
end
section
open Bool renaming and_eq_true -> aB
open List renaming replicate -> bD, nil_append -> dD, append_assoc -> fB, drop_append -> fD, drop_of_length_le -> gB, length_append -> gD, length_cons -> iA, length_take -> iB, replicate_succ -> iC, take_append_drop -> iD
open Nat renaming beq -> aD, le_of_ble_eq_true -> bB, eq_of_beq_eq_true -> cB, ble -> cD, le_refl -> dB, zero_add -> eD
section
variable {β:Type} {T:mE} {c:Ctx} {e:dk} {ea:cm} {k:VV->ak->Option β} {y:β} {d:List Nat}
theorem VRel.bool_inv {b:Bool}(h:VRel c (.bool b) a):a= .bool b:=by cases h;rfl
theorem VRel.int_inv {n:Int}(h:VRel c (.int kd n) a):a= .int kd n:=by cases h;rfl
theorem VRel.str_inv {l:Zd}(h:VRel c (.str l) a): ∃s,a= .string s/\nF s=l:=by cases h;exact⟨_,rfl,by assumption⟩
theorem VRel.agg_inv {l:List VV}(h:VRel c (.agg l) a): ∃as:Array Value,a= .agg as/\F2 (VRel c) l as.toList:=by cases h;exact⟨_,rfl,by assumption⟩
theorem VRel.tup_inv {l:List VV}(h:VRel c (.tup l) a): ∃as:Array Value,a= .tuple as/\F2 (VRel c) l as.toList:=by cases h;exact⟨_,rfl,by assumption⟩
theorem WK {x z v:VV}{l m:Value}(h:aA0 p x z=O v)(g:VRel c x l)(j:VRel c z m):VRel c v (cond p l m):=by
 unfold aA0 at h;split at h
 .rename_i n q o r;cases f:Zc (n=o)with
  |false=>rw[f]at h;cases h
  |true=>
   rw[f]at h;injection h with h
   subst h;have:=of_decide_eq_true f;subst this;rw[g.int_inv,j.int_inv];cases p<;>exact .int _ _
 .injection h with h
  subst h;rw[g.bool_inv,j.bool_inv];cases p<;>exact .bool _
 .injection h with h
  subst h;cases p<;>assumption
 .cases h
theorem aK1 (f:Rel c)(g:ba c e ea)(h:k (ev e x) c.S=O y):cc T (.move x) ea c.Z (ng c d k y):=
 ck rfl (ng.same f (cd g x) h)
theorem aL9 (l:Rel c)(g:ba c e ea){t a b:Operand}(n:ev e t= .bool p)(h:ay2 p (ev e a) (ev e b) c.S k=O y):cc T (.pick t a b) ea c.Z (ng c d k y):=by
 have j:=cd g t;rw[n]at j;have j:=j.bool_inv
 have f: ∀v,VRel c v (cond p (ea.ev a) (ea.ev b))->k v c.S=O y->cc T (.pick t a b) ea c.Z (ng c d k y):=by
  intro v q m;refine ck (v:=cond p (ea.ev a) (ea.ev b)) (Z':=c.Z) ?_ (ng.same l q m);simp only[AOp.run,j];cases p<;>rfl
 unfold ay2 at h;split at h
 .rename_i v o;exact f v (WK o (cd g a) (cd g b)) h
 .cases p with
  |true=>exact f _ (cd g a) h
  |false=>exact f _ (cd g b) h
theorem ng.new {v:Value}{g:VV}{b1:Option Nat}{Z':Hp}{kill:Option Nat}(f:Rel c)(h:Moves c kill b1 blk Z')(j: ∀q,kill=O q->q∈d)(m:VRel ⟨Bs c b1,vx c.S kill++[blk],Z',c.fb⟩ g v)(l:k g (vx c.S kill++[blk])=O y):ng c d k y v Z':=
 ⟨g,_,rfl,h.le f,h.rel f,h.calm f j,m,l⟩
theorem aa8 {x:Ab.Blk}{dm:Nat×Nat}(_:blk.dim=O dm):VRel ⟨Bs c (O c.Z.n),vx c.S Y++[blk],c.Z.add x,c.fb⟩ (.ptr c.S.length 0) (.pointer (O ⟨c.Z.n,0,Y⟩)):=by
 refine .ptr (by simp[vx]) rfl λf _=>⟨c.Z.n, ?_,rfl⟩
 simp[Bs]
theorem aB8 : ∀{z:List Value},z.all bb2=Za->z=bD z.length (.int .u8 0)
 |[],_=>rfl
 |v::z,h=>by
  rw[List.all_cons,aB]at h
  have g:v= .int .u8 0:=by
   have f:=h.1;unfold bb2 at f;split at f
   .rw[of_decide_eq_true f]
   .cases f
  rw[iA,iC,<-aB8 h.2,g]
theorem BW (es:Nat)(z:List Value):(If es z).dim=O (es,z.length)/\(If es z).frozen=Zb/\∀c:Ctx,F2 (VRel c) (If es z).vals z:=by
 unfold If;cases f:Xw es z with
 |false=>
  rw[zD];exact⟨by simp[Blk.dim],rfl,λc=>Jm c z⟩
 |true=>
  rw[zC];unfold Xw at f;rw[aB,aB]at f;have j:=cB f.1.1;subst j;refine⟨by simp[Blk.dim,Sh.w],rfl,λc=> ?_⟩;have l:=aB8 f.2
  have g: ∀n,F2 (VRel c) (ib (.int .u8) (bD n (0:Int))) (bD n (.int .u8 0)):=by
   intro n;induction n with
   |zero=>exact .nil
   |succ n m=>exact .cons (.int _ _) m
  have h:=g z.length;rw[<-l]at h;exact h
theorem ao8 (g:Rel c){es:Nat}{z:List Value}(h:gd (cD 1 es) (k (.ptr c.S.length 0) (c.S++[If es z]))=O y):cc T (.alloc es z) ea c.Z (ng c d k y):=by
 obtain⟨j,l⟩:=aw h;obtain⟨f,n,m⟩:=BW es z;exact ck rfl (ng.new (kill:=Y) g (ae4 g (blk:=If es z) (x:=⟨z,Za,es⟩) (d:=(es,z.length)) f (bB j) rfl rfl (m c)) (λ_ h=>by cases h) (aa8 (dm:=(es,z.length)) f) l)
theorem aZ8 (g:Rel c)(m:ba c e ea){es:Nat}(h:gd (cD 1 es&&sV (qN (ev e x))) (k (.ptr c.S.length 0) (c.S++[.cells es Zb (qN (ev e x))]))=O y):cc T (.box es x) ea c.Z (ng c d k y):=by
 obtain⟨f,l⟩:=aw h;rw[aB]at f;have j:=Mi (cd m x) f.2;refine ck (by simp only[AOp.run];rw[zE (oE j f.2)]) (ng.new (kill:=Y) g (ae4 g (blk:= .cells es Zb (qN (ev e x))) (x:=⟨cellsOf (ea.ev x),Za,es⟩) (d:=(es,(qN (ev e x)).length)) rfl (bB f.1) rfl rfl j) (λ_ h=>by cases h) (aa8 (dm:=(es,_)) rfl) l)
theorem B1 (m:ba c e ea): ∀(j:List (Nat×Nat×Operand)) {cs r:List VV} {as:List Value},Nr cs (EH e j)=O r->F2 (VRel c) cs as->∃l,Io as (j.map λ(o,s,x)=>(o,s,ea.ev x))=O l/\F2 (VRel c) r l
 |[],cs,r,as,h,g=>by
  injection h with h
  subst h;exact⟨as,rfl,g⟩
 |(o,s,x)::j,cs,r,as,h,g=>by
  simp only[EH,List.map_cons,Nr]at h;cases f:(aD (qN (ev e x)).length s&&cD (o+s) cs.length&&(qN (ev e x)).all aL7)with
  |false=>rw[f]at h;cases h
  |true=>
   rw[f,zC]at h;rw[aB,aB]at f;have q:=cB f.1.1;have w:=bB f.1.2;have n:=Mi (cd m x) f.2;have t:(cellsOf (ea.ev x)).length=s:=by rw[<-n.length];exact q
   have A:as.length=cs.length:=g.length.symm;obtain⟨l,u,v⟩:=B1 m j h (((g.take o).append n).append (g.drop (o+s)));refine⟨l, ?_,v⟩;simp only[List.map_cons,Io];rw[zE ⟨t,by omega⟩];exact u
theorem aq5 (l:Rel c)(m:ba c e ea){z:List Value}{f:List (Nat×Nat×Operand)}{cs:List VV}(n:Nr (z.map N3) (EH e f)=O cs)(h:k (.agg cs) c.S=O y):cc T (.build z f) ea c.Z (ng c d k y):=by
 obtain⟨o,g,j⟩:=B1 m f n (Jm c z);exact ck (by simp only[AOp.run,g];rfl) (ng.same l (.agg (by simpa using j)) h)
theorem C6 {dm:Nat×Nat}{n m:Nat}{b:Nat}{yb:Ab.Blk}{Z':Hp}{kill:Option Nat}(h:blk.dim=O dm)(g:n*dm.1=dm.2)(l:n<=m)(o:Z'.m b=O yb)(j:m*dm.1<=yb.cells.length):
  VRel ⟨Bs c (O b),vx c.S kill++[blk],Z',c.fb⟩ (.full c.S.length) (.slice (O ⟨b,0,Y⟩) n m):=by
 refine .full (by simp[Cd]) rfl λq f=> ?_
 simp only[oj,if_true]at f;rw[h]at f;injection f with f
 subst f;exact⟨n,g, .inr ⟨b,m,yb,by simp,by simp[Bs],by rw[eD,g];exact dB _,l,o,by rw[eD];exact j⟩⟩
theorem MY : ∀(n:Nat) (z:List Value),F2 (VRel c) ((bD n (z.map N3)).flatten) (eo z n)
 |0,_=> .nil
 |n+1,z=>by
  simp only[eo,iC,List.flatten_cons];exact(Jm c z).append (MY n z)
theorem Rf (n:Rel c)(s:ba c e ea){es g:Nat}{z:List Value}{l:List (Nat×Nat×Operand)}{cs:List VV}(t:Nr ((bD g (z.map N3)).flatten) (EH e l)=O cs)
  (h:gd (sV cs&&aD (g*es) cs.length&&cD 1 es) (k (.full c.S.length) (c.S++[.cells es Zb cs]))=O y):cc T (.buildSlice es g z l) ea c.Z (ng c d k y):=by
 obtain⟨f,q⟩:=aw h;rw[aB,aB]at f;obtain⟨o,r,j⟩:=B1 s l t (MY g z);have m:=cB f.1.2;refine ck (by simp only[AOp.run,r];rw[zE (oE j f.1.1)]) (ng.new (kill:=Y) n (ae4 n (blk:= .cells es Zb cs) (x:=⟨o,Za,es⟩) (d:=(es,cs.length)) rfl (bB f.2) rfl rfl j) (λ_ h=>by cases h) ?_ q);exact C6 (dm:=(es,cs.length)) (yb:=⟨o,Za,es⟩) rfl m (dB _) (zE rfl) (by rw[<-j.length];exact Nat.le_of_eq m)
theorem aJ4 (f:Rel c)(r:ba c e ea)(h:Sd c.S 1 Zb (ev e x) k=O y):cc T (.load x) ea c.Z (ng c d k y):=by
 obtain⟨b,o,blk,g,j,l,_⟩:=Wo f h (cd r x);obtain⟨u,w,m,n,q⟩:=l rfl;exact ck (by simp only[AOp.run,g,j,m];rfl) (ng.same f n q)
theorem au6 (f:Rel c)(s:ba c e ea){n:Nat}(h:Sd c.S n Za (ev e x) k=O y):cc T (.loadN n x) ea c.Z (ng c d k y):=by
 obtain⟨b,o,blk,g,j,_,l⟩:=Wo f h (cd s x);obtain⟨t,u,m,q,r⟩:=l rfl;exact ck (by simp only[AOp.run,g,j,m];rfl) (ng.same f (.agg (by simpa using q)) r)
theorem Fh : ∀(vs cells:List Value) (o:Nat),(oI cells o vs).length=cells.length
 |[],_,_=>rfl
 |v::vs,cells,o=>by simp only[oI];rw[Fh vs];simp
theorem F2.set {l:List VV}{m:List Value}(h:F2 (VRel c) l m){v:VV}(j:VRel c v a): ∀i,F2 (VRel c) (l.set i v) (m.set i a):=by
 induction h with
 |nil=>intro i;simp;exact .nil
 |cons f g n=>
  intro i;cases i with
  |zero=>exact .cons j g
  |succ i=>exact .cons f (n i)
theorem Qu : ∀{vs:List VV} {as:List Value},F2 (VRel c) vs as->∀{l:List VV} {m:List Value} (o:Nat),F2 (VRel c) l m->F2 (VRel c) (aN1 l o vs) (oI m o as)
 |_,_, .nil,_,_,_,h=>h
 |_,_, .cons f g,_,_,o,h=>Qu g (o+1) (F2.set h f o)
theorem IG : ∀(vs:List Value) (cs rest:List Value) (o:Nat),o+vs.length<=cs.length->oI (cs++rest) o vs=oI cs o vs++rest
 |[],_,_,_,_=>rfl
 |v::vs,cs,rest,o,h=>by
  simp only[iA]at h;simp only[oI];rw[List.set_append_left _ _ (by omega),IG vs _ _ _ (by simp;omega)]
theorem De : ∀(vs:List Value) (pre cs:List Value) (o:Nat),oI (pre++cs) (pre.length+o) vs=pre++oI cs o vs
 |[],_,_,_=>rfl
 |v::vs,pre,cs,o=>by
  simp only[oI];rw[List.set_append_right _ _ (by omega),Nat.add_sub_cancel_left,Nat.add_assoc,De vs]
theorem Jv {blk:Ab.Blk}{o:Nat}{vs:List Value}(f:blk.own=Za)(g:o+vs.length<=blk.cells.length)(h:vs.all one=Za):EK blk o vs=O ⟨oI blk.cells o vs,Za,blk.es⟩:=by
 unfold EK;rw[zE ⟨f,g,h⟩,f]
theorem L0 (D:Rel c){q es o b:Nat}{l l' vs:List VV}{as:List Value}(g:ae c.S q= .cells es Zb l)(A:c.μ q=O b)(v:F2 (VRel c) vs as)(B:sV vs=Za)(F:o+vs.length<=l.length)
  (h: ∀cs,F2 (VRel c) l cs->F2 (VRel c) l' (oI cs o as)): ∃blk,c.Z.m b=O blk/\∃f,EK blk o as=O f/\Writes c q b (.cells es Zb l') f:=by
 obtain⟨r,cs,j,s,C,t,u,n⟩:=D.block (k:=q) (d:=(es,l.length)) (by rw[g];rfl) A;rw[g]at t n;have w:=F2.length n;simp only[Blk.vals]at w;have E:=F2.length v;refine⟨r,s,_,Jv (t rfl) (by rw[u,gD];omega) (oE v B),⟨by rw[g];rfl,A, ?_,rfl,r,oI cs o as,j,(es,l.length),s,by rw[g];rfl,C,rfl,Fh _ _ _, ?_,h cs n⟩⟩
 .have:=F2.length (h cs n);rw[Fh]at this;simp only[g,Blk.dim];rw[this,<-w]
 .show oI r.cells o as=_;rw[u,IG _ _ _ _ (by omega)]
theorem Qt {v:VV}{t:Value}(s:VRel c v t): ∀{cs:List VV} {as:List Value} {i j:Nat} {r:List VV},Qs v cs i j=O r->F2 (VRel c) cs as->F2 (VRel c) r (if j<=i then as.set (i-j) t else as)
 |[],_,i,j,r,h,n=>by
  cases n;injection h with h
  subst h;simp;exact .nil
 |w::cs,_,i,j,r,h,n=>by
  cases n with
  |cons u A=>
   rename_i a as;simp only[Qs]at h;cases q:aA0 (aD i j) v w with
   |none=>rw[q]at h;cases h
   |some x=>
    rw[q]at h;simp only[zG]at h;cases o:Qs v cs i (j+1)with
    |none=>rw[o]at h;cases h
    |some D=>
     rw[o]at h;injection h with h
     subst h;have f:=Qt s o A;have g:=WK q s u;by_cases l:i=j
     .subst l;rw[Zh]at f;rw[zE (dB _),Nat.sub_self];have:aD i i=Za:=Nat.beq_refl i;rw[this]at g;exact .cons g f
     .have B:aD i j=Zb:=by
       cases C:aD i j with
       |false=>rfl
       |true=>exact(l (cB C)).elim
      rw[B]at g;by_cases m:j+1<=i
      .rw[zE m]at f;rw[Zg,show i-j=(i-(j+1))+1 by omega];exact .cons g f
      .rw[zF m]at f;rw[Zh];exact .cons g f
theorem RO {s:Sh}{x:El s}: ∀{l:List (El s)} {i:Nat},i<l.length->ib s (l.set i x)=(ib s l).take (i*s.w)++(du s x++(ib s l).drop (i*s.w+s.w))
 |[],_,h=>by simp at h
 |a::l,0,_=>by
  rw[List.set_cons_zero,jc,jc,Nat.zero_mul,List.take_zero,dD,eD,fD,er,Nat.sub_self,List.drop_zero,gB (by rw[er];exact dB _),dD]
 |a::l,i+1,h=>by
  have f:(i+1)*s.w=s.w+i*s.w:=by rw[Nat.succ_mul];omega
  rw[List.set_cons_succ,jc,jc,RO (by simpa using h),f,List.take_append,fD,er,List.take_of_length_le (l:=du s a) (by rw[er];omega),gB (l:=du s a) (by rw[er];omega),dD,fB];rw[show s.w+i*s.w-s.w=i*s.w by omega,show s.w+i*s.w+s.w-s.w=i*s.w+s.w by omega]
theorem Pt (v:VV){q:Nat}(h:CR v=O q):q∈ax7 (CR v):=by rw[h];exact List.mem_singleton.2 rfl
theorem Qv {vs cs:List Value}{p o w:Nat}(g:o+vs.length<=w)(l:p+w<=cs.length):oI cs (p+o) vs=cs.take p++(oI ((cs.drop p).take w) o vs++cs.drop (p+w)):=by
 have f:cs=cs.take p++((cs.drop p).take w++cs.drop (p+w)):=by
  rw[<-List.drop_drop,iD,iD]
 have h:(cs.take p).length=p:=by rw[iB];omega
 have j:((cs.drop p).take w).length=w:=by rw[iB,List.length_drop];omega
 conv=>lhs;rw[f]
 have:=De vs (cs.take p) ((cs.drop p).take w++cs.drop (p+w)) o;rw[h]at this;rw[this,IG _ _ _ _ (by rw[j];exact g)]
theorem aA8 (hR:Rel c)(he:ba c e ea){n:Nat}{a:Operand}(hd: ∀q,CR (ev e a)=O q->q∈d)
  (h:gd (aD (qN (ev e x)).length n&&sV (qN (ev e x))) (YB c.S (ev e a) (qN (ev e x)) λS'=>k .undef S')=O y):cc T (.store n a x) ea c.Z (ng c d k y):=by
 obtain⟨V,f⟩:=aw h;rw[aB]at V;have hn:=cB V.1;have Q:=Mi (cd he x) V.2;have hlen:(cellsOf (ea.ev x)).length=n:=by rw[<-Q.length];exact hn
 have ha:=cd he a
 have U: ∀(M:Ctx) (q b o:Nat) (j:Ab.Blk) (blk:Blk) (g:Ab.Blk),M.Z=c.Z->Le c M->zX d c M->Rel M->q∈d->ea.ev a= .pointer (O ⟨b,o,Y⟩)->c.Z.m b=O j->EK j o (cellsOf (ea.ev x))=O g->Writes M q b blk g->
   k .undef (oW M.S q blk)=O y->cc T (.store n a x) ea c.Z (ng c d k y):=by
  intro M q b o j blk g hZ P N r hq F H J I K;refine ck (v:=undef) (Z':=c.Z.set b (O g)) ?_ ?_
  .simp only[AOp.run,F,hlen,if_true,H,J]
  .rw[<-hZ];exact⟨.undef,_,rfl,P.trans (I.le r),I.rel r,N.trans (I.calm r hq) P, .undef _,K⟩
 generalize cellsOf (ea.ev x)=as at*;generalize ev e a=av at*;generalize qN (ev e x)=L at*;unfold YB at f;cases av with
 |ptr q o=>
  simp only at f;cases t:ae c.S q with
  |dead=>rw[t]at f;cases f
  |arr s z l=>rw[t]at f;cases f
  |cells es z l=>
   rw[t]at f;cases z with
   |true=>cases f
   |false=>
    obtain⟨F,H⟩:=aw f;cases ha with
    |ptr hk _ C=>
     obtain⟨b,W,B⟩:=C (es,l.length) (by rw[t];rfl);obtain⟨j,J,g,I,K⟩:=L0 hR t W Q V.2 (bB F) λcs A=>Qu Q o A
     exact U c q b o j _ g rfl (Le.refl c) (zX.refl d c) hR (hd q rfl) B J I K H
 |pix q o m i=>
  simp only at f;split at f
  .rename_i es l v t;obtain⟨F,H⟩:=aw f;have F:=bB F;split at H
   .rename_i l' hs;cases Q with
    |cons hv hnil=>
     rename_i va as';cases hnil;cases ha with
     |pix hk _ hi C=>
      obtain⟨b,W,B⟩:=C (es,l.length) (by rw[t];rfl)
      obtain⟨j,J,g,I,K⟩:=L0 (l':=l.take o++l'++l.drop (o+m)) (o:=o+i) hR t W (.cons hv .nil) V.2 (by simp;omega) λcs A=>by
       have hl:=A.length;rw[Qv (w:=m) (by simp;omega) (by omega),fB];have h8:=Qt hv hs ((A.drop o).take m);rw[zE (Nat.zero_le _),Nat.sub_zero]at h8;exact(A.take o).append (h8.append (A.drop _))
      exact U c q b (o+i) j _ g rfl (Le.refl c) (zX.refl d c) hR (hd q rfl) B J I K H
   .cases H
  .cases f
 |pel q i o=>
  simp only at f;cases t:ae (KJ c.S L) q with
  |dead=>rw[t]at f;cases f
  |cells es z l=>rw[t]at f;cases f
  |arr s z l=>
   rw[t]at f;cases z with
   |true=>cases f
   |false=>
    simp only at f;cases E:l[i]? with
    |none=>rw[E]at f;cases f
    |some x'=>
     rw[E]at f;simp only[zG]at f;split at f
     .rename_i z hof;obtain⟨F,H⟩:=aw f;have F:=bB F;have D:=Je c.S L;have r:Rel ⟨c.μ,KJ c.S L,c.Z,c.fb⟩:=D.rel hR
      have hi:i<l.length:=by
       rcases Nat.lt_or_ge i l.length with h|h
       .exact h
       .rw[List.getElem?_eq_none h]at E;cases E
      have hx1:F2 (VRel ⟨c.μ,KJ c.S L,c.Z,c.fb⟩) L as:=VRel.frames D.le Q;cases ha with
      |pel hk _ C=>
       have u:(ae (KJ c.S L) q).dim=O (s.w,l.length*s.w):=by rw[t];rfl
       obtain⟨b,W,B⟩:=C (s.w,l.length*s.w) (by rw[<-D.dim];exact u);obtain⟨y0,cs,rest,J,I,K,h8,h9⟩:=r.block (k:=q) u W;rw[t]at K h9;have hl:=h9.length;simp only[Blk.vals,jh]at hl;have P:i*s.w+s.w<=l.length*s.w:=by rw[<-Nat.succ_mul];exact Nat.mul_le_mul_right _ hi
       have hlen':L.length=as.length:=Q.length;refine U ⟨c.μ,KJ c.S L,c.Z,c.fb⟩ q b (i*s.w+o) y0 (.arr s Zb (l.set i z)) _ rfl D.le (D.calm d) r (hd q rfl) B J (Jv (K rfl) (by rw[h8,gD];omega) (oE Q V.2)) ⟨by rw[t];rfl,W,by rw[u];simp[Blk.dim],rfl,y0,oI cs (i*s.w+o) as,rest,_,J,u,I,rfl,Fh _ _ _,by rw[h8,IG _ _ _ _ (by omega)], ?_⟩ H;obtain⟨pre,X,h11,h12⟩:=og r s _ _ _ hof;rw[List.append_nil]at X;subst X;simp only[Blk.vals];rw[RO hi,Qv (w:=s.w) (by omega) (by omega)];refine(h9.take _).append (F2.append (h12 _ (Qu hx1 o ?_)) (h9.drop _));have h13:=(h9.drop (i*s.w)).take s.w;simp only[Blk.vals]at h13
       rwa [Mt E]at h13
     .cases f
 |_=>cases f
end
end
section
open Bool renaming and_eq_true -> aD, false_eq_true -> bB
open List renaming extract_eq_take_drop -> bD
open Nat renaming eq_of_beq_eq_true -> cB
open Option renaming map_some -> aB
section
variable {β:Type} {T:mE} {c:Ctx} {e:dk} {ea:cm} {k:VV->ak->Option β} {y:β} {d:List Nat}
theorem DV (s:ByteArray):(nF s).length=s.size:=by simp[nF]
theorem Xv (s t:ByteArray):nF (s++t)=nF s++nF t:=by
 simp[nF,ByteArray.data_append]
theorem IQ : ∀{l m:List UInt8},(l.map λb=>(b.toNat:Int))=m.map (λb=>(b.toNat:Int))->l=m
 |[],[],_=>rfl
 |[],_::_,h=>by simp at h
 |_::_,[],h=>by simp at h
 |a::l,b::m,h=>by
  simp only[List.map_cons,List.cons.injEq]at h;rw[IQ h.2,UInt8.toNat_inj.1 (Int.ofNat.inj h.1)]
theorem NF (s:ByteArray):s.toList=s.data.toList:=by
 rw[ByteArray.toList_eq]
theorem Mh (s t:ByteArray):(s.toList==t.toList)=Zc (nF s=nF t):=by
 rw[NF,NF];by_cases h:s.data.toList=t.data.toList
 .simp[nF,h]
 .have:nF s≠nF t:=λe=>h (IQ e)
  have f: ¬s.data=t.data:=λe=>h (by rw[e])
  simp[this,f]
theorem ae9 {op:BinOp}{a:Int}{j:VV->Option β}(h:Xp op kd a b j=O y): ∃v l,Y8 op kd a b=O l/\VRel c v l/\j v=O y:=by
 cases op<;>simp only[Xp]at h<;>try(cases h;done)
 case add=>exact⟨_,_,rfl, .int _ _,h⟩
 case sub=>exact⟨_,_,rfl, .int _ _,h⟩
 case mul=>exact⟨_,_,rfl, .int _ _,h⟩
 case quo=>
  obtain⟨f,g⟩:=aw h;exact⟨_,_,zF (of_decide_eq_true f), .int _ _,g⟩
 case rem=>
  obtain⟨f,g⟩:=aw h;exact⟨_,_,zF (of_decide_eq_true f), .int _ _,g⟩
 case and=>exact⟨_,_,rfl, .int _ _,h⟩
 case or=>exact⟨_,_,rfl, .int _ _,h⟩
 case xor=>exact⟨_,_,rfl, .int _ _,h⟩
 case andNot=>exact⟨_,_,rfl, .int _ _,h⟩
 case eql=>
  refine⟨_,_,rfl, ?_,h⟩;have:(a==b)=Zc (a=b):=by by_cases h:a=b<;>simp[h]
  rw[this];exact .bool _
 case neq=>
  refine⟨_,_,rfl, ?_,h⟩;have:(a !=b)=Zc (a≠b):=by by_cases h:a=b<;>simp[h]
  rw[this];exact .bool _
 case lss=>exact⟨_,_,rfl, .bool _,h⟩
 case leq=>exact⟨_,_,rfl, .bool _,h⟩
 case gtr=>exact⟨_,_,rfl, .bool _,h⟩
 case geq=>exact⟨_,_,rfl, .bool _,h⟩
theorem aZ7 (B:Rel c)(q:ba c e ea){op:BinOp}(h:aZ6 op (ev e x) (ev e z) (λv=>k v c.S)=O y):cc T (.bin op x z) ea c.Z (ng c d k y):=by
 have r:=cd q x;have u:=cd q z
 have f: ∀v n,ED op (ea.ev x) (ea.ev z)=O n->VRel c v n->k v c.S=O y->cc T (.bin op x z) ea c.Z (ng c d k y):=λv n g j o=>
  ck (by simp only[AOp.run,g];rfl) (ng.same B j o)
 generalize ev e x=E at*;generalize ev e z=F at*;unfold aZ6 at h;split at h
 .rename_i C a D b;rw[r.int_inv,u.int_inv]at f;cases l:zV op with
  |true=>
   rw[l,zC]at h;simp only[ED,l,if_true]at f;cases op<;>simp only[aA3]at h<;>try(cases h;done)
   .obtain⟨g,j⟩:=aw h;have g:=of_decide_eq_true g;refine f _ _ ?_ (.int _ _) j;simp only[Qx];rw[Zh]
   .obtain⟨g,j⟩:=aw h;have g:=of_decide_eq_true g;refine f _ _ ?_ (.int _ _) j;simp only[Qx];rw[Zh]
  |false=>
   rw[l,zD]at h;cases m:Zc (C=D)with
   |false=>rw[m]at h;cases h
   |true=>
    rw[m,zC]at h;have m:=of_decide_eq_true m;subst m;obtain⟨v,n,g,j,o⟩:=ae9 (c:=c) h;refine f v n ?_ j o;simp only[ED,l,bB,if_false,if_true,g]
 .rename_i a b;obtain⟨s,w,rfl⟩:=r.str_inv;obtain⟨t,A,rfl⟩:=u.str_inv;rw[w,A]at f;cases l:zV op with
  |true=>rw[l]at h;cases h
  |false=>
   rw[l,zD]at h;simp only[ED,l,bB,if_false]at f;cases op<;>simp only[bp5]at h<;>try(cases h;done)
   .obtain⟨g,j⟩:=aw h;have g:(nF s).length+(nF t).length<=9223372036854775807:=Nat.le_of_ble_eq_true g;rw[DV,DV]at g;refine f _ _ ?_ (.str (Xv s t)) j;simp only[ac6];rw[zF];show¬(((s.size+t.size:Nat):Int) > 9223372036854775807);omega
   .refine f _ _ rfl ?_ h;rw[Mh];exact .bool _
   .refine f _ _ rfl ?_ h;rw[Mh];have:(!Zc (nF s=nF t))=Zc (nF s≠nF t):=by simp
    rw[this];exact .bool _
 .cases h
theorem yt {b:Blk}(h:b.live=Za): ∃dm,b.dim=O dm:=by cases b<;>first|(cases h;done)|exact⟨_,rfl⟩
theorem Km {v:VV}(h:VRel c v a)(l:PJ c.S v=Za): ∃x,a= .pointer (O x):=by
 cases v<;>try(cases l;done)
 case ptr q o=>
  obtain⟨f,j⟩:=yt l;cases h with
  |ptr m _ g=>obtain⟨b,_,h⟩:=g f j;exact⟨_,h⟩
 case pix q o n i=>
  obtain⟨f,j⟩:=yt l;cases h with
  |pix m _ _ g=>obtain⟨b,_,h⟩:=g f j;exact⟨_,h⟩
 case pel q i o=>
  obtain⟨f,j⟩:=yt l;cases h with
  |pel m _ g=>obtain⟨b,_,h⟩:=g f j;exact⟨_,h⟩
 case pin s x o=>cases h;exact⟨_,rfl⟩
theorem V0 (o:Rel c)(r:ba c e ea)(h:(match ev e x with
  | .fn f a b=>k (.fn f a b) c.S
  |v=>gd (PJ c.S v) (k v c.S))=O y):cc T (.nilCheck x) ea c.Z (ng c d k y):=by
 have g:=cd r x;split at h
 .rename_i f a b s;rw[s]at g
  have: ∃l m,ea.ev x= .func (.func f) l m:=by
   generalize ea.ev x=t at g;cases g;exact⟨_,_,rfl⟩
  obtain⟨l,m,j⟩:=this;rw[j]at g;exact ck (by simp only[AOp.run,j]) (ng.same o g h)
 .obtain⟨j,q⟩:=aw h;obtain⟨p,n⟩:=Km g j;rw[n]at g;exact ck (by simp only[AOp.run,n]) (ng.same o g q)
theorem av5 {b:Bool}:(b !=neg)=av4 neg b:=by cases neg<;>cases b<;>rfl
theorem ba2 (t:Rel c)(s:ba c e ea){kd:Nat}(f:ba1 c.S kd (ev e x) (ev e z)=O p)(h:k (.bool (av4 neg p)) c.S=O y):cc T (.eqv kd neg x z) ea c.Z (ng c d k y):=by
 have j:=cd s x;have l:=cd s z
 have g:VE kd (ea.ev x) (ea.ev z)=O p->cc T (.eqv kd neg x z) ea c.Z (ng c d k y):=λn=>
  ck (v:= .bool (p !=neg)) (by simp only[AOp.run,n];rfl) (ng.same t (by rw[av5];exact .bool _) h)
 generalize ev e x=u at*;generalize ev e z=w at*;unfold ba1 at f;split at f
 .injection f with f;subst f
  rw[j.bool_inv,l.bool_inv]at g;exact g rfl
 .injection f with f;subst f
  refine g ?_;generalize ea.ev x=o at*;generalize ea.ev z=r at*;cases j;cases l;rfl
 .cases m:PJ c.S w with
  |false=>rw[m]at f;cases f
  |true=>
   rw[m]at f;injection f with f;subst f
   refine g ?_;obtain⟨q,n⟩:=Km l m;rw[n];generalize ea.ev x=o at*;cases j;rfl
 .cases m:PJ c.S u with
  |false=>rw[m]at f;cases f
  |true=>
   rw[m]at f;injection f with f;subst f
   refine g ?_;obtain⟨q,n⟩:=Km j m;rw[n];generalize ea.ev z=r at*;cases l;rfl
 .injection f with f;subst f
  refine g ?_;generalize ea.ev x=o at*;generalize ea.ev z=r at*;cases j;cases l;rfl
 .injection f with f;subst f
  refine g ?_;generalize ea.ev x=o at*;generalize ea.ev z=r at*;cases j;cases l;rfl
 .injection f with f;subst f
  refine g ?_;generalize ea.ev x=o at*;generalize ea.ev z=r at*;cases j;cases l;rfl
 .injection f with f;subst f
  refine g ?_;generalize ea.ev x=o at*;generalize ea.ev z=r at*;cases j;cases l;rfl
 .cases f
theorem aH6 {kd:Nat}{v w:VV}{l m:Value}(h:ag4 kd v w=O p)(g:VRel c v l)(j:VRel c w m):Az kd l m=O p:=by
 unfold ag4 at h;split at h
 .injection h with h;subst h
  rw[g.bool_inv,j.bool_inv];rfl
 .rename_i q a r b;cases f:Zc (q=r)with
  |false=>rw[f]at h;cases h
  |true=>
   rw[f]at h;injection h with h;subst h
   rw[g.int_inv,j.int_inv];simp only[Az,of_decide_eq_true f,if_true];by_cases e:a=b<;>simp[e]
 .injection h with h;subst h
  obtain⟨s,n,rfl⟩:=g.str_inv;obtain⟨t,o,rfl⟩:=j.str_inv;rw[n,o];simp only[Az];rw[Mh]
 .cases h
theorem aH7 : ∀{f:List Nat} {l m:List VV} {s t:List Value} {p:Bool},Rk f l m=O p->F2 (VRel c) l s->F2 (VRel c) m t->nL f s t=O p:=by
 intro f;induction f with
 |nil=>
  intro l m s t p h u A;cases u<;>cases A<;>simp only[Rk]at h<;>try(cases h;done)
  exact h
 |cons kd f M=>
  intro l m s t p h u A;cases u with
  |nil=>cases m<;>simp[Rk]at h
  |cons K F=>
   cases A with
   |nil=>cases f<;>simp[Rk]at h
   |cons L H=>
    rename_i v N I D w P J E
    have o: ∀q r,ag4 kd v w=O q->Rk f I J=O r->p=(q&&r)->nL (kd::f) (N::D) (P::E)=O p:=by
     intro q r g n j;simp only[nL,aH6 g K L];cases q with
     |false=>simp[j]
     |true=>rw[M n F H,j];simp
    unfold Rk at h;split at h
    .rename_i g n j;cases g
    .rename_i g n j;cases g;cases n;cases j;cases F;cases H;exact o p Za h rfl (by simp)
    .rename_i g n j;cases g;cases n;cases j;cases B:ag4 kd v w with
     |none=>rw[B]at h;cases h
     |some q=>
      rw[B]at h;simp only[zG]at h;cases C:Rk f I J with
      |none=>rw[C]at h;cases h
      |some r=>
       rw[C]at h;injection h with h
       exact o q r B C h.symm
    .cases h
theorem XN (t:Rel c)(f:ba c e ea){l:List Nat}{a b:List VV}(r:ev e x= .agg a)(s:ev e z= .agg b)(u:Rk l a b=O p)(h:k (.bool (av4 neg p)) c.S=O y):
  cc T (.eqCells neg l x z) ea c.Z (ng c d k y):=by
 have g:=cd f x;have j:=cd f z;rw[r]at g;rw[s]at j;obtain⟨w,m,o⟩:=g.agg_inv;obtain⟨A,n,q⟩:=j.agg_inv;exact ck (v:= .bool (p !=neg)) (by simp only[AOp.run,m,n,aH7 u o q];rfl) (ng.same t (by rw[av5];exact .bool _) h)
theorem bp6 (j:Rel c)(l:ba c e ea){op:UnOp}(h:unK op (ev e x) (λv=>k v c.S)=O y):cc T (.un op x) ea c.Z (ng c d k y):=by
 have f:=cd l x;unfold unK at h;split at h
 .rename_i kd n g;rw[g]at f;exact ck (by simp only[AOp.run,f.int_inv];rfl) (ng.same j (.int _ _) h)
 .rename_i kd n g;rw[g]at f;exact ck (by simp only[AOp.run,f.int_inv];rfl) (ng.same j (.int _ _) h)
 .rename_i b g;rw[g]at f;exact ck (by simp only[AOp.run,f.bool_inv];rfl) (ng.same j (.bool _) h)
 .cases h
theorem PH {v:VV}{n:Int}(h:RT v=O n)(f:VRel c v a): ∃kd,a= .int kd n:=by
 cases v<;>simp only[RT]at h<;>try(cases h;done)
 injection h with h;subst h
 exact⟨_,f.int_inv⟩
theorem aG8 (f:Rel c)(g:ba c e ea){n:Int}(j:RT (ev e x)=O n)(h:k (.int kd (kd.wrap n)) c.S=O y):cc T (.conv kd x) ea c.Z (ng c d k y):=by
 obtain⟨m,l⟩:=PH j (cd g x);exact ck (by simp only[AOp.run,l];rfl) (ng.same f (.int _ _) h)
theorem ai1 (j:Rel c)(g:ba c e ea){f:Nat}{a b:List Operand}(h:k (.fn f (a.map (ev e)) (b.map (ev e))) c.S=O y):cc T (.mkFunc f a b) ea c.Z (ng c d k y):=
 ck rfl (ng.same j (.fn (by simpa using Oi g a) (by simpa using Oi g b)) h)
theorem ag6 (q:Rel c)(A:ba c e ea){o n:Nat}{agg:Bool}{cs:List VV}(B:ev e x= .agg cs)(h:cond agg (k (.agg (E7 cs o n)) c.S) (ai9 c.S (nth cs o) k)=O y):cc T (.fieldV o n agg x) ea c.Z (ng c d k y):=by
 have r:=cd A x;rw[B]at r;obtain⟨j,l,m⟩:=r.agg_inv;cases agg with
 |true=>
  refine ck (v:= .agg (j.extract o (o+n))) (by simp only[AOp.run,l];rfl) (ng.same q (.agg ?_) h);have:=(m.drop o).take n;simpa[E7,Array.toList_extract,bD]using this
 |false=>
  rw[zD]at h;cases g:nth cs o with
  |none=>rw[g]at h;cases h
  |some w=>
   rw[g]at h;obtain⟨u,s,t⟩:=F2.nth m g;have f:j[o]?=O u:=by simpa using s
   exact ck (by simp only[AOp.run,l,f];rfl) (ng.same q t h)
theorem XP (r:Rel c)(s:ba c e ea){i:Nat}{cs:List VV}(t:ev e x= .tup cs)(h:ai9 c.S (nth cs i) k=O y):cc T (.extract x i) ea c.Z (ng c d k y):=by
 have j:=cd s x;rw[t]at j;obtain⟨l,m,n⟩:=j.tup_inv;cases g:nth cs i with
 |none=>rw[g]at h;cases h
 |some w=>
  rw[g]at h;obtain⟨u,o,q⟩:=F2.nth n g;have f:l[i]?=O u:=by simpa using o
  exact ck (by simp only[AOp.run,m,f];rfl) (ng.same r q h)
theorem Jg {n j:Nat}(h:ix i n=O j):0<=i/\i<n/\j=i.toNat/\j<n:=by
 unfold ix at h;cases f:(Zc (0<=i)&&Zc (i<n))with
 |false=>rw[f]at h;cases h
 |true=>
  rw[f]at h;injection h with h
  rw[aD]at f;have g:=of_decide_eq_true f.1;have l:=of_decide_eq_true f.2;exact⟨g,l,h.symm,by omega⟩
theorem ab7 {α:Type}{l:List α}{x:α}(h:rd l i=O x):0<=i/\i<l.length/\l[i.toNat]?=O x:=by
 unfold rd at h;cases f:Zc (0<=i)with
 |false=>rw[f]at h;cases h
 |true=>
  rw[f]at h;have g:=of_decide_eq_true f
  have j:i.toNat<l.length:=by
   rcases Nat.lt_or_ge i.toNat l.length with h3|h3
   .exact h3
   .rw[zC,List.getElem?_eq_none h3]at h;cases h
  exact⟨g,by omega,h⟩
theorem ah {α γ:Type}{x:Option α}{f:α->Option γ}{z:γ}(h:x.bind f=O z): ∃a,x=O a/\f a=O z:=by
 cases x with
 |none=>cases h
 |some a=>exact⟨a,rfl,h⟩
theorem ah5 (E:Rel c)(F:ba c e ea){r es:Nat}{agg:Bool}{cs:List VV}(M:ev e x= .agg cs)(N:ev e z= .int kd i)
  (h:((ix i r).bind λj=>cond agg (k (.agg (E7 cs (j*es) es)) c.S) (gd (Nat.beq es 1&&Nat.beq cs.length r) (Vm cs j c.S k)))=O y):cc T (.indexV r es agg x z) ea c.Z (ng c d k y):=by
 have H:=cd F x;have I:=cd F z;rw[M]at H;rw[N]at I;obtain⟨s,t,B⟩:=H.agg_inv;have A:=I.int_inv;obtain⟨j,J,o⟩:=ah h;obtain⟨C,D,rfl,P⟩:=Jg J;cases agg with
 |true=>
  refine ck (v:= .agg (s.extract (i.toNat*es) (i.toNat*es+es))) (by simp only[AOp.run,t,A];rw[zE ⟨C,D⟩];rfl) (ng.same E (.agg ?_) o);have:=(B.drop (i.toNat*es)).take es;simpa[E7,Array.toList_extract,bD]using this
 |false=>
  rw[zD]at o;obtain⟨q,K⟩:=aw o;rw[aD]at q;have L:=cB q.1;have Q:=cB q.2;subst L;obtain⟨w,f,g⟩:=Vn (by omega) K;obtain⟨u,l,m⟩:=B.get _ _ f;have n:s[i.toNat*1]?=O u:=by rw[Nat.mul_one];simpa using l
  exact ck (by simp only[AOp.run,t,A,n];rw[zE ⟨C,D⟩];rfl) (ng.same E m g)
theorem ah4 (C:Rel c)(j:ba c e ea){l:Zd}(D:ev e x= .str l)(E:ev e z= .int kd i)(h:((rd l i).bind λb=>k (.int .u8 b) c.S)=O y):cc T (.indexS x z) ea c.Z (ng c d k y):=by
 have m:=cd j x;have n:=cd j z;rw[D]at m;rw[E]at n;obtain⟨s,o,rfl⟩:=m.str_inv;have q:=n.int_inv;obtain⟨b,r,t⟩:=ah h;obtain⟨w,A,f⟩:=ab7 r;simp only[nF,List.getElem?_map]at f;cases g:s.data.toList[i.toNat]? with
 |none=>rw[g]at f;cases f
 |some u=>
  rw[g,aB]at f;injection f with f
  subst f
  have B:s[i.toNat]?=O u:=by
   have:i.toNat<s.size:=by rw[DV]at A;omega
   rw[getElem?_pos s i.toNat this];rw[<-g,Array.getElem?_toList,getElem?_pos s.data i.toNat this];rfl
  exact ck (v:= .int .u8 u.toNat) (by simp only[AOp.run,o,q,B];rw[zE w];rfl) (ng.same C (.int _ _) t)
theorem aK0 (m:Rel c)(g:ba c e ea){f:IntKind}{a:Int}(n:ev e x= .int kd a)(o:ev e z= .int f b)(h:k (.int kd (max a b)) c.S=O y):cc T (.most x z) ea c.Z (ng c d k y):=by
 have j:=cd g x;have l:=cd g z;rw[n]at j;rw[o]at l;refine ck (v:= .int kd (max a b)) ?_ (ng.same m (.int _ _) h);simp only[AOp.run,j.int_inv,l.int_inv,YF,aB]
 congr 3
 split<;>omega
theorem au2 (m:Rel c)(g:ba c e ea){f:IntKind}{a:Int}(n:ev e x= .int kd a)(o:ev e z= .int f b)(h:k (.int kd (min a b)) c.S=O y):cc T (.least x z) ea c.Z (ng c d k y):=by
 have j:=cd g x;have l:=cd g z;rw[n]at j;rw[o]at l;refine ck (v:= .int kd (min a b)) ?_ (ng.same m (.int _ _) h);simp only[AOp.run,j.int_inv,l.int_inv,UM,aB]
 congr 3
 split<;>omega
end
end
section
open Bool renaming and_eq_true -> bB
open List renaming length_append -> iA
open Nat renaming eq_of_beq_eq_true -> aB, mul_le_mul_right -> aD, add_mul -> bD, le_refl -> cB, le_of_ble_eq_true -> cD, beq -> dB, le_trans -> dD, add_assoc -> eD, eq_of_mul_eq_mul_right -> fB, mul_div_cancel -> fD, zero_add -> gB
open Option renaming map_some -> gD, map_none -> iB
section
variable {β:Type} {T:mE} {c:Ctx} {e:dk} {ea:cm} {k:VV->ak->Option β} {y:β} {d:List Nat}
theorem KH.len {q g n:Nat}{dm:Nat×Nat}(h:KH c q g n dm a): ∃p f,a= .slice p n f/\n<=f:=by
 rcases h with⟨rfl,_,rfl,_,_⟩|⟨b,f,x,rfl,_,_,h,_⟩
 .exact⟨Y,0,rfl,cB _⟩
 .exact⟨_,f,rfl,h⟩
theorem au4 (D:Rel c){v:VV}{n:Nat}(h:lenOf c.S v=O n)(r:VRel c v a)(H: ∀l,v≠ .str l): ∃p A,a= .slice p n A/\n<=A:=by
 cases v<;>simp only[lenOf]at h<;>try(cases h;done)
 case nils=>injection h with h;subst h;cases r;exact⟨Y,0,rfl,cB _⟩
 case str l=>exact(H l rfl).elim
 case lst s l=>
  injection h with h;subst h
  cases r with
  |lstn=>exact⟨_,0,rfl,cB _⟩
  |lst _ _ _ f j _ _=>subst f;exact⟨_,_,rfl,j⟩
 case part q lo m=>
  cases u:(ae c.S q).live with
  |false=>rw[u]at h;cases h
  |true=>
   rw[u]at h;injection h with h;subst h
   obtain⟨C,E⟩:=yt u;cases r with
   |part F _ o=>exact(o C E).len
 case full q=>
  cases r with
  |full F _ o=>
   cases g:ae c.S q with
   |dead=>rw[g]at h;cases h
   |arr s z l=>
    rw[g]at h;injection h with h;subst h
    obtain⟨n,f,j⟩:=o (s.w,l.length*s.w) (by rw[g];rfl);have:n=l.length:=fB (qU s) f;subst this;exact j.len
   |cells t z l=>
    rw[g]at h;injection h with h;subst h
    obtain⟨n,f,j⟩:=o (t,l.length) (by rw[g];rfl);have B:=(D.blk q (t,l.length) (by rw[g];rfl)).1
    have:n=l.length / t:=by
     simp only at f B;rw[<-f,fD _ B]
    subst this;exact j.len
theorem bb5 (f:Rel c)(j:ba c e ea){n:Nat}(o: ∀l,ev e x≠ .str l)(m:lenOf c.S (ev e x)=O n)(h:k (.int .i64 n) c.S=O y):cc T (.len x) ea c.Z (ng c d k y):=by
 obtain⟨p,q,g,_⟩:=au4 f m (cd j x) o;exact ck (by simp only[AOp.run,g]) (ng.same f (.int _ _) h)
theorem Pj (l:ba c e ea){f:Option Operand}{a:Int}{m:Nat}(h:Iv (f.map (ev e))=O a)(g:0<=a)(n:a<=m):tj m 0 (f.map ea.ev)=O a.toNat:=by
 cases f with
 |none=>
  simp only[iB,Iv]at h;injection h with h;subst h
  rfl
 |some x=>
  simp only[gD,Iv]at h⊢;obtain⟨kd,j⟩:=PH h (cd l x);rw[j];exact zE ⟨g,n⟩
theorem Pg (m:ba c e ea){f:Option Operand}{n g:Nat}(h:CY n (f.map (ev e))=O b)(j:0<=b)(q:b<=n)(o:n<=g):tj g n (f.map ea.ev)=O b.toNat:=by
 cases f with
 |none=>
  simp only[iB,CY]at h;injection h with h;subst h
  simp[tj]
 |some x=>
  simp only[gD,CY]at h⊢;obtain⟨kd,l⟩:=PH h (cd m x);rw[l];exact zE ⟨j,by omega⟩
theorem zi {a:Int}{n:Nat}(h:gy a b n=Za):0<=a/\a<=b/\b<=n:=by
 unfold gy at h;rw[bB,bB]at h;exact⟨of_decide_eq_true h.1.1,of_decide_eq_true h.1.2,of_decide_eq_true h.2⟩
theorem Jt (o:ba c e ea){es:Nat}{j r:Option Operand}{p:Option Addr}{n f:Nat}{a:Int}(D:ea.ev x= .slice p n f)(B:n<=f)(C:f≠0->∀q,p=O q->∃z,c.Z.m q.block=O z/\z.es=es)
  (h:Iv (j.map (ev e))=O a) (g:CY n (r.map (ev e))=O b) (w:gy a b n=Za):(AOp.slice es x j r).run ea c.Z=O (.slice (p.map (Rw · (a.toNat*es))) (b.toNat-a.toNat) (f-a.toNat),c.Z):=by
 obtain⟨s,E,t⟩:=zi w
 have A:(f==0||EG c.Z es p j)=Za:=by
  by_cases l:f=0
  .simp[l]
  .unfold EG;split
   .simp
   .simp
   .rename_i q;obtain⟨z,u,v⟩:=C l q rfl;rw[u];simp[v]
 simp only[AOp.run,D,A,if_true,Pg o g (by omega) t B,Pj o h s (m:=b.toNat) (by omega)]
theorem KH.cut {q t n:Nat}{dm:Nat×Nat}{p:Option Addr}{f A B:Nat}(h:KH c q t n dm (.slice p n f))(C:A<=B)(D:B<=n):KH c q (t+A) (B-A) dm (.slice (p.map (Rw · (A*dm.1))) (B-A) (f-A)):=by
 rcases h with⟨l,o,r,s,m⟩|⟨b,u,z,l,o,r,s,m,w⟩
 .injection l with g v j
  subst g;subst j;have:A=0:=by omega
  have:B=0:=by omega
  subst A;subst B;exact .inl ⟨rfl,by omega,rfl,s,m⟩
 .injection l with g v j
  subst g;subst j;refine .inr ⟨b,f-A,z, ?_,o,dD (aD _ (by omega)) r,by omega,m,dD (aD _ (by omega)) w⟩;simp only[gD,Rw,bD]
theorem KH.es (t:Rel c){q w n j:Nat}{dm:Nat×Nat}{p:Option Addr}(u:(ae c.S q).dim=O dm)(h:KH c q w n dm (.slice p n j)): ∀z,p=O z->∃blk,c.Z.m z.block=O blk/\blk.es=dm.1:=by
 intro z v;subst v;rcases h with⟨g,_⟩|⟨b,l,x,g,o,_,_,C,_⟩
 .cases g
 .injection g with f A B
  injection f with f
  subst f;obtain⟨blk,_,_,r,s,_⟩:=t.block u o;exact⟨blk,r,s⟩
theorem Lz (s:Rel c)(A:ba c e ea){es q o n:Nat}{dm:Nat×Nat}{w u:Option Operand}{a:Int}(j:(ae c.S q).dim=O dm)(l:es=dm.1)(g:KH c q o n dm (ea.ev x))
  (r:Iv (w.map (ev e))=O a) (m:CY n (u.map (ev e))=O b) (t:gy a b n=Za) (h:k (.part q (o+a.toNat) (b.toNat-a.toNat)) c.S=O y):cc T (.slice es x w u) ea c.Z (ng c d k y):=by
 obtain⟨p,C,v,B⟩:=g.len;rw[v]at g;obtain⟨E,F,H⟩:=zi t;subst l;refine ck (Jt A v B (λ_=>g.es s j) r m t) (ng.same s ?_ h);refine .part (qu (by rw[j];simp)) rfl λD f=> ?_
 rw[j]at f;injection f with f
 subst f;exact g.cut (by omega) (by omega)
theorem tdt {α:Type}(L:List α){A B N p:Nat}(h:B<=N):((((L.drop p).take N).take B).drop A)=(L.drop (p+A)).take (B-A):=by
 rw[List.take_take,Nat.min_eq_left h,List.drop_take,List.drop_drop]
theorem aA5 (H:Rel c)(D:ba c e ea){es:Nat}{X V:Option Operand}(h:Yx c.S es (ev e x) (X.map (ev e)) (V.map (ev e)) k=O y):cc T (.slice es x X V) ea c.Z (ng c d k y):=by
 have B:=cd D x;unfold Yx at h;cases f:lenOf c.S (ev e x)with
 |none=>rw[f]at h;cases h
 |some n=>
  rw[f]at h;simp only at h;cases g:Iv (X.map (ev e))with
  |none=>rw[g]at h;cases h
  |some a=>
   cases j:CY n (V.map (ev e))with
   |none=>rw[g,j]at h;cases h
   |some b=>
    rw[g,j]at h;simp only at h;split at h
    .rename_i I;rw[I]at B f;obtain⟨t,u⟩:=aw h
     have hn0:n=0:=by
      simp only[lenOf]at f;injection f with f
      exact f.symm
     subst hn0;obtain⟨v,A,F⟩:=zi t;have ha0:a=0:=by omega
     have hb0:b=0:=by omega
     subst a;subst b;have hxe:ea.ev x= .slice Y 0 0:=by generalize ea.ev x=xa at B;cases B;rfl
     exact ck (Jt D hxe (cB _) (λ_ q h=>by cases h) g j t) (ng.same H .nils u)
    .rename_i s l I;rw[I]at B f;simp only[lenOf]at f;injection f with f
     subst f;obtain⟨t,u⟩:=aw h;have M:=aB t
     have U:gy a b l.length=Za->k (.lst s (Il l a b)) c.S=O y->cc T (.slice es x X V) ea c.Z (ng c d k y):=by
      intro N W;obtain⟨v,A,F⟩:=zi N;generalize Q:ea.ev x=xa at B;cases B with
      |lstn hq=>
       have hb0:b=0:=by simp at F;omega
       have ha0:a=0:=by omega
       subst a;subst b;refine ck (Jt D Q (cB _) (λh=>(h rfl).elim) g j N) (ng.same H ?_ W);refine .lstn λz hz=> ?_
       obtain⟨z',_,h'⟩:=Option.map_eq_some_iff.1 hz;rw[<-h'];rfl
      |lst hn hy L C h7 h8 h9=>
       rename_i bb p cp z;refine ck (Jt D Q h7 (λ_ q h=>by injection h with h;subst h;exact⟨z,hy,L.trans M.symm⟩) g (by rw[C];exact j) (by rw[C];exact N)) (ng.same H ?_ W);subst M;have P:(Il l a b).length=b.toNat-a.toNat:=by simp only[Il,List.length_drop,List.length_take];omega
       refine .lst hn hy L P.symm (by omega) ?_ ?_
       .have:a.toNat*s.w+(b.toNat-a.toNat)*s.w<=l.length*s.w:=by rw[<-bD];exact aD _ (by omega)
        simp only;rw[C]at h8;omega
       .simp only[Il];rw[CW,oG];have J:=(h9.take (b.toNat*s.w)).drop (a.toNat*s.w);rw[tdt _ (by rw[C];exact aD _ (by omega)),<-Nat.sub_mul]at J;exact J
     split at u
     .rename_i e1 e2
      have N:gy a b l.length=Za:=by
       rw[e1]at g;rw[e2]at j;simp only[Iv]at g;simp only[CY]at j;injection g with g
       injection j with j
       subst g;subst j;simp[gy]
      refine U N ?_;rw[e1]at g;rw[e2]at j;simp only[Iv]at g;simp only[CY]at j;injection g with g
      injection j with j
      subst g;subst j;simp only[Il,Int.toNat_natCast,Int.toNat_zero,List.drop_zero,List.take_length];exact u
     .obtain⟨v,A⟩:=aw u;exact U v A
    .rename_i q I;rw[I]at B f;cases B with
     |full W _ K=>
      cases r:ae c.S q with
      |dead=>rw[r]at h;cases h
      |arr s z l=>
       rw[r]at h;obtain⟨t,u⟩:=aw h;obtain⟨v,A⟩:=aw u;simp only[lenOf,r]at f;injection f with f
       obtain⟨n',F,C⟩:=K (s.w,l.length*s.w) (by rw[r];rfl);have:n'=n:=by rw[<-f];exact fB (qU s) F
       subst this;exact Lz H D (by rw[r];rfl) (aB t) C g j v (by rw[gB];exact A)
      |cells E z l=>
       rw[r]at h;obtain⟨t,u⟩:=aw h;obtain⟨v,A⟩:=aw u;rw[bB]at t;simp only[lenOf,r]at f;injection f with f
       obtain⟨n',F,C⟩:=K (E,l.length) (by rw[r];rfl);have he1:=aB t.1;have he2:=cD t.2
       have:n'=n:=by
        simp only at F;rw[<-f,<-F,fD _ (by omega)]
       subst this;exact Lz H D (by rw[r];rfl) he1 C g j v (by rw[gB];exact A)
    .rename_i q o m I;rw[I]at B f;cases B with
     |part W _ K=>
      simp only[lenOf]at f;cases r:ae c.S q with
      |dead=>rw[r]at h;cases h
      |arr s z l=>
       rw[r]at h f;injection f with f
       subst f;obtain⟨t,u⟩:=aw h;obtain⟨v,A⟩:=aw u;exact Lz H D (dm:=(s.w,l.length*s.w)) (by rw[r];rfl) (aB t) (K _ (by rw[r];rfl)) g j v A
      |cells E z l=>
       rw[r]at h f;injection f with f
       subst f;obtain⟨t,u⟩:=aw h;obtain⟨v,A⟩:=aw u;rw[bB]at t;exact Lz H D (dm:=(E,l.length)) (by rw[r];rfl) (aB t.1) (K _ (by rw[r];rfl)) g j v A
    .cases h
theorem Re {dm:Nat×Nat}(h:blk.dim=O dm):blk.vals.length=dm.2:=by
 cases blk with
 |dead=>cases h
 |cells f z l=>injection h with h;subst h;rfl
 |arr s z l=>injection h with h;subst h;exact jh
theorem WP (W:Rel c)(P:ba c e ea){es n:Nat}{lo hi:Option Operand}(h:MU c.S es n (ev e x) (lo.map (ev e)) (hi.map (ev e)) k=O y):cc T (.sliceArr es n x lo hi) ea c.Z (ng c d k y):=by
 have hx:=cd P x;unfold MU at h;split at h
 .rename_i q o hv;rw[hv]at hx;split at h
  .rename_i es' l N;split at h
   .rename_i a b I H;obtain⟨L,h2⟩:=aw h;simp only[bB]at L;obtain⟨⟨⟨⟨⟨E,h4⟩,F⟩,J⟩,h7⟩,M⟩:=L;have E:=aB E;have h4:=cD h4;have F:=aB F;have J:=cD J;have M:=of_decide_eq_true M;obtain⟨h9,X,B⟩:=zi h7;subst E;cases hx with
    |ptr hk _ hd=>
     have f:(ae c.S q).dim=O (es,l.length):=by rw[N];rfl
     obtain⟨K,U,hp⟩:=hd _ f;obtain⟨z,cs,V,j,C,r,D,A⟩:=W.block f U;rw[N]at r A;have Q:=A.length;simp only[Blk.vals]at Q;have hzl:l.length<=z.cells.length:=by rw[D,iA,Q];omega
     have u:o / es*es=o:=Nat.div_mul_cancel (Nat.dvd_of_mod_eq_zero F);have hae:(o / es+a.toNat)*es=o+a.toNat*es:=by rw[bD,u]
     refine ck (v:= .slice (O ⟨K,o+a.toNat*es,Y⟩) (b.toNat-a.toNat) (n-a.toNat)) (Z':=c.Z) ?_ (ng.same W ?_ h2)
     .simp only[AOp.run,hp,j];rw[zE ⟨r rfl,C,by omega⟩,Pg P H (by omega) B (cB _)];simp only;rw[Pj P I h9 (m:=b.toNat) (by omega)];simp only;rw[Zg]
     .refine .part hk rfl λd' g=> ?_
      rw[f]at g;injection g with g
      subst g;refine .inr ⟨K,n-a.toNat,z,by simp only[hae],U, ?_,by omega,j, ?_⟩
      .have t:o / es+a.toNat+(b.toNat-a.toNat)=o / es+b.toNat:=by omega
       simp only;rw[t,bD,u];have:b.toNat*es<=n*es:=aD _ (by omega);omega
      .have t:o / es+a.toNat+(n-a.toNat)=o / es+n:=by omega
       simp only;rw[t,bD,u];omega
   .cases h
  .rename_i s l N;split at h
   .rename_i a b I H;obtain⟨L,h2⟩:=aw h;simp only[bB]at L;obtain⟨⟨⟨⟨E,F⟩,J⟩,h7⟩,M⟩:=L;have E:=aB E;have F:=aB F;have J:=cD J;have M:=of_decide_eq_true M;obtain⟨h9,X,B⟩:=zi h7;subst E;subst F;cases hx with
    |ptr hk _ hd=>
     have f:(ae c.S q).dim=O (s.w,l.length*s.w):=by rw[N];rfl
     obtain⟨K,U,hp⟩:=hd _ f;obtain⟨z,cs,V,j,C,r,D,A⟩:=W.block f U;have Q:=A.length;rw[Re f]at Q;rw[N]at r;have hle:n*s.w<=l.length*s.w:=aD _ J;have hzl:l.length*s.w<=z.cells.length:=by rw[D,iA];simp only at Q;omega
     have t:(a.toNat+(b.toNat-a.toNat))*s.w<=l.length*s.w:=aD _ (by omega);have h18:(a.toNat+(n-a.toNat))*s.w<=l.length*s.w:=aD _ (by omega);refine ck (v:= .slice (O ⟨K,0+a.toNat*s.w,Y⟩) (b.toNat-a.toNat) (n-a.toNat)) (Z':=c.Z) ?_ (ng.same W ?_ h2)
     .simp only[AOp.run,hp,j];rw[zE ⟨r rfl,C,by omega⟩,Pg P H (by omega) B (cB _)];simp only;rw[Pj P I h9 (m:=b.toNat) (by omega)];simp only;rw[Zg]
     .refine .part hk rfl λd' g=> ?_
      rw[f]at g;injection g with g
      subst g;exact .inr ⟨K,n-a.toNat,z,by simp only[gB],U,t,by omega,j,by simp only;omega⟩
   .cases h
  .cases h
 .cases h
theorem bc1 (H:Rel c)(I:ba c e ea){n:Nat}(h:ai9 c.S (bc0 c.S n (ev e x)) k=O y):cc T (.off n x) ea c.Z (ng c d k y):=by
 have C:=cd I x
 have l: ∀w b o,ea.ev x= .pointer (O ⟨b,o,Y⟩)->VRel c w (.pointer (O ⟨b,o+n,Y⟩))->k w c.S=O y->cc T (.off n x) ea c.Z (ng c d k y):=by
  intro w b o F L r;exact ck (by simp only[AOp.run,F]) (ng.same H L r)
 generalize ev e x=N at*;cases N<;>simp only[bc0]at h<;>try(cases h;done)
 case ptr q o=>
  cases g:(ae c.S q).live with
  |false=>rw[g]at h;cases h
  |true=>
   rw[g]at h;obtain⟨t,f⟩:=yt g;cases C with
   |ptr r _ u=>
    obtain⟨b,v,B⟩:=u t f;exact l _ b o B (.ptr r rfl λE _=>⟨b,v,rfl⟩) h
 case pix q o m i=>
  cases g:(ae c.S q).live with
  |false=>rw[g]at h;cases h
  |true=>
   rw[g]at h;obtain⟨t,f⟩:=yt g;cases C with
   |pix r F K u=>
    obtain⟨b,v,B⟩:=u t f;cases A:dB n 0 with
    |false=>rw[A]at h;cases h
    |true=>
     rw[A]at h;have:=aB A;subst this;exact l _ b (o+i) B (.pix r rfl K λE _=>⟨b,v,rfl⟩) h
 case pel q i o=>
  cases g:(ae c.S q).live with
  |false=>rw[g]at h;cases h
  |true=>
   rw[g]at h;obtain⟨t,f⟩:=yt g;cases C with
   |pel r _ u=>
    obtain⟨b,v,B⟩:=u t f;refine l _ b _ B (.pel r rfl λE j=>⟨b,v, ?_⟩) h;rw[f]at j;injection j with j
    subst j;rw[eD]
 case pin s z o=>
  generalize D:ea.ev x=P at C;cases C with
  |pin A M g J=>
   refine l _ _ _ D ?_ h;rw[eD];exact .pin A M g J
theorem Y7 {es:Nat}{i:Operand}{b o n f:Nat}{z:Int}(l:ea.ev x= .slice (O ⟨b,o,Y⟩) n f)(h:ea.ev i= .int kd z)(g:0<=z)(j:z<n):
  (AOp.idx es x i).run ea c.Z=O (.pointer (O ⟨b,o+z.toNat*es,Y⟩),c.Z):=by
 simp only[AOp.run,l,h];rw[zE ⟨g,j⟩]
theorem Fe (j:Rel c)(A:ba c e ea){es q o n:Nat}{dm:Nat×Nat}{i:Operand}{z:Int}{w:VV}(s:KH c q o n dm (ea.ev x))(l:ea.ev i= .int kd z)(f:0<=z)(r:z<n)
  (t: ∀b,c.μ q=O b->VRel c w (.pointer (O ⟨b,o*dm.1+z.toNat*es,Y⟩))) (m:k w c.S=O y):cc T (.idx es x i) ea c.Z (ng c d k y):=by
 rcases s with⟨_,_,v,_,_⟩|⟨b,u,B,g,h,_⟩
 .omega
 .exact ck (Y7 g l f r) (ng.same j (t b h) m)
theorem bb0 (K:Rel c)(J:ba c e ea){es:Nat}{i:Operand}(h:ba9 c.S es (ev e x) (ev e i) k=O y):cc T (.idx es x i) ea c.Z (ng c d k y):=by
 have M:=cd J x;have D:=cd J i;unfold ba9 at h;split at h
 .rename_i kd z hz;rw[hz]at D;have D:=D.int_inv;split at h
  .rename_i s l X;rw[X]at M;obtain⟨t,E⟩:=aw h;have t:=aB t;obtain⟨el,F,r⟩:=ah E;obtain⟨A,u,H⟩:=ab7 F;generalize hxa:ea.ev x=xa at M;cases M with
   |lstn=>simp at u;omega
   |lst hn hy he' I W Q v=>
    rename_i b p cp blk;subst t;refine ck (Y7 hxa D A (by rw[I];exact u)) (ng.same K ?_ r);have U:z.toNat*s.w+s.w<=l.length*s.w:=by rw[<-Nat.succ_mul];exact aD _ (by omega)
    have V:=(v.drop (z.toNat*s.w)).take s.w;rw[Mt H,List.drop_take,List.drop_drop,List.take_take,Nat.min_eq_left (by rw[I];omega)]at V;exact VRel.pin (o:=0) hn hy (by rw[I]at Q;exact dD (Nat.le_of_eq (eD _ _ _)) (dD (Nat.add_le_add_left U _) Q)) V
  .rename_i q X;rw[X]at M;cases M with
   |full L _ N=>
    cases B:ae c.S q with
    |dead=>rw[B]at h;cases h
    |arr s z' l=>
     rw[B]at h;obtain⟨t,E⟩:=aw h;obtain⟨j,F,r⟩:=ah E;obtain⟨A,u,rfl,H⟩:=Jg F;have f:(ae c.S q).dim=O (s.w,l.length*s.w):=by rw[B];rfl
     obtain⟨n,I,W⟩:=N _ f;have:n=l.length:=fB (qU s) I;subst this;refine Fe K J W D A u (λb C=> .pel L rfl λP g=>⟨b,C, ?_⟩) r;rw[f]at g;injection g with g
     subst g;rw[aB t];simp
    |cells es' z' l=>
     rw[B]at h;obtain⟨t,E⟩:=aw h;rw[bB]at t;have v:=aB t.1;have U:=cD t.2;subst v;obtain⟨j,F,r⟩:=ah E;obtain⟨A,u,rfl,H⟩:=Jg F;have f:(ae c.S q).dim=O (es,l.length):=by rw[B];rfl
     obtain⟨n,I,W⟩:=N _ f
     have hn:n=l.length / es:=by
      simp only at I;rw[<-I,fD _ (by omega)]
     cases m:dB es 1 with
     |true=>
      rw[m]at r;have m:=aB m;subst m;refine Fe K J W D A (by rw[hn];exact u) (λb C=> .pix L rfl (by rw[Nat.div_one]at H;exact H) λP g=>⟨b,C,by simp⟩) r
     |false=>
      rw[m]at r;refine Fe K J W D A (by rw[hn];exact u) (λb C=> .ptr L rfl λP g=>⟨b,C,by simp⟩) r
  .rename_i q o n X;rw[X]at M;cases M with
   |part L _ N=>
    cases B:ae c.S q with
    |dead=>rw[B]at h;cases h
    |arr s z' l=>
     rw[B]at h;obtain⟨t,E⟩:=aw h;obtain⟨j,F,r⟩:=ah E;obtain⟨A,u,rfl,H⟩:=Jg F;have f:(ae c.S q).dim=O (s.w,l.length*s.w):=by rw[B];rfl
     refine Fe K J (N _ f) D A u (λb C=> .pel L rfl λP g=>⟨b,C, ?_⟩) r;rw[f]at g;injection g with g
     subst g;rw[aB t,bD];simp
    |cells es' z' l=>
     rw[B]at h;obtain⟨t,E⟩:=aw h;rw[bB]at t;have v:=aB t.1;subst v;obtain⟨j,F,r⟩:=ah E;obtain⟨A,u,rfl,H⟩:=Jg F;have f:(ae c.S q).dim=O (es,l.length):=by rw[B];rfl
     cases m:dB es 1 with
     |true=>
      rw[m]at r;have m:=aB m;subst m;refine Fe K J (N _ f) D A u (λb C=> .pix L rfl H λP g=>⟨b,C,by simp⟩) r
     |false=>
      rw[m]at r;refine Fe K J (N _ f) D A u (λb C=> .ptr L rfl λP g=>⟨b,C,by simp[bD]⟩) r
  .cases h
 .cases h
theorem aJ0 (t:Rel c)(u:ba c e ea){s es:Nat}{i:Operand}(h:at5 c.S s es (ev e x) (ev e i) k=O y):cc T (.idxA s es x i) ea c.Z (ng c d k y):=by
 have A:=cd u x;have m:=cd u i;unfold at5 at h;split at h
 .rename_i q o kd z L M;rw[L]at A;rw[M]at m;have m:=m.int_inv;obtain⟨J,h⟩:=aw h;obtain⟨j,D,l⟩:=ah h;obtain⟨E,F,rfl,H⟩:=Jg D;cases A with
  |ptr v _ I=>
    obtain⟨C,r⟩:=yt J;obtain⟨b,w,K⟩:=I C r
    have g:(AOp.idxA s es x i).run ea c.Z=O (.pointer (O ⟨b,o+z.toNat*es,Y⟩),c.Z):=by
     simp only[AOp.run,K,m];rw[zE ⟨E,F⟩]
    refine ck g ?_;cases f:dB es 1 with
    |true=>
     rw[f]at l;have f:=aB f;subst f;exact ng.same t (.pix v rfl H λB n=>⟨b,w,by simp⟩) l
    |false=>
     rw[f]at l;exact ng.same t (.ptr v rfl λB n=>⟨b,w,rfl⟩) l
 .cases h
end
end
end Go.V
