/- A part of the proof. No condition. -/
import Derived.Test.YtgnojcajllcmoaaGreatDoorA3
set_option linter.all false
namespace Go.V
open Go.Ab
open Option renaming some->O,none->Y
open Bool renaming true->Za,false->Zb
open Decidable renaming decide->Zc
open List renaming length_eq_zero_iff->dy
open List renaming mem_append->cI
open List renaming mem_cons->aw
open List renaming length->hW
open Option.some renaming injEq->hO
open Prod.mk renaming injEq->hU
variable {st st' stf:DSt}{N i j k:Nat}{a:Value}{x z:Operand}{c c' ct:Ctx}{s:Sh}{fx l mov:List Nat}{sk:rN}{vals vs:List VV}{as:List Value}{bs fs:List Blk}{op:AOp}{o:OSk}{b blk:Blk}{Z:Hp}{m:List<|Option Src}{S':ak}
section
open Bool renaming and_eq_true->bB
open List renaming length_append->cB,length_take->cK,replicate->cO,take_of_length_le->cP,length_drop->cS,length_nil->cT,replicate_succ->cU,append_assoc->cV,drop_zero->cW,flatten_cons->cX,drop_eq_nil_of_le->dC,getD_eq_getElem?_getD->dD,take_append_of_le_length->dE
open Nat renaming beq->aB,eq_of_beq_eq_true->aD,le_refl->bD,le_of_ble_eq_true->cD,add_mul->cL,eq_of_mul_eq_mul_right->cM,zero_add->cN,ble->cQ,mul_le_mul_right->cR,eq_zero_or_pos->cY,mul_one->cZ,mul_pos->dA,zero_mul->dB,le_of_mul_le_mul_right->dF,mul_div_cancel->dG,mul_le_mul_left->dH
open Option renaming getD_some->dI
section
variable {β:Type} {T:i7} {c:Ctx} {e:db} {ea:cy} {k:VV->ak->Option β} {y:β} {d:List Nat}
def DB : ∀{z:List Value} {s:Sh},Mg z=O s->F2 (VRel c) (eX s<|vM s) z
 |[],s,h=>by simp[Mg]at h
 |v::r,s,h=>by
  unfold Mg at h;split at h
  .rename_i f;injection f with g n
   subst g;subst n;cases h
   exact .cons (.int _ _) .nil
  .rename_i f;injection f with g n
   subst g;subst n;cases h
   exact .cons (.bool _) .nil
  .rename_i f;injection f with g n
   subst g;subst n;have⟨t,q,p⟩:=ai h;cases p
   exact .cons (.int _ _) (DB q)
  .rename_i f;injection f with g n
   subst g;subst n;have⟨t,q,p⟩:=ai h;cases p
   exact .cons (.bool _) (DB q)
  .cases h
def tg {s:Sh}{x:El s}: ∀n,gf s (cO n x)=(cO n<|eX s x).flatten
 |0=>rfl
 |n+1=>by rw[cU,gN,tg n,cU,cX]
def RN (z:List Value)(m n:Nat):fh z (m+n)=fh z m++fh z n:=by
 simp only[fh];rw[<-List.replicate_append_replicate,List.flatten_append]
def RO (z:List Value)(n:Nat):hW (fh z n)=n*hW z:=by
 simp[fh,List.length_flatten,List.map_replicate]
theorem aR3 (g:Rel c)(H:ba c e ea){es bytes:Nat}{z:List Value}{l m:Operand}(h:aC1 c.S es bytes z (ev e l) (ev e m) k=O y):cj T (.makeSlice es bytes z l m) ea c.Z<|jd c d k y:=by
 have J:=cm H l;have K:=cm H m;unfold aC1 at h;split at h
 .rename_i X a k2 b s P Q V;rw[P]at J;rw[Q]at K;obtain⟨I,U⟩:=az h;simp only[bB]at I;obtain⟨⟨⟨⟨t,B⟩,C⟩,D⟩,E⟩:=I;have t:=aD t;have B:=of_decide_eq_true B;have C:=of_decide_eq_true C;have D:=of_decide_eq_true D;have E:=cD E;have L:=DB (c:=c) V;have A:z.length=s.w:=by rw[<-L.length,fi]
  have F:b<=bytes*b:=by
   have:(1:Int)*b<=bytes*b:=Int.mul_le_mul_of_nonneg_right V1 V1;omega
  refine cz (v:= .slice (O ⟨c.Z.n,0,Y⟩) a.toNat b.toNat) (Z':=c.Z.add ⟨fh z b.toNat,Za,es⟩) ?_ ?_
  .simp only[AOp.run,J.int_inv,K.int_inv]
   grind
  have p:fh z b.toNat=fh z a.toNat++fh z (b.toNat-a.toNat):=by rw[<-RN];congr 1;omega
  have r:F2 (VRel c) (gf s<|cO a.toNat<|vM s)<|fh z a.toNat:=by
   rw[tg];clear p;generalize a.toNat=n;induction n with
   |zero=>exact .nil
   |succ n M=>
    simp only[fh,cU,cX]at M⊢;exact L.append M
  have u:Moves c Y (O c.Z.n) (.arr s Zb<|cO a.toNat<|vM s)<|c.Z.add ⟨fh z b.toNat,Za,es⟩:=by
   refine⟨(λb h _ F=>by injection h with h;subst h;exact Nat.lt_irrefl _<|g.fbl _ F),(λ_ h=>by cases h),λq x f=> ?_,Nat.le_succ _,λi x f _=> ?_,(s.w,(cO a.toNat<|vM s).length*s.w),rfl,nV s, .inr ⟨c.Z.n,⟨fh z b.toNat,Za,es⟩,fh z a.toNat,fh z<|b.toNat-a.toNat,rfl,zE rfl,t,λ_=>rfl,p,r, .inl λw W=> ?_⟩⟩
   .simp only[Hp.add]at f⊢;split at f
    .omega
    have:=g.ok q x f;omega
   .have:=g.ok i x f;simp only[Hp.add];rw[Zh];exact f
   have:=g.ok _ _ W;omega
  refine jd.new (kill:=Y) g u (λ_ h=>by cases h) (Bo (dm:=(s.w,(cO a.toNat<|vM s).length*s.w)) (n:=a.toNat) (m:=b.toNat) (yb:=⟨fh z b.toNat,Za,es⟩) rfl V2 V1 (zE rfl) ?_) U;rw[RO,A];exact bD _
 cases h
def More.cellsOf :More->List VV
 | .cells l=>l
 | .lst s l=>gf s l
theorem Pe {x:Ab.Blk}{o n m:Nat}(h:o+n<=hW x.cells)(f:m<=n):rQ x o m=O (((x.cells.drop o).take n).take m):=by
 unfold rQ
 grind
def Hy (F:Rel c){q o n es:Nat}{dm:Nat×Nat}(f:(ag c.S q).dim=O dm)(H:dm.1=es)(I:IU c q o n dm a):
  ∃g,GA a=O n/\(∀m,m<=n->c.Z.slice es a m=O (g.take<|m*es))/\g.length=n*es/\F2 (VRel c) (((ag c.S q).vals.drop<|o*es).take<|n*es) g:=by
 subst H;rcases I with⟨rfl,rfl,rfl,A,Q⟩|⟨b,K,x,rfl,A,D,L,B,M⟩
 .refine⟨[],rfl,λm h=> ?_,V2,by simp;exact .nil⟩;have:m=0:=by omega
  subst this;simp[Hp.slice]
 .obtain⟨U,t,C,r,_,_,v,w⟩:=F.block f A;rw[B]at r;injection r with r
  subst r;have P:=w.length
  have J:(ag c.S q).vals.length=dm.2:=by
   generalize ag c.S q=blk at f;cases blk with
   |dead=>cases f
   |cells es z l=>injection f with f;subst f;rfl
   |arr s z l=>injection f with f;subst f;exact gS
  rw[cL]at D;have E:((t.drop<|o*dm.1).take<|n*dm.1).length=n*dm.1:=by rw[cK,cS];omega
  refine⟨(t.drop<|o*dm.1).take<|n*dm.1,rfl,λm h=> ?_,E,(w.drop _).take _⟩;have u:m*dm.1<=n*dm.1:=cR _ h;by_cases p:m=0
  .subst p;simp[Hp.slice]
  simp only[Hp.slice,B,zF p];rw[Pe (n:=n*dm.1) (by rw[v,cB];omega) u,v,List.drop_append_of_le_length V1,dE (l₁:=t.drop<|o*dm.1) (by rw[cS];omega)]
theorem At (P:Rel c){es:Nat}{v:VV}{m:More}(h:qf c.S es v=O m)(M:VRel c v a):
  ∃n r,GA a=O n/\(∀i,i<=n->c.Z.slice es a i=O (r.take<|i*es))/\r.length=n*es/\F2 (VRel c) m.cellsOf r/\(∀s l,m= .lst s l->es=s.w/\n=l.length):=by
 cases v<;>simp only[qf]at h<;>try(cases h;done)
 case nils=>
  injection h with h;subst h
  cases M;refine⟨0,[],rfl,λi I=> ?_,V2, .nil,λs l h=>by cases h⟩;have:i=0:=by omega
  subst this;simp[Hp.slice]
 case str l=>
  cases g:aB es 1 with
  |false=>rw[g]at h;cases h
  |true=>
   rw[g]at h;have g:=aD g;subst g;injection h with h;subst h
   obtain⟨s,rfl,rfl⟩:=M.str_inv;refine⟨s.size,s.data.toList.map λb=> .int .u8 b.toNat,rfl,λi I=> ?_,V2, ?_,λJ l h=> ?_⟩
   .simp only[Hp.slice,if_true,cZ]
    simp_all
   .simp only[More.cellsOf,fg,gf];generalize s.data.toList=l;induction l with
    |nil=>exact .nil
    |cons b l X=>exact .cons (.int _ _) X
   .injection h with u t
    subst u;cases t;exact⟨rfl,(xX s).symm⟩
 case lst s l=>
  cases g:aB es s.w with
  |false=>rw[g]at h;cases h
  |true=>
   rw[g]at h;have g:=aD g;subst g;injection h with h;subst h
   refine⟨l.length, ?_⟩;rcases M.listAt with⟨qq,rfl,rfl,U⟩|⟨b,p,cp,x,rfl,u,t,E,D,C⟩
   .refine⟨[],rfl,λi I=> ?_,V2, .nil,λJ l h=>by injection h with u t;subst u;cases t;exact⟨rfl,rfl⟩⟩;have:i=0:=by simp at I;exact I
    subst this;cases qq with
    |none=>simp[Hp.slice]
    |some z=>
     have:=U z rfl;obtain⟨zb,zo,zs⟩:=z;simp only at this;subst this;simp[Hp.slice]
   .refine⟨(x.cells.drop p).take<|l.length*s.w,rfl,λi I=> ?_,by rw[<-C.length,gS],C,λJ Q h=>by injection h with u t;subst u;cases t;exact⟨rfl,rfl⟩⟩;by_cases L:i=0
    .subst L;simp[Hp.slice]
    simp only[Hp.slice,u,zF L];exact Pe D (cR _ I)
 case full q=>
  cases M with
  |full W _ K=>
   cases A:ag c.S q with
   |dead=>rw[A]at h;cases h
   |arr s z l=>
    rw[A]at h;cases g:aB es s.w with
    |false=>simp only[g]at h;cases h
    |true=>
     simp only[g]at h;have g:=aD g;subst g;injection h with h;subst h
     have f:(ag c.S q).dim=O (s.w,l.length*s.w):=by rw[A];rfl
     obtain⟨n,u,t⟩:=K _ f;have:n=l.length:=cM (nV s) u;subst this;obtain⟨r,E,D,C,B⟩:=Hy P f rfl t;rw[A,dB,cW,cP (by simp[Blk.vals,gS])]at B;exact⟨_,r,E,D,C,B,λJ Q h=>by injection h with u t;subst u;cases t;exact⟨rfl,rfl⟩⟩
   |cells F z l=>
    rw[A]at h;cases g:(aB es F&&cQ 1 es)with
    |false=>simp only[g]at h;cases h
    |true=>
     simp only[g]at h;rw[bB]at g;have H:=aD g.1;subst H;injection h with h;subst h
     have f:(ag c.S q).dim=O (es,l.length):=by rw[A];rfl
     obtain⟨n,u,t⟩:=K _ f;obtain⟨r,E,D,C,B⟩:=Hy P f rfl t;simp only at u;rw[A,dB,cW,u,cP (by exact bD _)]at B;exact⟨_,r,E,D,C,B,λJ Q h=>by cases h⟩
 case part q o n=>
  cases M with
  |part W _ K=>
   cases A:ag c.S q with
   |dead=>rw[A]at h;cases h
   |arr s z l=>
    rw[A]at h;cases g:aB es s.w with
    |false=>simp only[g]at h;cases h
    |true=>
     simp only[g]at h;have g:=aD g;subst g;injection h with h;subst h
     have f:(ag c.S q).dim=O (s.w,l.length*s.w):=by rw[A];rfl
     have t:=K _ f;obtain⟨r,E,D,C,B⟩:=Hy P f rfl t;rw[A]at B;simp only[Blk.vals]at B;rw[<-Bi,<-li]at B
     have V:n=((l.drop o).take n).length:=by
      have:=B.length;rw[gS,C]at this;exact(cM (nV s) this).symm
     exact⟨_,r,E,D,C,B,λJ Q h=>by injection h with u t;subst u;cases t;exact⟨rfl,V⟩⟩
   |cells F z l=>
    rw[A]at h;cases g:(aB es F&&cQ 1 es)with
    |false=>simp only[g]at h;cases h
    |true=>
     simp only[g]at h;rw[bB]at g;have H:=aD g.1;subst H;injection h with h;subst h
     have f:(ag c.S q).dim=O (es,l.length):=by rw[A];rfl
     have t:=K _ f;obtain⟨r,E,D,C,B⟩:=Hy P f rfl t;rw[A]at B;exact⟨_,r,E,D,C,B,λJ Q h=>by cases h⟩
def Base.cellsOf :Base->List VV
 | .none=>[]
 | .cells _ l=>l
 | .arr s l=>gf s l
structure BaseAt (c:Ctx)(es sl:Nat)(base:Base)(kill:Option Nat)(a:Value):Prop where
 no:kill=Y->a= .slice Y 0 0/\sl=0/\base= .none
 yes: ∀q,kill=O q->∃dm,(ag c.S q).dim=O dm/\dm.1=es/\(ag c.S q).frozen=Zb/\IU c q 0 sl dm a/\base.cellsOf=(ag c.S q).vals.take (sl*es)
 es: ∀e l,base= .cells e l->e=es/\1<=es
def Es {dm:Nat×Nat}(h:blk.dim=O dm):hW blk.vals=dm.2:=by
 cases blk with
 |dead=>cases h
 |cells f z l=>cases h;rfl
 |arr s z l=>cases h;exact gS
def ah6 {es:Nat}{v:VV}{u:Base}{kill:Option Nat}(U:Rel c)(h:CJ c.S es v=O (u,kill))(F:VRel c v a): ∃K,BaseAt c es K u kill a/\hW u.cellsOf=K*es/\(∀s l,u= .arr s l->es=s.w/\K=hW l):=by
 cases v<;>try(cases h;done)
 case nils=>
  simp only[CJ]at h;injection h with h
  injection h with p g
  subst p;subst g;cases F;exact⟨0,⟨λ_=>⟨rfl,rfl,rfl⟩,(λq h=>by cases h),(λe l h=>by cases h)⟩,by simp[Base.cellsOf],λs l h=>by cases h⟩
 case full q=>
  simp only[CJ]at h;cases F with
  |full P _ E=>
   cases t:ag c.S q with
   |dead=>rw[t]at h;cases h
   |arr s z l=>
    rw[t]at h;cases z with
    |true=>cases h
    |false=>
     simp only at h;cases r:aB es s.w with
     |false=>rw[r]at h;cases h
     |true=>
      rw[r]at h;have r:=aD r;subst r;injection h with h
      injection h with p g
      subst p;subst g;have f:(ag c.S q).dim=O (s.w,hW l*s.w):=by rw[t];rfl
      have⟨n,p,g⟩:=E _ f;have:n=hW l:=cM (nV s) p;subst this;refine⟨hW l,⟨(λh=>by cases h),λI h=> ?_,(λe l h=>by cases h)⟩,gS,λJ H h=>by injection h with p g;subst p;cases g;exact⟨rfl,rfl⟩⟩;cases h;refine⟨_,f,rfl,by rw[t];rfl,g, ?_⟩;rw[t];exact(cP (by rw[show(Base.arr s l).cellsOf=gf s l from rfl,gS];exact bD _)).symm
   |cells B z l=>
    rw[t]at h;cases z with
    |true=>cases h
    |false=>
     simp only at h;cases r:(aB es B&&cQ 1 es)with
     |false=>rw[r]at h;cases h
     |true=>
      rw[r]at h;rw[bB]at r;have D:=aD r.1;subst D;injection h with h
      injection h with p g
      subst p;subst g;have f:(ag c.S q).dim=O (es,hW l):=by rw[t];rfl
      have⟨n,p,g⟩:=E _ f;simp only at p;refine⟨n,⟨(λh=>by cases h),λI h=> ?_,λe l h=>by injection h with p g;exact⟨p.symm,cD r.2⟩⟩,p.symm,λJ H h=>by cases h⟩;cases h;refine⟨_,f,rfl,by rw[t];rfl,g, ?_⟩;rw[t,p];exact(cP<|bD _).symm
 case part q L n=>
  cases L with
  |succ L=>cases h
  |zero=>
   simp only[CJ]at h;cases F with
   |part P _ E=>
    cases t:ag c.S q with
    |dead=>rw[t]at h;cases h
    |arr s z l=>
     rw[t]at h;cases z with
     |true=>cases h
     |false=>
      simp only at h;cases r:aB es s.w with
      |false=>rw[r]at h;cases h
      |true=>
       rw[r]at h;have r:=aD r;subst r;injection h with h
       injection h with p g
       subst p;subst g;have f:(ag c.S q).dim=O (s.w,hW l*s.w):=by rw[t];rfl
       have g:=E _ f
       have Q:n<=hW l:=by
        rcases g with⟨_,_,C,_,_⟩|⟨b,M,x,_,_,C,_⟩
        .omega
        rw[cN]at C;exact dF C (nV s)
       have A:hW (l.take n)=n:=by rw[cK];omega
       refine⟨n,⟨(λh=>by cases h),λI h=> ?_,(λe l h=>by cases h)⟩,by simp only[Base.cellsOf];rw[gS,A],λJ H h=>by injection h with p g;subst p;cases g;exact⟨rfl,A.symm⟩⟩;cases h;refine⟨_,f,rfl,by rw[t];rfl,g, ?_⟩;rw[t];exact li
    |cells B z l=>
     rw[t]at h;cases z with
     |true=>cases h
     |false=>
      simp only at h;cases r:(aB es B&&cQ 1 es)with
      |false=>rw[r]at h;cases h
      |true=>
       rw[r]at h;rw[bB]at r;have D:=aD r.1;subst D;injection h with h
       injection h with p g
       subst p;subst g;have f:(ag c.S q).dim=O (es,hW l):=by rw[t];rfl
       have g:=E _ f
       have Q:n*es<=hW l:=by
        rcases g with⟨_,_,C,_,_⟩|⟨b,M,x,_,_,C,_⟩
        .subst C;simp
        rwa [cN]at C
       refine⟨n,⟨(λh=>by cases h),λI h=> ?_,λe l h=>by injection h with p g;exact⟨p.symm,cD r.2⟩⟩,by simp only[Base.cellsOf];rw[cK];omega,λJ H h=>by cases h⟩;cases h;exact⟨_,f,rfl,by rw[t];rfl,g,by rw[t];rfl⟩
theorem aG6 {vs cs:List Value}(h:hW cs=hW vs):lN cs 0 vs=vs:=by
 induction vs generalizing cs with
 |nil=>simp only[lN];exact dy.1 h
 |cons v vs n=>
  cases cs with
  |nil=>simp at h
  |cons a cs=>
   have f:hW cs=hW vs:=by simpa using h
   show lN ((a::cs).set 0 v) (0+1) vs=_;have g:=Bu vs [v] cs 0
   grind
def TW {vs cs:List Value}{p:Nat}(h:p+hW vs<=hW cs):lN cs p vs=cs.take p++(vs++cs.drop (p+hW vs)):=by
 have:=PA (vs:=vs) (cs:=cs) (p:=p) (o:=0) (w:=hW vs) V1 h;rw[Nat.add_zero,aG6 (by rw[cK,cS];omega)]at this;exact this
def SR {x z:Ab.Blk}{b i:Nat}(h:((Z.set b Y).add x).m i=O z):i=Z.n∨(i≠b/\Z.m i=O z):=by
 by_cases p:i=Z.n
 .exact .inl p
 refine .inr ?_;have q:((Z.set b Y).add x).m i=(Z.set b Y).m i:=zF p;rw[q]at h;by_cases f:i=b
 .have g:(Z.set b Y).m i=Y:=zE f;rw[g]at h;cases h
 have g:(Z.set b Y).m i=Z.m i:=zF f;exact⟨f,g▸h⟩
def UM {x:Ab.Blk}{b i:Nat}(f:i≠Z.n)(h:i≠b):((Z.set b Y).add x).m i=Z.m i:=by
 have g:((Z.set b Y).add x).m i=(Z.set b Y).m i:=zF f;have p:(Z.set b Y).m i=Z.m i:=zF h;exact g.trans p
structure Grown (c:Ctx)(base more:List VV)(es n:Nat)(blk:Blk):Prop where
 dim:blk.dim=O (es,n*es)
 fz:blk.frozen=Zb
 rel: ∀bs ms,F2 (VRel c) base bs->F2 (VRel c) more ms->F2 (VRel c) blk.vals (bs++ms)
theorem tL {c1:Ctx}{es bytes g n:Nat}{E:Base}{kill:Option Nat}{more:List VV}{s:Operand}{all:List Value}(A:Rel c1)(hS:vQ c.S c1.S)(hμ:c1.μ=c.μ)(H:c1.Z=c.Z)(hle:Le c c1)(hcalm:vP d c c1)
  (B:1<=es) (hb:BaseAt c es g E kill<|ea.ev s) (K: ∀q,kill=O q->(ag c1.S q).frozen=Zb)
  (D: ∀a sl' sc,ea.ev s= .slice a sl' sc->op.run ea c.Z=qd es bytes c.Z a sl' sc n all) (h3:all.length=n*es) (h4:F2 (VRel c1) more all) (h5:all.all one=Za) (C:Grown c1 E.cellsOf more es (g+n) blk)
  (hf:du (g+n) bytes=Za) (hd: ∀q,kill=O q->q∈d) (hk:k (.full c1.S.length) (rO c1.S kill++[blk])=O y):cj T op ea c.Z<|jd c d k y:=by
 have W:(g+n)*bytes<=140737488355328/\g+n<=9223372036854775807:=by
  unfold du at hf;rw[bB]at hf;have g1:=of_decide_eq_true hf.1;have g2:=cD hf.2;refine⟨g1, ?_⟩;have:(g+n)*1<=(g+n)*bytes:=dH _ g2;omega
 have hnew:all=[]->n=0:=by
  intro h;subst h;simp only[cT]at h3;rcases cY n with h|h
  .exact h
  .have:=dA h B;omega
 have w: ∀{v:Value} {Z':Hp} {b1:Option Nat},Moves c1 kill b1 blk Z'->VRel ⟨yh c1 b1,rO c1.S kill++[blk],Z',c1.fb⟩ (.full c1.S.length) v->jd c d k y v Z':=by
  intro v Z' b1 hm hv;exact⟨_,_,rfl,hle.trans<|hm.le A,hm.rel A,hcalm.trans (hm.calm A hd) hle,hv,hk⟩
 cases kill with
 |none=>
  obtain⟨M,e2,e3⟩:=hb.no rfl;subst e2;subst e3;by_cases X:n=0
  .subst X;have:all=[]:=by simpa using h3
   subst this;have t:Moves c1 Y Y blk c1.Z:=⟨(λ_ h=>by cases h),(λ_ h=>by cases h),A.ok,bD _,λ_ _ h _=>h,_,C.dim,B, .inl ⟨rfl,V2⟩⟩;refine cz (v:= .slice Y 0 0) (Z':=c.Z) ?_ ?_
   .rw[D _ _ _ M];rfl
   .rw[<-H];refine w t<|.full (by simp[rO]) rfl λd' p=> ?_;simp only[kQ,if_true]at p;rw[C.dim]at p;injection p with p
    subst p;exact⟨0,V2, .inl ⟨rfl,rfl,rfl,by simp[yh],V2⟩⟩
  .have t:=Xf A (blk:=blk) (x:=⟨all,Za,es⟩) C.dim B rfl rfl (by have:=C.rel [] all .nil h4;simpa using this);refine cz (v:= .slice (O ⟨c.Z.n,0,Y⟩) n n) (Z':=c.Z.add ⟨all,Za,es⟩) ?_ ?_
   .rw[D _ _ _ M];unfold qd
    grind
   .rw[<-H];refine w t<|Bo (yb:=⟨all,Za,es⟩) C.dim V2 (bD _) (zE rfl) ?_;show n*es<=all.length;omega
 |some q=>
  obtain⟨f,g1,g2,g3,g4,g5⟩:=hb.yes q rfl;subst g2;have I:(ag c1.S q).dim=O f:=by rw[hS.dim];exact g1
  have U:(ag c1.S q).vals=(ag c.S q).vals:=hS.vals q;rcases g4 with⟨M,_,e2,e3,e4⟩|⟨b,cp,yb,M,e3,e4,e5,e6,e7⟩
  .subst e2;have hbase:E.cellsOf=[]:=by rw[g5];simp
   by_cases X:n=0
   .subst X;have:all=[]:=by simpa using h3
    subst this;have t:Moves c1 (O q) Y blk c1.Z:=⟨(λ_ h=>by cases h),(λ_ h=>by injection h with h;subst h;exact K q rfl),A.ok,bD _,λ_ _ h _=>h,_,C.dim,B, .inl ⟨rfl,V2⟩⟩;refine cz (v:= .slice Y 0 0) (Z':=c.Z) ?_ ?_
    .rw[D _ _ _ M];rfl
    .rw[<-H];refine w t<|.full (by simp[As]) rfl λd' p=> ?_;simp only[kQ,if_true]at p;rw[C.dim]at p;injection p with p
     subst p;exact⟨0,V2, .inl ⟨rfl,rfl,rfl,by simp[yh],V2⟩⟩
   .have t:Moves c1 (O q) (O c1.Z.n) blk<|c1.Z.add ⟨all,Za,f.1⟩:=by
     have P:=Xf A (blk:=blk) (x:=⟨all,Za,f.1⟩) C.dim B rfl rfl (by have:=C.rel [] all (by rw[hbase];exact .nil) h4;simpa using this);refine⟨P.fr,(λ_ h=>by injection h with h;subst h;exact K q rfl),P.ok,P.n,λi z u _=>P.old i z u (λ⟨_,h,_⟩=>by cases h), ?_⟩;obtain⟨dd,k1,k2,k3⟩:=P.one;refine⟨dd,k1,k2, ?_⟩;rcases k3 with k3|⟨b',y',F,rest,k3,k4,k5,k6,k7,k8,k9⟩
     .exact .inl k3
     .refine .inr ⟨b',y',F,rest,k3,k4,k5,k6,k7,k8, .inl ?_⟩;rcases k9 with k9|⟨_,k9,_⟩
      .exact k9
      .cases k9
    refine cz (v:= .slice (O ⟨c.Z.n,0,Y⟩) n n) (Z':=c.Z.add ⟨all,Za,f.1⟩) ?_ ?_
    .rw[D _ _ _ M];unfold qd
     grind
    .rw[<-H];refine w t<|Bo (yb:=⟨all,Za,f.1⟩) C.dim V2 (bD _) (zE rfl) ?_;show n*f.1<=all.length;omega
  .rw[dB]at M;rw[cN]at e4 e7;have Q:c1.μ q=O b:=by rw[hμ];exact e3
   obtain⟨yb',F,rest,f1,f2,f3,f4,f5⟩:=A.block I Q;rw[H]at f1;rw[e6]at f1;injection f1 with f1
   subst f1;have L:=f3<|K q rfl;have hcl:F.length=f.2:=by rw[<-f5.length];exact Es I
   have hbs:F2 (VRel c1) E.cellsOf<|F.take<|g*f.1:=by rw[g5,<-U];exact f5.take _
   have hrel:=C.rel _ _ hbs h4;have V:yb.cells.take (g*f.1)=F.take (g*f.1):=by rw[f4,dE V1]
   have hcp:g*f.1<=cp*f.1:=cR _ e5;by_cases r:g+n<=cp
   .have hroom':g*f.1+n*f.1<=cp*f.1:=by rw[<-cL];exact cR _ r
    have hset:lN yb.cells (g*f.1) all=F.take (g*f.1)++(all++yb.cells.drop (g*f.1+all.length)):=by rw[TW V1,V]
    have mk: ∀Z':Hp,Z'.Ok->Z'.n=c1.Z.n->(∀i,i≠b->Z'.m i=c1.Z.m i)->Z'.m b=O ⟨lN yb.cells (g*f.1) all,Za,yb.es⟩->Moves c1 (O q) (O b) blk Z':=by
     intro Z' ho X hm hb';refine⟨(λb' h u _=>by injection h with h;subst h;exact u _ (by rw[H];exact e6)),(λ_ h=>by injection h with h;subst h;exact K q rfl),ho,V1,λi z u hK=> ?_,(f.1,(g+n)*f.1),C.dim,B, .inr ⟨b,_,F.take (g*f.1)++all,yb.cells.drop<|g*f.1+all.length,rfl,hb',f2,λ_=>rfl,by show lN _ _ _=_;rw[hset,cV],hrel, .inr ⟨q,rfl,Q⟩⟩⟩;have:i≠b:=by rintro rfl;exact hK ⟨q,rfl,Q⟩
     rw[hm i this];exact u
    have J: ∀Z':Hp,Z'.m b=O ⟨lN yb.cells (g*f.1) all,Za,yb.es⟩->VRel ⟨yh c1<|O b,rO c1.S (O q)++[blk],Z',c1.fb⟩ (.full c1.S.length) (.slice (O ⟨b,0,Y⟩) (g+n) cp):=by
     intro Z' hb';refine Bo C.dim rfl r hb' ?_
     grind
    by_cases X:all=[]
    .have hself:yb=⟨lN yb.cells (g*f.1) all,Za,yb.es⟩:=by
      subst X;cases yb;simp only[lN]at*;simp[L]
     refine cz (v:= .slice (O ⟨b,0,Y⟩) (g+n) cp) (Z':=c.Z) ?_ ?_
     .rw[D _ _ _ M];unfold qd;rw[zE r];simp[X]
     .rw[<-H];have e6':c1.Z.m b=O ⟨lN yb.cells (g*f.1) all,Za,yb.es⟩:=by rw[<-hself,H];exact e6
      exact w (mk c1.Z A.ok rfl (λ_ _=>rfl) e6') (J _ e6')
    .refine cz (v:= .slice (O ⟨b,0,Y⟩) (g+n) cp) (Z':=c.Z.set b<|O ⟨lN yb.cells (g*f.1) all,Za,yb.es⟩) ?_ ?_
     .rw[D _ _ _ M];unfold qd;rw[zE r];simp only[X,if_false,e6,cN];rw[HF L V1 h5]
     .rw[<-H];refine w (mk _ (λi z u=> ?_) rfl (λi hi=>by simp[Hp.set,hi]) ft)<|J _ ft;simp only[Hp.set]at u;split at u
      .rename_i e;subst e;exact A.ok _ _ (by rw[H];exact e6)
      .exact A.ok _ _ u
   .have t:Moves c1 (O q) (O c1.Z.n) blk<|(c1.Z.set b Y).add ⟨F.take (g*f.1)++all,Za,f.1⟩:=by
     refine⟨(λb h _ hb=>by injection h with h;subst h;exact Nat.lt_irrefl _<|A.fbl _ hb),(λ_ h=>by injection h with h;subst h;exact K q rfl),λi z u=> ?_,Nat.le_succ _,λi z u hK=> ?_,(f.1,(g+n)*f.1),C.dim,B, .inr ⟨c1.Z.n,_,F.take (g*f.1)++all,[],rfl,zE rfl,rfl,λ_=>rfl,V2,hrel, .inl λz u=> ?_⟩⟩
     .show i<c1.Z.n+1;rcases SR u with P|⟨_,P⟩
      .omega
      .have:=A.ok i z P;omega
     .have P:i≠b:=by rintro rfl;exact hK ⟨q,rfl,Q⟩
      have h9:=A.ok i z u;rw[UM V1 P];exact u
     .have:=A.ok _ _ u;omega
    refine cz (v:= .slice (O ⟨c.Z.n,0,Y⟩) (g+n)<|g+n) (Z':=(c.Z.set b Y).add ⟨F.take (g*f.1)++all,Za,f.1⟩) ?_ ?_
    .rw[D _ _ _ M];unfold qd;rw[zF r,zE ⟨W.1,W.2,h5⟩];simp only[e6];rw[zE ⟨L,f2⟩]
     have:rQ yb 0 (g*f.1)=O (F.take<|g*f.1):=by
      unfold rQ
      grind
     rw[this]
    .rw[<-H];refine w t (Bo (yb:=⟨F.take (g*f.1)++all,Za,f.1⟩) C.dim rfl (bD _) (zE rfl) ?_)
     grind
def LC {S:ak}{cs:List VV}{l:List<|El s}{c1:Ctx}(f:Rel c1)(g:c1.S=S)(h:ae2 S s cs=O l):hW cs=hW l*s.w/\∀as,F2 (VRel c1) cs as->F2 (VRel c1) (gf s l) as:=by
 subst g;exact KU (kJ f s) _ _ _ h
def NY (hR:Rel c)(he:ba c e ea){es bytes:Nat}{s:Operand}{mo:Option More}(hd: ∀q,Bd (ev e s)=O q->q∈d)(h:M0 c.S es bytes (CJ c.S es<|ev e s) mo k=O y)
  (hm: ∀m,mo=O m->∃n all,(∀a sl' sc,ea.ev s= .slice a sl' sc->op.run ea c.Z=qd es bytes c.Z a sl' sc n all)/\all.length=n*es/\F2 (VRel c) m.cellsOf all/\(∀s l,m= .lst s l->es=s.w/\n=l.length)):cj T op ea c.Z<|jd c d k y:=by
 have hs:=cm he s;unfold M0 at h;cases f:CJ c.S es (ev e s)with
 |none=>rw[f]at h;cases h
 |some p=>
  obtain⟨X,t⟩:=p;cases mo with
  |none=>rw[f]at h;cases X<;>cases h
  |some m=>
   obtain⟨sl,V,A,hba⟩:=ah6 hR f hs;obtain⟨n,all,E,U,v,h5⟩:=hm m rfl
   have D: ∀q,t=O q->q∈d:=by
    intro q hq;refine hd q ?_;subst hq;cases hv:ev e s<;>rw[hv]at f<;>try(cases f;done)
    case full b=>
     simp only[CJ]at f;split at f
     .rename_i s' l hbb;cases B:aB es s'.w with
      |false=>rw[B]at f;cases f
      |true=>rw[B]at f;simp only[zC,hO,hU]at f;rw[<-f.2];rfl
     .rename_i es' l hbb;cases B:(aB es es'&&cQ 1 es)with
      |false=>rw[B]at f;cases f
      |true=>rw[B]at f;simp only[zC,hO,hU]at f;rw[<-f.2];rfl
     .cases f
    case part b lo m=>
     cases lo with
     |succ lo=>cases f
     |zero=>
      simp only[CJ]at f;split at f
      .rename_i s' l hbb;cases B:aB es s'.w with
       |false=>rw[B]at f;cases f
       |true=>rw[B]at f;simp only[zC,hO,hU]at f;rw[<-f.2];rfl
      .rename_i es' l hbb;cases B:(aB es es'&&cQ 1 es)with
       |false=>rw[B]at f;cases f
       |true=>rw[B]at f;simp only[zC,hO,hU]at f;rw[<-f.2];rfl
      .cases f
   have W: ∀q,t=O q->(ag c.S q).frozen=Zb:=by
    intro q hq;obtain⟨_,_,_,h,_⟩:=V.yes q hq;exact h
   rw[f]at h;have r: ∀(c1:Ctx) (l:List VV),F2 (VRel c1) l all->qc l=Za->all.all one=Za:=λc1 l h1 h2=>lg h1 h2
   cases X with
   |arr s' l=>
    obtain⟨g1,J⟩:=hba s' l rfl;subst g1;cases m with
    |lst s2 l'=>
     simp only at h;obtain⟨l2,k1,k2⟩:=ai h;obtain⟨ee,k3⟩:=mE k1;cases ee;subst k3;obtain⟨u,Q⟩:=az k2;obtain⟨_,F⟩:=h5 _ _ rfl;refine tL hR (vQ.refl _) rfl rfl (Le.refl c) (vP.refl d c) (nV _) V W E U v (r c _ v<|tQ _ _) ⟨?_,rfl,λbs ms H I=> ?_⟩ (by rw[J,F];exact u) D Q
     .simp only[Blk.dim,cB,J,F]
     .simp only[Blk.vals];rw[Ar];exact H.append I
    |cells C=>
     simp only at h;split at h
     .rename_i s3 l3 M;obtain⟨l2,k1,k2⟩:=ai h;obtain⟨u,Q⟩:=az k2;have g:=Ho c.S C;have L:Rel ⟨c.μ,IW c.S C,c.Z,c.fb⟩:=g.rel hR;obtain⟨F,k7⟩:=LC L rfl k1;have K:F2 (VRel ⟨c.μ,IW c.S C,c.Z,c.fb⟩) C all:=VRel.frames g.le v
      have k8:n=l2.length:=by
       have:=v.length;simp only[More.cellsOf]at this;rw[F,U]at this;exact(cM (nV _) this).symm
      have P: ∀q,t=O q->(ag (IW c.S C) q).frozen=Zb:=by
       intro q hq;subst hq;simp only[dI]at M;rw[M];rfl
      refine tL (c1:=⟨c.μ,IW c.S C,c.Z,c.fb⟩) L g rfl rfl g.le (g.calm d) (nV _) V P E U K (r _ _ (k7 _ K)<|tQ _ _) ⟨?_,rfl,λbs ms H I=> ?_⟩ (by rw[J,k8];exact u) D Q
      .simp only[Blk.dim,cB,J,k8]
      .simp only[Blk.vals];rw[Ar];exact H.append (k7 _ I)
     .cases h
   |cells es0 l=>
    obtain⟨g1,J⟩:=V.es _ _ rfl;subst g1;cases m with
    |lst s2 l'=>
     simp only at h;obtain⟨w1,w2⟩:=h5 _ _ rfl;subst w1;split at h
     .rename_i s3 l3 M;obtain⟨l1,k1,k2⟩:=ai h;obtain⟨u,Q⟩:=az k2;have g:=Ho c.S l;have L:Rel ⟨c.μ,IW c.S l,c.Z,c.fb⟩:=g.rel hR;obtain⟨F,k7⟩:=LC L rfl k1;have K:F2 (VRel ⟨c.μ,IW c.S l,c.Z,c.fb⟩) (gf s2 l') all:=VRel.frames g.le v
      have k8:sl=l1.length:=by
       simp only[Base.cellsOf]at A;rw[F]at A;exact(cM (nV _) A).symm
      have P: ∀q,t=O q->(ag (IW c.S l) q).frozen=Zb:=by
       intro q hq;subst hq;simp only[dI]at M;rw[M];rfl
      refine tL (c1:=⟨c.μ,IW c.S l,c.Z,c.fb⟩) L g rfl rfl g.le (g.calm d) (nV _) V P E U K (r _ _ K<|tQ _ _) ⟨?_,rfl,λbs ms H I=> ?_⟩ (by rw[w2,k8];exact u) D Q
      .simp only[Blk.dim,cB,w2,k8]
      .simp only[Blk.vals];rw[Ar];exact(k7 _ H).append I
     .cases h
    |cells C=>
     simp only at h;obtain⟨u,Q⟩:=az h;rw[bB]at u;simp only[Base.cellsOf]at A;simp only[More.cellsOf]at v;have F:C.length=n*es0:=by rw[v.length];exact U
     refine tL (blk:= .cells es0 Zb<|l++C) hR (vQ.refl _) rfl rfl (Le.refl c) (vP.refl d c) J V W E U v (r c _ v u.2) ⟨?_,rfl,λbs ms H I=>F2.append (l:=l) H I⟩ ?_ D Q
     .simp only[Blk.dim,cB,A,F,cL]
     .have:(l.length+C.length) / es0=sl+n:=by rw[A,F,<-cL,dG _ J]
      rw[<-this];exact u.1
   |none=>
    have hsl:t=Y->sl=0:=λB=>(V.no B).2.1
    have hsl0: ∀(q:Nat),1<=es->sl=0:=by
     intro _ B;simp only[Base.cellsOf,cT]at A;rcases cY sl with h|h
     .exact h
     .have:=dA h B;omega
    cases m with
    |lst s2 l'=>
     simp only at h;obtain⟨w1,w2⟩:=h5 _ _ rfl;subst w1;have hz:=hsl0 0<|nV _;subst hz;obtain⟨u,Q⟩:=az h;refine tL hR (vQ.refl _) rfl rfl (Le.refl c) (vP.refl d c) (nV _) V W E U v (r c _ v<|tQ _ _) ⟨?_,rfl,λbs ms H I=> ?_⟩ (by rw[w2];exact u) D Q
     .simp only[Blk.dim,cB,w2,cT]
     .cases H;exact I
    |cells C=>
     simp only at h;obtain⟨u,Q⟩:=az h;rw[bB,bB]at u;have J:=cD u.1.2;have hz:=hsl0 0 J;subst hz;simp only[More.cellsOf]at v;have F:C.length=n*es:=by rw[v.length];exact U
     refine tL (blk:= .cells es Zb C) hR (vQ.refl _) rfl rfl (Le.refl c) (vP.refl d c) J V W E U v (r c _ v u.2) ⟨?_,rfl,λbs ms H I=>by cases H;exact I⟩ ?_ D Q
     .simp only[Blk.dim,F,cN]
     .have:C.length / es=0+n:=by rw[F,dG _ J,cN]
      rw[<-this];exact u.1.1
theorem ar5 {l:List<|El s}{bytes n:Nat}{all:List Value}(H:VRel c (.tgt s l) a)(K:hW all=n*s.w)(J:1<=n)(C:all.all one=Za)(g:du (hW l+n) bytes=Za):
  ∃p t old,a= .slice p (hW l) t/\F2 (VRel c) (gf s l) old/\qd s.w bytes c.Z p (hW l) t n all=O (.slice (O ⟨c.Z.n,0,Y⟩) (hW l+n)<|hW l+n,c.Z.add ⟨old++all,Za,s.w⟩):=by
 have f:(hW l+n)*bytes<=140737488355328/\hW l+n<=9223372036854775807:=by
  unfold du at g;rw[bB]at g;have v:=of_decide_eq_true g.1;have A:=cD g.2;refine⟨v, ?_⟩;have:(hW l+n)*1<=(hW l+n)*bytes:=dH _ A;omega
 cases H with
 |tgtn F=>
  simp only[cT,cN]at f⊢;rcases F with rfl|⟨b,o,rfl⟩
  .refine⟨Y,0,[],rfl, .nil, ?_⟩;unfold qd
   grind
  .refine⟨_,0,[],rfl, .nil, ?_⟩;unfold qd
   grind
 |tgt L I D B q=>
  rename_i b p u;by_cases r:l=[]
  .subst r;simp only[cT,cN]at f⊢;refine⟨_,0,[],rfl, .nil, ?_⟩;unfold qd
   grind
  .have E:(hW l)≠0:=λh=>r (List.eq_nil_of_length_eq_zero h)
   refine⟨_,_,_,rfl,q, ?_⟩;unfold qd;rw[Zh,zE ⟨f.1,f.2,C⟩];simp only[E,if_false,I,D,if_true]
   have:rQ u p (hW l*s.w)=O ((u.cells.drop p).take<|hW l*s.w):=by
    unfold rQ;rw[zE B]
   rw[this]
def PG {c1:Ctx}{bytes n:Nat}{l t:List<|El s}{L:Operand}{all:List Value}(C:Rel c1)(J:c1.Z=c.Z)(u:Le c c1)(g:vP d c c1)
  (X:VRel c1 (.tgt s l)<|ea.ev L) (D: ∀a B E,ea.ev L= .slice a B E->op.run ea c.Z=qd s.w bytes c.Z a B E n all) (I:all.length=n*s.w) (V:F2 (VRel c1) (gf s t) all) (W:all.all one=Za) (K:n=t.length) (U:1<=n)
  (h:To c1.S bytes s Y l t k=O y):cj T op ea c.Z<|jd c d k y:=by
 unfold To at h;obtain⟨H,Q⟩:=az h;rw[<-K]at H;obtain⟨p,E,f,M,F,P⟩:=ar5 X I U W H;have A:F2 (VRel c1) (gf s<|l++t)<|f++all:=by rw[Ar];exact F.append V
 have r:=Xf C (blk:= .arr s Zb<|l++t) (x:=⟨f++all,Za,s.w⟩) (d:=(s.w,(l++t).length*s.w)) rfl (nV s) rfl rfl A;refine cz (v:= .slice (O ⟨c.Z.n,0,Y⟩) (l.length+n)<|l.length+n) (Z':=c.Z.add ⟨f++all,Za,s.w⟩) ?_ ?_
 .rw[D _ _ _ M,<-J,P]
 .rw[<-J];refine⟨_,_,rfl,u.trans<|r.le C,r.rel C,g.trans (r.calm C (λq h=>by cases h)) u, ?_,Q⟩;refine Bo (yb:=⟨f++all,Za,s.w⟩) (dm:=(s.w,(l++t).length*s.w)) rfl (by simp[K]) (bD _) (zE rfl) ?_;show(l.length+n)*s.w<=(f++all).length;rw[cB,<-F.length,gS,I,cL];exact bD _
def aI0 (M:Rel c)(he:ba c e ea){es bytes:Nat}{l:List<|El s}{J:Operand}{I:Option More}(hs:ev e J= .tgt s l)(h:YF c.S es bytes s l I k=O y)
  (hm: ∀m,I=O m->∃n f,(∀a v V,ea.ev J= .slice a v V->op.run ea c.Z=qd es bytes c.Z a v V n f)/\f.length=n*es/\F2 (VRel c) m.cellsOf f/\(∀s l,m= .lst s l->es=s.w/\n=l.length)):cj T op ea c.Z<|jd c d k y:=by
 have D:=cm he J;rw[hs]at D;unfold YF at h;cases I with
 |none=>cases h
 |some m=>
  obtain⟨n,f,u,C,A,X⟩:=hm m rfl;cases m with
  |lst s' l'=>
   simp only at h;obtain⟨U,E,F⟩:=ai h;obtain⟨W,k3⟩:=mE E;cases W;subst k3;obtain⟨p,H⟩:=az F;rw[bB]at p;have K:=aD p.1;have L:=cD p.2;subst K;obtain⟨_,B⟩:=X _ _ rfl;exact PG M rfl (Le.refl c) (vP.refl d c) D u C A (lg A<|tQ _ _) B (by rw[B];exact L) H
  |cells q=>
   simp only at h;obtain⟨U,E,F⟩:=ai h;obtain⟨p,H⟩:=az F;rw[bB]at p;have K:=aD p.1;have L:=cD p.2;subst K;have g:=Ho c.S q;have t:Rel ⟨c.μ,IW c.S q,c.Z,c.fb⟩:=g.rel M;obtain⟨B,P⟩:=LC t rfl E;have r:F2 (VRel ⟨c.μ,IW c.S q,c.Z,c.fb⟩) q f:=VRel.frames g.le A
   have Q:n=U.length:=by
    have:=A.length;simp only[More.cellsOf]at this;rw[B,C]at this;exact(cM (nV _) this).symm
   exact PG (c1:=⟨c.μ,IW c.S q,c.Z,c.fb⟩) t rfl g.le (g.calm d) (D.frame g.le) u C (P _ r) (lg (P _ r)<|tQ _ _) Q (by rw[Q];exact L) H
def WN (A:Rel c){v:VV}{S1:ak}{l:List<|El s}(h:PF c.S v=O (S1, .arr s l))(u:VRel c v a):vQ c.S S1/\VRel ⟨c.μ,S1,c.Z,c.fb⟩ (.lst s l) a:=by
 unfold PF at h;split at h
 .simp only[hO,hU,Base.arr.injEq]at h;obtain⟨p,rfl,f⟩:=h;have f:=eq_of_heq f;subst p;subst f;exact⟨vQ.refl _,u⟩
 .rename_i q;split at h
  .rename_i w z C r;simp only[hO,hU,Base.arr.injEq]at h;obtain⟨p,rfl,f⟩:=h;have f:=eq_of_heq f;subst p;subst f;have g:vQ c.S<|kR c.S q (ag c.S q).freeze:=vQ.put;refine⟨g, ?_⟩;have n:=g.rel A;have B:q<hW c.S:=lM (by rw[r];simp[Blk.dim]);have t:ag (kR c.S q (ag c.S q).freeze) q= .arr w Za C:=by rw[ad4 B,r];rfl
   refine OY n (kJ n w) (v:= .full q) ?_ (u.frame g.le);show cond (ag (kR c.S q (ag c.S q).freeze) q).frozen _ _=_;rw[t];simp only[Blk.frozen,zC,GB,t,Aa,mD]
  cases h
 cases h
def aM7 (n:Rel c)(p:ba c e ea)(r:ev e x= .nils)(h:k (.int .i64 0) c.S=O y):cj T (.capN x) ea c.Z<|jd c d k y:=by
 have f:=cm p x;rw[r]at f;have g:ea.ev x= .slice Y 0 0:=by generalize ea.ev x=q at f;cases f;rfl
 refine cz (v:= .int .i64 0) (Z':=c.Z) ?_ (jd.same n (.int _ _) h);simp only[AOp.run,g]
def ap7 (U:Rel c)(W:ba c e ea){H M:Operand}(h:TX c.S (ev e x) (ev e H) (ev e M) k=O y):cj T (.sliceX x H M) ea c.Z<|jd c d k y:=by
 have D:=cm W x;have K:=cm W H;have L:=cm W M;unfold TX at h;split at h
 .rename_i kh f km zm eh em;rw[eh]at K;rw[em]at L;have q1:ea.ev H= .int kh f:=K.int_inv;have q2:ea.ev M= .int km zm:=L.int_inv;have⟨Q,g⟩:=az h;clear h;have Q:=of_decide_eq_true Q;subst Q;have h:=g;clear g
  have run: ∀(p:Option Addr) (n E:Nat) (r:Value),ea.ev x= .slice p n E->0<=f->f<=E->(match p with
    |none=>O (Value.slice Y 0 0,c.Z)
    |some ⟨b,o,Y⟩=>O (.slice (O ⟨b,o,O 0⟩) f.toNat f.toNat,c.Z)
    |_=>Y)=O (r,c.Z)->(AOp.sliceX x H M).run ea c.Z=O (r,c.Z):=by
   intro p n E r hp h0 g hr;have b1:oh E 0 (O<|.int km f)=O f.toNat:=zE ⟨h0,g⟩;have b2:oh f.toNat 0 (O<|.int kh f)=O f.toNat:=zE ⟨h0,V1⟩;simp only[AOp.run,hp,q1,q2,b1,b2,if_true];exact hr
  split at h
  .rename_i hx;rw[hx]at D;have⟨F,g⟩:=az h;clear h;have h:=g;clear g;have F:=of_decide_eq_true F;subst F;have e1:ea.ev x= .slice Y 0 0:=by generalize ea.ev x=q at D;cases D;rfl
   exact cz (run _ _ _ (.slice Y 0 0) e1 V2 V2 rfl) (jd.same U .nils h)
  split at h
  .rename_i S1 s l J;have⟨F,g⟩:=az h;clear h;have h:=g;clear g;have⟨c1,c2,c3⟩:=tO F;have⟨B,P⟩:=WN U J D;have V:=B.rel U;have C: ∀v:Value,VRel ⟨c.μ,S1,c.Z,c.fb⟩ (.tgt s<|l.take f.toNat) v->jd c d k y v c.Z:=λv D=>⟨_,⟨c.μ,S1,c.Z,c.fb⟩,rfl,B.le,V,B.calm d,D,h⟩
   cases t:ea.ev x with
   |slice p n E=>
    rw[t]at P;cases P with
    |lstn hq=>
     have z0:f=0:=by simp at c3;omega
     subst z0;cases p with
     |none=>exact cz (run _ _ _ (.slice Y 0 0) t V2 V2 rfl) (C _<|.tgtn<|.inl rfl)
     |some A=>
      have⟨b,o,sp⟩:=A;have:sp=Y:=hq _ rfl;subst this;exact cz (run _ _ _ (.slice (O ⟨b,o,O 0⟩) 0 0) t V2 V2 rfl) (C _<|.tgtn<|.inr ⟨_,_,rfl⟩)
    |lst hn hy X g h2 h3 hf=>
     rename_i b o yb;refine cz (run _ _ _ (.slice (O ⟨b,o,O 0⟩) f.toNat f.toNat) t c2 V1 rfl)<|C _ ?_;have u:hW (l.take f.toNat)=f.toNat:=by rw[cK];omega
     have I:f.toNat*s.w<=n*s.w:=cR _ V1
     have:=VRel.tgt (c:=⟨c.μ,S1,c.Z,c.fb⟩) (l:=l.take f.toNat) hn hy X (p:=o) (by rw[u];omega) (by
      rw[u,li];have h9:=hf.take<|f.toNat*s.w;rw[List.take_take,Nat.min_eq_left I]at h9
      exact h9)
     rw[u]at this;exact this
   |_=>rw[t]at P;cases P
  cases h
 cases h
def Xh (u:Rel c)(v:ba c e ea){es bytes:Nat}{s:Operand}(F: ∀q,Bd (ev e s)=O q->q∈d)(h:NZ c.S es bytes (ev e s) (ev e x) k=O y)(p:SX c.S es bytes (ev e s) (ev e x) k=O y->cj T (.append es bytes s x) ea c.Z (jd c d k y)):cj T (.append es bytes s x) ea c.Z<|jd c d k y:=by
 unfold NZ at h;split at h
 .rename_i H l t;refine aI0 u v t h λm r=> ?_
  have⟨n,g,w,A,B,C,D⟩:=At u r<|cm v x;have f:=A n<|bD _;rw[cP V1]at f;refine⟨n,g,λa E I t=> ?_,B,C,D⟩;simp only[AOp.run,t,w,f]
 exact p h
def ah2 (r:Rel c)(t:ba c e ea){es bytes:Nat}{s:Operand}(C: ∀q,Bd (ev e s)=O q->q∈d)(h:SX c.S es bytes (ev e s) (ev e x) k=O y):cj T (.append es bytes s x) ea c.Z<|jd c d k y:=by
 refine NY r t C h λm p=> ?_
 have⟨n,g,u,v,w,A,B⟩:=At r p<|cm t x;have f:=v n<|bD _;rw[cP V1]at f;refine⟨n,g,λa E F D=> ?_,w,A,B⟩;simp only[AOp.run,D,u,f]
theorem Xi (H:Rel c)(p:ba c e ea){es bytes:Nat}{z:List Value}{s:Operand}(I: ∀q,Bd (ev e s)=O q->q∈d)(h:N0 c.S es bytes z (ev e s) (ev e x) k=O y):cj T (.appendZ es bytes z s x) ea c.Z<|jd c d k y:=by
 have A:=cm p x;unfold N0 at h;split at h
 .rename_i P l J;rw[J]at A;obtain⟨g,h⟩:=az h;unfold mH at g;rw[bB,bB]at g;have D:=of_decide_eq_true g.1;have E:=of_decide_eq_true g.2.1;have F:=of_decide_eq_true g.2.2;refine NY H p I h λm f=> ?_
  unfold WZ at f;split at f
  .rename_i r K;cases t:aB es r.w with
   |false=>rw[t]at f;cases f
   |true=>
    rw[t]at f;simp only[zC,hO]at f;subst f;have p:=aD t;subst p;have B:=DB (c:=c) K;have v:z.length=r.w:=by rw[<-B.length,fi]
    refine⟨l.toNat,fh z l.toNat,λa L V u=> ?_,by rw[Al,v], ?_,λU Q M=> ?_⟩
    .simp only[AOp.run,u,A.int_inv];rw[zE ⟨D,E,F⟩]
    .show F2 (VRel c) (gf r<|cO l.toNat<|vM r) (fh z l.toNat);rw[tg];generalize l.toNat=n;induction n with
     |zero=>exact .nil
     |succ n C=>
      simp only[fh,cU,cX]at C⊢;exact B.append C
    grind
  cases f
 cases h
def RG {S:ak}{q:Nat}:kR S q (ag S q)=S:=by
 induction S generalizing q with
 |nil=>rfl
 |cons a r f=>
  cases q with
  |zero=>rfl
  |succ q=>simp only[kR,ag,f]
theorem aG8 {b:Nat}{x:Ab.Blk}(h:Z.m b=O x):Z.set b (O x)=Z:=by
 have:(λi=>if i=b then O x else Z.m i)=Z.m:=by
  grind
 show Hp.mk _ _=_;rw[this]
def ax2 {es n m b o t:Nat}{all:List Value}{f:Ab.Blk}(w:ea.ev x= .slice (O ⟨b,o,Y⟩) n t)(u:GA (ea.ev z)=O m)(v:c.Z.slice es (ea.ev z) (min m n)=O all)(r:c.Z.m b=O f)
  (g:f.own=Za) (h:o+hW all<=hW f.cells) (p:all.all one=Za):(AOp.copy es x z).run ea c.Z=O (.int .i64 (min m n:Nat),c.Z.set b<|O ⟨lN f.cells o all,Za,f.es⟩):=by
 simp only[AOp.run,w,u,v];by_cases q:all=[]
 .rw[zE q];subst q;have:(⟨lN f.cells o [],Za,f.es⟩:Ab.Blk)=f:=by cases f;simp only[lN]at*;simp[g]
  rw[this,aG8 r]
 .rw[zF q,r];simp only[HF g h p]
def QT (h:Rel c){es q o n m:Nat}{dm:Nat×Nat}{all:List Value}(f:(ag c.S q).dim=O dm)(F:dm.1=es)(U:(ag c.S q).frozen=Zb)(hs:IU c q o n dm<|ea.ev x)
  (M:GA (ea.ev z)=O m) (P:c.Z.slice es (ea.ev z) (min m n)=O all) (Q:all.length=min m n*es) (h5:all.all one=Za) (hd:q∈d) (D:blk.dim=O dm) (E:blk.frozen=Zb) (r:dm.2=0->blk=ag c.S q)
  (t: ∀cs,F2 (VRel c) (ag c.S q).vals cs->F2 (VRel c) blk.vals (lN cs (o*es) all)) (H:k (.int .i64 (min m n:Nat)) (kR c.S q blk)=O y):cj T (.copy es x z) ea c.Z<|jd c d k y:=by
 subst F;rcases hs with⟨C,w,J,V,g⟩|⟨b,cp,B,C,w,J,V,g,e6⟩
 .subst w;subst J;have:all=[]:=by simpa using Q
  subst this;refine cz (v:= .int .i64 (min m 0:Nat)) (Z':=c.Z) ?_ (jd.same h (.int _ _) ?_)
  .simp only[AOp.run,C,M,P];simp
  .rw[r g,RG]at H;exact H
 .obtain⟨y0,cs,u,A,W,X,K,L⟩:=h.block f w;rw[g]at A;injection A with A
  subst A;have hl:=L.length;rw[Es f]at hl
  have hle:o*dm.1+min m n*dm.1<=dm.2:=by
   have:(o+min m n)*dm.1<=(o+n)*dm.1:=cR _ V1;rw[cL]at this;omega
  have p:o*dm.1+all.length<=B.cells.length:=by rw[K,cB,Q];omega
  have I:Writes c q b blk ⟨lN B.cells (o*dm.1) all,Za,B.es⟩:=⟨U,w,D.trans f.symm,E,B,lN cs (o*dm.1) all,u,dm,g,f,W,rfl,GN _ _ _,by show lN _ _ _=_;rw[K,GM _ _ _ _ V1],t cs L⟩;exact cz (ax2 C M P g (X U) p h5) ⟨_,_,rfl,I.le h,I.rel h,I.calm h hd, .int _ _,H⟩
theorem Ll {E:IntKind}: ∀{cs r:List VV} {m ml:Zd} {j:Nat} {as g:List Value},Md E m j cs=O r->F2 (VRel c) cs as->F2 (VRel c) (ml.map<|VV.int E) g->ml=(m.drop j).take (hW cs)->
  F2 (VRel c) r (g++as.drop (hW g))
 |[],r,m,ml,j,as,g,h,w,B,f=>by
  simp only[Md]at h;cases h
  cases w
  grind
 |v::cs,r,m,ml,j,as,g,h,w,B,f=>by
  cases v<;>simp only[Md]at h<;>try(cases h;done)
  rename_i K n;cases q:Zc (K=E)with
  |false=>rw[q]at h;cases h
  |true=>
   rw[q,zC]at h;have q:=of_decide_eq_true q;subst q;have⟨L,F,t⟩:=ai h;cases t;cases w with
   |cons A p=>
    rename_i a as;have I:=A.int_inv;subst I;by_cases H:j<hW m
    .have u:m.drop j=m[j]::m.drop (j+1):=List.drop_eq_getElem_cons H;rw[u]at f;simp only[List.length_cons,List.take_succ_cons]at f;subst f;cases B with
     |cons C D=>
      rename_i b g;have J:=C.int_inv;subst J;have:=Ll F p D rfl;rw[dD,List.getElem?_eq_getElem H];exact .cons (.int _ _) this
    .have u:m.drop j=[]:=dC V1;rw[u]at f;simp only[List.take_nil]at f;subst f;cases B;have:=Ll (ml:=[]) F p .nil (by rw[dC V1];simp);rw[dD,List.getElem?_eq_none V1];exact .cons (.int _ _) this
def Rp {p:IntKind}{m:Zd}: ∀{cs r:List VV} {j:Nat},Md p m j cs=O r->hW r=hW cs
 |[],r,j,h=>by cases h;rfl
 |v::cs,r,j,h=>by
  cases v<;>simp only[Md]at h<;>try(cases h;done)
  rename_i t n;cases g:Zc (t=p)with
  |false=>rw[g]at h;cases h
  |true=>
   rw[g,zC]at h;have⟨u,q,f⟩:=ai h;cases f;simp[Rp q]
def VB {f:IntKind}{m:Zd}:gf (.int f) m=m.map (VV.int f):=by
 induction m with
 |nil=>rfl
 |cons a m g=>rw[gN,g];rfl
theorem KO {α:Type}{l m:List α}{o n:Nat}(h:o+n<=hW l):Df l o n m=l.take o++(m.take (min (hW m) n)++l.drop (o+min (hW m) n)):=by
 unfold Df
 grind
theorem av9 {α:Type}{l m:List α}{o n:Nat}(h:o+n<=hW l):hW (Df l o n m)=hW l:=by
 rw[KO h]
 grind
theorem U7 (P:Rel c){es q o n:Nat}{l A:List<|El s}{mc:List VV}{m:Nat}{g:List Value}(v:ag c.S q= .arr s Zb l)(I:IU c q o n (s.w,l.length*s.w)<|ea.ev x)(U:es=s.w)
  (K:GA (ea.ev z)=O m) (L: ∀i,i<=m->c.Z.slice es (ea.ev z) i=O (g.take<|i*es)) (h3:g.length=m*es) (M:F2 (VRel c) (gf s A) g) (H:m=A.length) (Q:q∈d)
  (E:k (.int .i64 (min A.length n:Nat)) (kR c.S q<|.arr s Zb<|Df l o n A)=O y):cj T (.copy es x z) ea c.Z<|jd c d k y:=by
 subst U;have u:(ag c.S q).dim=O (s.w,l.length*s.w):=by rw[v];rfl
 have t:o+n<=l.length:=by
  rcases I with⟨_,X,D,_,_⟩|⟨b,V,yb,_,_,D,_⟩
  .omega
  .exact dF D (nV s)
 have B:=L (min m n) (Nat.min_le_left _ _)
 have r:(g.take<|min m n*s.w).length=min m n*s.w:=by
  simp_all
 have p:=M.take<|min m n*s.w;rw[<-li]at p;rw[<-H]at E;refine QT P u rfl (by rw[v];rfl) I K B r (lg p<|tQ _ _) Q ?_ rfl (λJ=> ?_) (λW f=> ?_) E
 .simp only[Blk.dim,av9 t]
 .have:l.length=0:=by
   rcases cY l.length with h|h
   .exact h
   .have:=dA h<|nV s;simp only at J;omega
  rw[v,KO t]
  simp_all
 .rw[v]at f;simp only[Blk.vals]at f⊢;have C:=f.length;rw[gS]at C;have F:o*s.w+min m n*s.w<=l.length*s.w:=by rw[<-cL];exact cR _ V1
  rw[TW (by rw[r];omega),KO t,Ar,Ar,li,Bi,r,<-H,cL];exact(f.take _).append<|p.append<|f.drop _
theorem aN3 (L:Rel c)(he:ba c e ea){es:Nat}(hd: ∀q,Bd (ev e x)=O q->q∈d)(h:ax1 c.S es (ev e x) (ev e z) k=O y):cj T (.copy es x z) ea c.Z<|jd c d k y:=by
 have hx:=cm he x;have hz:=cm he z;unfold ax1 at h
 have go: ∀(q o n:Nat) (Q:Nat×Nat),(ag c.S q).dim=O Q->q∈d->IU c q o n Q (ea.ev x)->
   (match ag c.S q,qf c.S es (ev e z)with
   | .arr s Zb l,O (.lst s' l')=>(nL (.list s') (.list s) l').bind λI=>gd (aB es s.w) (k (.int .i64 (min I.length n:Nat))<|kR c.S q<|.arr s Zb<|Df l o n I)
   | .arr s Zb l,O (.cells J)=>(Fb .u64 J).bind λm=>(nL (.list<|.int .u64) (.list s) m).bind λI=>gd (aB es s.w) (k (.int .i64 (min I.length n:Nat))<|kR c.S q<|.arr s Zb<|Df l o n I)
   | .cells 1 Zb l,O (.lst (.int kd) m)=>gd (aB es 1&&cQ (o+n) l.length) (match Md kd m 0 ((l.drop o).take n)with
    |some c'=>k (.int .i64 (min m.length n:Nat)) (kR c.S q<|.cells 1 Zb<|l.take o++c'++l.drop (o+n))
    |none=>Y)
   |_,_=>Y)=O y->cj T (.copy es x z) ea c.Z (jd c d k y):=by
  intro q o n Q f P hs h;split at h
  .rename_i s l s' l' p W;obtain⟨m,r,F,t,K,u,h5⟩:=At L W hz;obtain⟨I,E,H⟩:=ai h;obtain⟨ee,k3⟩:=mE E;cases ee;subst k3;obtain⟨k4,k5⟩:=az H;rw[p]at f;injection f with f
   subst f;exact U7 (mc:=[]) L p hs (aD k4) F t K u (h5 _ _ rfl).2 P k5
  .rename_i s l J p W;obtain⟨m,r,F,t,K,u,h5⟩:=At L W hz;obtain⟨ml,k0,E⟩:=ai h;obtain⟨I,E,H⟩:=ai E;obtain⟨ee,k3⟩:=mE E;cases ee;subst k3;obtain⟨k4,k5⟩:=az H;rw[p]at f;injection f with f
   subst f;have g:=Lb k0;simp only[More.cellsOf]at u;rw[g,<-VB]at u;have B:=aD k4
   have C:m=I.length:=by
    have:=u.length;rw[gS,K,B]at this;exact(cM (nV _) this).symm
   exact U7 (mc:=[]) L p hs B F t K u C P k5
  .rename_i l kd ml p W;obtain⟨m,r,F,t,K,u,h5⟩:=At L W hz;obtain⟨E,H⟩:=az h;rw[bB]at E;have B:=aD E.1;have hle:=cD E.2;subst B;split at H
   .rename_i c' X;have C:=(h5 _ _ rfl).2;rw[p]at f;injection f with f
    subst f;have h2':=t (min m n)<|Nat.min_le_left _ _;have M:(r.take<|min m n*1).length=min m n*1:=by rw[cK,K,Nat.min_eq_left];omega
    simp only[More.cellsOf]at u;have U:F2 (VRel c) (gf (.int kd)<|ml.take<|min m n)<|r.take<|min m n*1:=by rw[li];exact u.take (min m n*1)
    have hc':=Rp X;have V:((l.drop o).take n).length=n:=by rw[cK,cS];omega
    rw[<-C]at H;refine QT L (by rw[p];rfl) rfl (by rw[p];rfl) hs F h2' M (lg U<|tQ _ _) P ?_ rfl (λh0=> ?_) (λJ g=> ?_) H
    .simp only[Blk.dim,cB,cK,cS,hc']
     congr 2
     omega
    .simp only at h0
     grind
    .rw[p]at g;simp only[Blk.vals]at g⊢;have hcl:=g.length;rw[TW (by rw[M];omega),cV,cZ];refine(g.take _).append ?_;have h6:=Ll (ml:=ml.take<|min m n) X ((g.drop o).take n) (by rw[<-VB];exact U) (by rw[V,cW,C,Nat.min_comm,<-List.take_take,cP (l:=ml)<|bD _])
     have h7:J.drop (o+(r.take<|min m n*1).length)=((J.drop o).take n).drop (r.take<|min m n*1).length++J.drop (o+n):=by
      rw[M,cZ,List.drop_take,List.drop_drop]
      conv=>lhs;rw[<-List.take_append_drop (n-min m n) (J.drop<|o+min m n)]
      rw[List.drop_drop]
      congr 2
      omega
     rw[h7,<-cV];exact h6.append (g.drop _)
   .cases H
  .cases h
 generalize ev e x=xv at*;cases xv<;>try(cases h;done)
 case full q=>
  simp only at h;cases hx with
  |full hk _ v=>
   split at h
   .rename_i n D;cases p:ag c.S q with
    |dead=>simp only[lenOf,p]at D;cases D
    |arr s z' l=>
     simp only[lenOf,p]at D;injection D with D
     have f:(ag c.S q).dim=O (s.w,l.length*s.w):=by rw[p];rfl
     obtain⟨n',F,t⟩:=v _ f;have:n'=n:=by rw[<-D];exact cM (nV s) F
     subst this;exact go q 0 n' _ f (hd q rfl) t h
    |cells es' z' l=>
     simp only[lenOf,p]at D;injection D with D
     have f:(ag c.S q).dim=O (es',l.length):=by rw[p];rfl
     obtain⟨n',F,t⟩:=v _ f;have K:=(L.blk q _ f).1
     have:n'=n:=by
      grind
     subst this;exact go q 0 n' _ f (hd q rfl) t h
   cases h
 case part q o n=>
  simp only at h;cases hx with
  |part hk _ v=>
   cases A:(ag c.S q).dim with
   |none=>
    have:ag c.S q= .dead:=by
     generalize ag c.S q=blk at A;cases blk<;>first|rfl|(cases A;done)
    rw[this]at h;cases h
   |some Q=>exact go q o n Q A (hd q rfl) (v Q A) h
end
end
section
section
variable {β:Type} {T:Ab.i7} {c:Ctx} {e:db} {ea:cy} {d:List Nat} {k:VV->ak->Option β} {y:β}
def Iu (s:ByteArray):hW (fg s)=s.size:=by
 simp[fg]
def aR7 (f:Rel c)(h:k (.bld<|hW c.S) (c.S++[.cells 1 Zb [.str []]])=O y):cj T .newB ea c.Z<|jd c d k y:=by
 refine cz (v:= .iface c.Z.n .nilFunc) (Z':=c.Z.add ⟨[.string ByteArray.empty],Za,1⟩) (by simp only[AOp.run]) ?_;refine jd.new (kill:=Y) f (Xf f (blk:= .cells 1 Zb [.str []]) (x:=⟨[.string ByteArray.empty],Za,1⟩) (d:=(1,1)) rfl (Nat.le_refl _) rfl rfl (.cons (.str rfl) .nil)) (λ_ h=>by cases h) ?_ h;refine .bld (by simp[rO]) rfl λg _=>⟨c.Z.n, ?_,rfl⟩
 simp[yh]
def VRel.it_inv {q:Nat}{l:Zd}(h:VRel c (.it q l) a): ∃s,fg s=l/\∀d,(ag c.S q).dim=O d->∃b,c.μ q=O b/\a= .iface b (.string s):=by
 cases h with
 |it _ _ g f=>exact⟨_,g,f⟩
def Vq : ∀{cs:List VV} {as:List Value} {l:Zd},Fb .u8 cs=O l->F2 (VRel c) cs as->CL as=O l
 |[],_,l,h,f=>by
  cases f;cases h;rfl
 |v::cs,_,l,h,f=>by
  cases f with
  |cons q t=>
   cases v with
   |int u n=>
    unfold Fb at h;by_cases p:u= .u8
    .subst p;rw[zB rfl,zC]at h;cases g:Fb .u8 cs with
     |none=>rw[g]at h;cases h
     |some r=>
      rw[g]at h;cases h;cases q;unfold CL;rw[Vq g t];rfl
    .rw[zA p]at h;cases h
   |_=>cases h
def OF : ∀{l:Zd} {as:List Value},F2 (VRel c) (gf (.int .u8) l) as->CL as=O l
 |[],_,f=>by cases f;rfl
 |n::l,_,f=>by
  cases f with
  |cons g h=>
   cases g;unfold CL;rw[OF (l:=l) h];rfl
def bn0 (l:Zd):fg (Yz l)=l.map xW:=by
 have f: ∀(l:Zd) (s:ByteArray),fg (l.foldl (λr n=>r.push<|UInt8.ofNat n.toNat) s)=fg s++l.map xW:=by
  intro l;induction l with
  |nil=>intro s;simp
  |cons n l g=>
   intro s;rw[List.foldl_cons,g,List.map_cons]
   have:fg (s.push<|UInt8.ofNat n.toNat)=fg s++[xW n]:=by
    simp[fg,xW,ByteArray.push]
   rw[this,List.append_assoc];rfl
 have:=f l ByteArray.empty;simpa[Yz,fg]using this
theorem aH3 (L:Rel c)(he:ba c e ea)(h:YA c.S (ev e x) k=O y):cj T (.strOf x) ea c.Z<|jd c d k y:=by
 have P:=cm he x
 have w: ∀(m:More) (l:Zd),(∀t,ev e x≠ .str t)->qf c.S 1 (ev e x)=O m->(∀as,F2 (VRel c) m.cellsOf as->CL as=O l)->k (.str<|l.map xW) c.S=O y->cj T (.strOf x) ea c.Z (jd c d k y):=by
  intro m l g f X hk;have⟨n,B,K,U,h3,V,_⟩:=At L f P;have C:=U n<|Nat.le_refl _;rw[Nat.mul_one,List.take_of_length_le V1]at C;have W:=X B V
  obtain⟨p,J,M⟩: ∃p J,ea.ev x= .slice p n J:=by
   generalize ea.ev x=a at*;cases a<;>simp[GA]at K
   .generalize ev e x=v at*
    have u: ∀q,(qf c.S 1 (.full q)=O m∨∃o n,qf c.S 1 (.part q o n)=O m)->∃d,(ag c.S q).dim=O d:=by
     intro q A;cases hg:ag c.S q with
     |dead=>rcases A with A|⟨_,_,A⟩<;>simp[qf,hg]at A
     |cells es z l=>exact⟨_,rfl⟩
     |arr s z l=>exact⟨_,rfl⟩
    cases P with
    |str _=>exact(g _ rfl).elim
    |undef=>simp[qf]at f
    |ptr _ _ _=>simp[qf]at f
    |it _ _ _ _=>simp[qf]at f
    |bld _ _ _=>simp[qf]at f
    |pix _ _ _ _=>simp[qf]at f
    |pel _ _ _=>simp[qf]at f
    |tgtn _=>simp[qf]at f
    |full _ _ E=>
     have⟨d,r⟩:=u _<|.inl f;have⟨_,_,H⟩:=E d r;rcases H with⟨e,_⟩|⟨_,_,_,e,_⟩<;>cases e
    |part _ _ E=>
     have⟨d,r⟩:=u _<|.inr ⟨_,_,f⟩;rcases E d r with⟨e,_⟩|⟨_,_,_,e,_⟩<;>cases e
   subst K;exact⟨_,_,rfl⟩
  refine cz (v:= .string<|Yz l) (Z':=c.Z) ?_ (jd.same L (.str<|bn0 l) hk);rw[M]at C;simp only[AOp.run,M,C,W,Option.map_some]
 unfold YA at h;split at h
 .cases h
 rename_i g;split at h
 .rename_i s l f;by_cases H:s= .int .u8
  .subst H;rw[mD]at h;exact w _ l (λt I=>g t I) f (λas D=>OF D) h
  unfold nL at h
  grind
 .rename_i Q f;cases F:Fb .u8 Q with
  |none=>rw[F]at h;cases h
  |some l=>
   rw[F]at h;exact w _ l (λt I=>g t I) f (λas D=>Vq F D) h
 cases h
end
end
section
open Bool renaming and_eq_true->cD
open List renaming append_assoc->aD,singleton_append->bD,mem_cons_of_mem->cB,length_take->cK,take_of_length_le->cL
open Nat renaming beq->aB,eq_of_beq_eq_true->bB
structure Still (c ct:Ctx):Prop where
 Z:ct.Z=c.Z
 nm: ∀b y,c.Z.m b=O y->¬c.mut b->¬ct.mut b
section
variable {c ct:Ctx}
def sN (h:Still c ct): ∀(s:Sh) (x:El s) (as:List Value),F2 (VRel c) (eX s x) as->F2 (VRel ct) (eX s x) as
 | .int k,n,as,f=>by
  cases f with
  |cons g q=>cases q;cases g;exact .cons (.int _ _) .nil
 | .bool,b,as,f=>by
  cases f with
  |cons g q=>cases q;cases g;exact .cons (.bool _) .nil
 | .str,l,as,f=>by
  cases f with
  |cons g q=>cases q;cases g;exact .cons (.str Zl) .nil
 | .list s,l,as,f=>by
  cases f with
  |cons g q=>
   cases q;refine .cons ?_ .nil;cases g with
   |lstn I=>exact .lstn I
   |lst E v D A B C r=>
    refine .lst (h.nm _ _ v E) (by rw[h.Z];exact v) D A B C ?_;clear v D B C E;subst A;revert r;rename_i b p H y;generalize (y.cells.drop _).take _=as;clear y H p b;intro r;induction l generalizing as with
    |nil=>cases r;exact .nil
    |cons x l J=>
     rw[gN]at r⊢;obtain⟨w,F,rfl,t,u⟩:=F2.app_left r;exact(sN h s x w t).append (J _ u)
 | .pair a b,x,as,f=>by
  simp only[eX]at f⊢;obtain⟨w,F,rfl,t,u⟩:=F2.app_left f;exact(sN h a x.1 w t).append<|sN h b x.2 F u
def L5 (h:Still c ct){l:List<|El s}: ∀{as:List Value},F2 (VRel c) (gf s l) as->F2 (VRel ct) (gf s l) as:=by
 induction l with
 |nil=>intro as f;cases f;exact .nil
 |cons x l p=>
  intro as f;rw[gN]at f⊢;obtain⟨q,r,rfl,g,n⟩:=F2.app_left f;exact(sN h s x q g).append<|p n
def AW.still (h:Still c ct){l:List<|El s}(v:AW c s l a):AW ct s l a:=by
 rcases v with f|⟨b,p,g,y,f,n,q,r,t,u⟩
 .exact .inl f
 exact .inr ⟨b,p,g,y,f,by rw[h.Z];exact n,q,r,t,L5 h u⟩
structure Sub (st st':DSt):Prop where
 m: ∃t,st'.m=st.m++t
 lent: ∀k∈st.lent,k∈st'.lent
def Sub.refl (st:DSt):Sub st st:=⟨⟨[],V2⟩,λ_ h=>h⟩
def Sub.trans {a b d:DSt}(h:Sub a b)(k:Sub b d):Sub a d:=by
 have⟨t,f⟩:=h.m;have⟨u,g⟩:=k.m;exact⟨⟨t++u,by rw[g,f,aD]⟩,λi n=>k.lent i<|h.lent i n⟩
def FV (N:Nat)(m:List<|Option Src)(j:Nat)(x:Option Src):Prop:=(j<N/\x=O ⟨j,Y⟩)∨(N<=j/\nth m (j-N)=O x)
theorem JX {α:Type}{l t:List α}{x:α}(h:nth l i=O x):nth (l++t) i=O x:=by
 rw[Bq]at h⊢
 grind
def FV.sub (p:Sub st st'){x:Option Src}(h:FV N st.m j x):FV N st'.m j x:=by
 rcases h with h|⟨f,g⟩
 .exact .inl h
 have⟨t,n⟩:=p.m;exact .inr ⟨f,by rw[n];exact JX g⟩
def B4 {x:Option Src}(h:st.link N j x=O st'):FV N st'.m j x/\st'.ls=st.ls/\st'.lent=st.lent/\Sub st st':=by
 unfold DSt.link at h;cases g:Nat.blt j N with
 |true=>
  rw[g,zC]at h;split at h
  .rename_i k;cases f:aB k j with
   |false=>rw[f]at h;cases h
   |true=>
    rw[f]at h;cases h;have:=bB f;subst this;exact⟨.inl ⟨Nat.le_of_ble_eq_true g,rfl⟩,rfl,rfl,Sub.refl _⟩
  cases h
 |false=>
  rw[g,zD]at h
  have n:N<=j:=by
   rcases Nat.lt_or_ge j N with h1|h1
   .rw[show Nat.blt j N=Za from Nat.ble_eq_true_of_le h1]at g;cases g
   exact h1
  split at h
  .rename_i k p;split at h
   .rename_i q;cases f:aB k q with
    |false=>rw[f]at h;cases h
    |true=>
     rw[f]at h;cases h;have:=bB f;subst this;exact⟨.inr ⟨n,p⟩,rfl,rfl,Sub.refl _⟩
   cases h
  .cases h
  rename_i p;cases f:aB (j-N) (hW st.m) with
  |false=>rw[f]at h;cases h
  |true=>
   rw[f]at h;cases h;have:=bB f;refine⟨.inr ⟨n, ?_⟩,rfl,rfl,⟨⟨[x],rfl⟩,λ_ h=>h⟩⟩;rw[Bq,this];simp
def Lk (c ct:Ctx)(x:Option Src)(g:Nat):Prop:=g<hW ct.S/\∀f,(ag ct.S g).dim=O f->match x with
 |none=>f.2=0/\ct.μ g=Y
 |some ⟨k,h⟩=> ∃d,(ag c.S k).dim=O d/\f.1=d.1/\ct.μ g=c.μ k/\(match h with
  |none=>f.2=d.2
  |some n=>f.2=min (n*d.1) d.2)
structure Tell (c ct:Ctx)(N:Nat)(f:Nat->Nat)(stf:DSt):Prop extends Still c ct where
 lk: ∀j x,FV N stf.m j x->Lk c ct x (f j)
 lent: ∀k,k∈stf.lent->(ag c.S k).dim≠Y->∀b,c.μ k=O b->¬ct.mut b
def IU.tell {u n:Nat}{d:Nat×Nat}{d2':Nat}(B:ct.Z=c.Z)(t:ct.μ u=c.μ k)(p:d2'=n*d.1)(h:IU c k 0 n d a):IU ct u 0 n (d.1,d2') a:=by
 rcases h with⟨g,_,f,q,r⟩|⟨b,v,y,g,f,q,r,w,A⟩
 .exact .inl ⟨g,rfl,f,t.trans q,by rw[p,f];simp⟩
 exact .inr ⟨b,v,y,g,t.trans f,by rw[p,Nat.zero_add];exact Nat.le_refl _,r,by rw[B];exact w,A⟩
theorem aj1 {f:Nat->Nat}(F:Rel c)(t:Tell c ct N f stf){v:VV}{l:List<|El s}(h:aa8 c.S s v=O l)(J:VRel c v a)(I: ∀k,La v=O k->k∈stf.lent):VRel ct (.lst s l) a:=by
 have⟨u,C⟩:=aB1 F h J;refine(u.still t.toStill).rel λb p n w e H=> ?_
 rcases C b p n w e H with r|⟨k,r,D,E⟩
 .rcases u with⟨q,g,_⟩|⟨K,L,A,y,g,B,_⟩
  .rw[g]at e
   grind
  rw[g]at e;injection e with e _ _
  injection e with e
  cases e;exact t.nm _ _ B r
 exact t.lent k (I k r) D b E
def Rd {st:DSt}{v:VV}:(∀k,La v=O k->k∈(st.lend v).lent)/\(st.lend v).m=st.m/\(st.lend v).ls=st.ls/\(∀k∈st.lent,k∈(st.lend v).lent):=by
 cases v<;>refine⟨λk h=> ?_,rfl,rfl,λk h=> ?_⟩<;>first|(cases h;done)|(cases h;exact List.mem_cons_self)|exact cB _ h|exact h
mutual
def aN4 {S:ak}{N:Nat}: ∀(sk:Sk) (v:VV) (st st1:DSt),KW S N sk v st=O st1->Sub st st1
 | .undef,v,st,st1,h=>by
  simp only[KW]at h;cases h;exact Sub.refl _
 | .leaf s,v,st,st1,h=>by
  simp only[KW]at h;split at h
  .rename_i k k' n;cases hk:Zc (k'=k)with
   |false=>rw[hk]at h;cases h
   |true=>rw[hk]at h;cases h;exact⟨⟨[],ZD⟩,λ_ h=>h⟩
  .injection h with h;subst h;exact⟨⟨[],ZD⟩,λ_ h=>h⟩
  .injection h with h;subst h;exact⟨⟨[],ZD⟩,λ_ h=>h⟩
  .rename_i s;have⟨l,h1,h2⟩:=ai h;cases h2
   have⟨_,h4,_,h6⟩:= @Rd st v;exact⟨⟨[],by simp[DSt.push,h4]⟩,h6⟩
  .cases h
 | .cint k n,v,st,st1,h=>by
  cases v<;>simp only[KW]at h<;>try(cases h;done)
  rename_i k' n';cases hk:(Zc (k'=k)&&Zc (n'=n))with
  |false=>rw[hk]at h;cases h
  |true=>rw[hk]at h;cases h;exact Sub.refl _
 | .nilp,v,st,st1,h=>by
  cases v<;>simp only[KW]at h<;>try(cases h;done)
  cases h;exact Sub.refl _
 | .nils,v,st,st1,h=>by
  cases v<;>simp only[KW]at h<;>try(cases h;done)
  cases h;exact Sub.refl _
 | .nilf,v,st,st1,h=>by
  cases v<;>simp only[KW]at h<;>try(cases h;done)
  cases h;exact Sub.refl _
 | .ptr j o,v,st,st1,h=>by
  cases v<;>simp only[KW]at h<;>try(cases h;done)
  rename_i k o';cases hk:aB o o' with
  |false=>rw[hk]at h;cases h
  |true=>rw[hk,zC]at h;exact(B4 h).2.2.2
 | .full j,v,st,st1,h=>by
  simp only[KW]at h;split at h
  .exact(B4 h).2.2.2
  .exact(B4 h).2.2.2
  .exact(B4 h).2.2.2
  .cases h
 | .pin s o,v,st,st1,h=>by
  cases v<;>simp only[KW]at h<;>try(cases h;done)
  rename_i s' x o';cases hk:aB o o' with
  |false=>rw[hk]at h;cases h
  |true=>
   rw[hk]at h;have⟨y,h1,h2⟩:=ai h;cases h2;exact⟨⟨[],ZD⟩,λ_ h=>h⟩
 | .fn g a b,v,st,st1,h=>by
  cases v<;>simp only[KW]at h<;>try(cases h;done)
  rename_i g' a' b';cases hk:aB g g' with
  |false=>rw[hk]at h;cases h
  |true=>
   rw[hk]at h;have⟨st2,h1,h2⟩:=ai h;exact(vC a a' st st2 h1).trans (vC b b' st2 st1 h2)
 | .agg l,v,st,st1,h=>by
  cases v<;>simp only[KW]at h<;>try(cases h;done)
  exact vC l _ st st1 h
 | .tup l,v,st,st1,h=>by
  cases v<;>simp only[KW]at h<;>try(cases h;done)
  exact vC l _ st st1 h
def vC {S:ak}{N:Nat}: ∀(l:List Sk) (vs:List VV) (st st1:DSt),Iy S N l vs st=O st1->Sub st st1
 |[],vs,st,st1,h=>by
  cases vs<;>simp only[Iy]at h<;>try(cases h;done)
  cases h;exact Sub.refl _
 |k::r,vs,st,st1,h=>by
  cases vs with
  |nil=>simp only[Iy]at h;cases h
  |cons v vs=>
   simp only[Iy]at h;have⟨st2,h1,h2⟩:=ai h;exact(aN4 k v st st2 h1).trans<|vC r vs st2 st1 h2
end
def al5 {f:Nat->Nat}(t:Tell c ct N f stf)(D:FV N stf.m j<|O ⟨k,Y⟩)(F:VRel c (.full k) a):VRel ct (.full<|f j) a:=by
 have⟨u,v⟩:=t.lk _ _ D;cases F with
 |full H E C=>
  refine .full u E λp h=> ?_
  have⟨d,w,q,A,g⟩:=v p h;have⟨n,r,B⟩:=C d w;simp only at g;refine⟨n,by rw[q,g];exact r, ?_⟩;have:=B.tell t.Z A (d2':=p.2) (by rw[g,r]);rw[<-q]at this;exact this
def ax5 {f:Nat->Nat}(t:Tell c ct N f stf){n:Nat}(C:FV N stf.m j<|O ⟨k,O n⟩)(E:VRel c (.part k 0 n) a):VRel ct (.full<|f j) a:=by
 have⟨v,w⟩:=t.lk _ _ C;cases E with
 |part F D u=>
  refine .full v D λp h=> ?_
  have⟨d,q,r,A,g⟩:=w p h;simp only at g
  have B:n*d.1<=d.2:=by
   rcases u d q with⟨_,_,e,_,_⟩|⟨_,_,_,_,_,e,_⟩
   .rw[e];simp
   rwa [Nat.zero_add]at e
  rw[Nat.min_eq_left B]at g;refine⟨n,by rw[r,g], ?_⟩;have:=(u d q).tell t.Z A (d2':=p.2) g;rw[<-r]at this;exact this
def aC8 {f:Nat->Nat}(t:Tell c ct N f stf)(u:FV N stf.m j Y):VRel ct (.full<|f j)<|.slice Y 0 0:=by
 have⟨p,q⟩:=t.lk _ _ u;refine .full p rfl λn g=> ?_
 have⟨h,r⟩:=q n g;exact⟨0,by rw[h];simp, .inl ⟨rfl,rfl,rfl,r,h⟩⟩
mutual
theorem aN5 {N:Nat}{f:Nat->Nat}{stf:DSt}(hR:Rel c)(hT:Tell c ct N f stf): ∀(sk:Sk) (v:VV) (st st1:DSt) (a:Value),KW c.S N sk v st=O st1->Sub st1 stf->VRel c v a->
  ∃new,st1.ls=st.ls++new/\∀rest,∃v',enc f sk (new++rest)=O (v',rest)/\VRel ct v' a
 | .undef,v,st,st1,a,h,hs,hv=>by
  simp only[KW]at h;cases h
  exact⟨[],V2,λrest=>⟨.undef,ZG, .undef _⟩⟩
 | .leaf s,v,st,st1,a,h,hs,hv=>by
  simp only[KW]at h;split at h
  .rename_i k k' n;cases hk:Zc (k'=k)with
   |false=>rw[hk]at h;cases h
   |true=>
    rw[hk]at h;cases h
    have:=of_decide_eq_true hk;subst this;refine⟨[⟨.int k',n⟩],rfl,λrest=>⟨.int k' n, ?_, ?_⟩⟩
    .simp only[bD,enc,mD,zG]
    .rw[hv.int_inv];exact .int _ _
  .rename_i b;cases h
   refine⟨[⟨.bool,b⟩],rfl,λrest=>⟨.bool b, ?_, ?_⟩⟩
   .simp only[bD,enc,mD,zG]
   .rw[hv.bool_inv];exact .bool _
  .rename_i l;cases h
   refine⟨[⟨.str,l⟩],rfl,λrest=>⟨.str l, ?_, ?_⟩⟩
   .simp only[bD,enc,mD,zG]
   .obtain⟨s,h1,h2⟩:=hv.str_inv;rw[h1];exact .str h2
  .rename_i s;have⟨l,h1,h2⟩:=ai h;cases h2
   have⟨h3,h4,h5,h6⟩:= @Rd st v;refine⟨[⟨.list s,l⟩],by simp[DSt.push,h5],λrest=>⟨.lst s l, ?_, ?_⟩⟩
   .simp only[bD,enc,mD,zG]
   .exact aj1 hR hT h1 hv λk hk=>hs.lent k (h3 k hk)
  .cases h
 | .cint k n,v,st,st1,a,h,hs,hv=>by
  cases v<;>simp only[KW]at h<;>try(cases h;done)
  rename_i k' n';cases hk:(Zc (k'=k)&&Zc (n'=n))with
  |false=>rw[hk]at h;cases h
  |true=>
   rw[hk]at h;cases h
   rw[cD]at hk;have e1:=of_decide_eq_true hk.1;have e2:=of_decide_eq_true hk.2;subst e1;subst e2;refine⟨[],V2,λrest=>⟨.int k' n',ZG, ?_⟩⟩;rw[hv.int_inv];exact .int _ _
 | .nilp,v,st,st1,a,h,hs,hv=>by
  cases v<;>simp only[KW]at h<;>try(cases h;done)
  cases h
  cases hv;exact⟨[],V2,λrest=>⟨.nilp,ZG, .nilp⟩⟩
 | .nils,v,st,st1,a,h,hs,hv=>by
  cases v<;>simp only[KW]at h<;>try(cases h;done)
  cases h
  cases hv;exact⟨[],V2,λrest=>⟨.nils,ZG, .nils⟩⟩
 | .nilf,v,st,st1,a,h,hs,hv=>by
  cases v<;>simp only[KW]at h<;>try(cases h;done)
  cases h
  cases hv;exact⟨[],V2,λrest=>⟨.nilf,ZG, .nilf⟩⟩
 | .ptr j o,v,st,st1,a,h,hs,hv=>by
  cases v<;>simp only[KW]at h<;>try(cases h;done)
  rename_i k o';cases hk:aB o o' with
  |false=>rw[hk]at h;cases h
  |true=>
   rw[hk,zC]at h;have:=bB hk;subst this;have⟨h1,h2,h3,h4⟩:=B4 h;have⟨h5,h6⟩:=hT.lk _ _<|h1.sub hs;refine⟨[],by simp[h2],λrest=>⟨.ptr (f j) o,ZG, ?_⟩⟩;cases hv with
   |ptr hk ho hd=>
    refine .ptr h5 ho λd' hd'=> ?_
    grind
 | .full j,v,st,st1,a,h,hs,hv=>by
  simp only[KW]at h;split at h
  .obtain⟨h1,h2,h3,h4⟩:=B4 h;exact⟨[],by simp[h2],λrest=>⟨.full<|f j,ZG,al5 hT (h1.sub hs) hv⟩⟩
  .obtain⟨h1,h2,h3,h4⟩:=B4 h;exact⟨[],by simp[h2],λrest=>⟨.full<|f j,ZG,ax5 hT (h1.sub hs) hv⟩⟩
  .obtain⟨h1,h2,h3,h4⟩:=B4 h;cases hv;exact⟨[],by simp[h2],λrest=>⟨.full<|f j,ZG,aC8 hT<|h1.sub hs⟩⟩
  .cases h
 | .pin s o,v,st,st1,a,h,hs,hv=>by
  cases v<;>simp only[KW]at h<;>try(cases h;done)
  rename_i s' x o';cases hk:aB o o' with
  |false=>rw[hk]at h;cases h
  |true=>
   rw[hk,zC]at h;have:=bB hk;subst this;have⟨y,h1,h2⟩:=ai h;have⟨ee,h3⟩:=mE h1;cases ee;subst h3;cases h2
   refine⟨[⟨s,y⟩],rfl,λrest=>⟨.pin s y o, ?_, ?_⟩⟩
   .simp only[bD,enc,mD,zG]
   .cases hv with
    |pin hn hy hl hf=>exact .pin (hT.nm _ _ hy hn) (by rw[hT.Z];exact hy) hl (sN hT.toStill _ _ _ hf)
 | .fn g p q,v,st,st1,a,h,hs,hv=>by
  cases v<;>simp only[KW]at h<;>try(cases h;done)
  rename_i g' p' q';cases hk:aB g g' with
  |false=>rw[hk]at h;cases h
  |true=>
   rw[hk,zC]at h;have:=bB hk;subst this;have⟨st2,h1,h2⟩:=ai h;cases hv with
   |fn f1 f2=>
    have⟨new1,e1,e2⟩:=ya hR hT p p' st st2 _ h1 ((vC q q' st2 st1 h2).trans hs) f1;have⟨new2,e3,e4⟩:=ya hR hT q q' st2 st1 _ h2 hs f2;refine⟨new1++new2,by rw[e3,e1,aD],λrest=> ?_⟩;have⟨v1,e5,e6⟩:=e2<|new2++rest;have⟨v2,e7,e8⟩:=e4 rest;exact⟨.fn g v1 v2,by simp only[enc,aD,e5,zG,e7], .fn e6 e8⟩
 | .agg l,v,st,st1,a,h,hs,hv=>by
  cases v<;>simp only[KW]at h<;>try(cases h;done)
  cases hv with
  |agg f1=>
   have⟨new1,e1,e2⟩:=ya hR hT l _ st st1 _ h hs f1;refine⟨new1,e1,λrest=> ?_⟩;have⟨v1,e5,e6⟩:=e2 rest;exact⟨.agg v1,by simp only[enc,e5,zG], .agg e6⟩
 | .tup l,v,st,st1,a,h,hs,hv=>by
  cases v<;>simp only[KW]at h<;>try(cases h;done)
  cases hv with
  |tup f1=>
   have⟨new1,e1,e2⟩:=ya hR hT l _ st st1 _ h hs f1;refine⟨new1,e1,λrest=> ?_⟩;have⟨v1,e5,e6⟩:=e2 rest;exact⟨.tup v1,by simp only[enc,e5,zG], .tup e6⟩
theorem ya {N:Nat}{f:Nat->Nat}{stf:DSt}(hR:Rel c)(hT:Tell c ct N f stf): ∀(l:List Sk) (vs:List VV) (st st1:DSt) (as:List Value),Iy c.S N l vs st=O st1->Sub st1 stf->F2 (VRel c) vs as->
  ∃new,st1.ls=st.ls++new/\∀rest,∃vs',Qr f l (new++rest)=O (vs',rest)/\F2 (VRel ct) vs' as
 |[],vs,st,st1,as,h,hs,hf=>by
  cases vs<;>simp only[Iy]at h<;>try(cases h;done)
  cases h
  cases hf;exact⟨[],V2,λrest=>⟨[],by simp[Qr], .nil⟩⟩
 |k::r,vs,st,st1,as,h,hs,hf=>by
  cases hf with
  |nil=>simp only[Iy]at h;cases h
  |cons f1 f2=>
   simp only[Iy]at h;have⟨st2,h1,h2⟩:=ai h;have⟨new1,e1,e2⟩:=aN5 hR hT k _ st st2 _ h1 ((vC r _ st2 st1 h2).trans hs) f1;have⟨new2,e3,e4⟩:=ya hR hT r _ st2 st1 _ h2 hs f2;refine⟨new1++new2,by rw[e3,e1,aD],λrest=> ?_⟩;have⟨v1,e5,e6⟩:=e2<|new2++rest;have⟨v2,e7,e8⟩:=e4 rest;exact⟨v1::v2,by simp only[Qr,aD,e5,zG,e7], .cons e6 e8⟩
end
def wZ (c ct:Ctx)(o:OSk)(x:Option Src)(blk:Blk):Prop:=
 (o= .dead/\blk= .dead)∨(blk.frozen=o.ro/\match x with
  |none=>o.ro=Zb/\∃s,blk= .arr s Zb []
  |some ⟨k,f⟩=>(o.ro=Zb->(ag c.S k).frozen=Zb)/\∃d,(ag c.S k).dim=O d/\(match f with
   |none=>blk.dim=O d
   |some n=>blk.dim=O (d.1,min (n*d.1) d.2))/\∀g,F2 (VRel c) (ag c.S k).vals g->F2 (VRel ct) blk.vals (g.take<|hW blk.vals))
def JA {S:ak}{x:Option Src}{n:DSt}(h:Xy S N o x st=O n):Sub st n:=by
 unfold Xy at h;split at h
 .injection h with h;subst h;exact Sub.refl _
 .split at h
  .rename_i u f l k _ p v w A;cases g:(aB u p&&(f|| !v))with
   |false=>rw[g]at h;cases h
   |true=>
    rw[g,zC]at h;have q:=vC _ _ _ _ h;cases f with
    |false=>exact q
    |true=>exact Sub.trans ⟨⟨[],V2⟩,λ_ h=>cB _ h⟩ q
  cases h
 .rename_i f s;cases f with
  |true=>cases h
  |false=>cases h;exact⟨⟨[],ZD⟩,λ_ h=>h⟩
 .rename_i f s k t;cases g:(f|| !(ag S k).frozen)with
  |false=>rw[g]at h;cases h
  |true=>
   rw[g,zC]at h;have⟨l,q,r⟩:=ai h;cases r
   cases f with
   |false=>exact⟨⟨[],ZD⟩,λ_ h=>h⟩
   |true=>exact⟨⟨[],ZD⟩,λ_ h=>cB _ h⟩
 cases h
theorem U9 {f:Nat->Nat}(I:Rel c)(W:Tell c ct N f stf){x:Option Src}{r:DSt}(h:Xy c.S N o x st=O r)(hs:Sub r stf):
  ∃q,r.ls=st.ls++q/\∀rest,∃blk,Qs f o (q++rest)=O (blk,rest)/\wZ c ct o x blk:=by
 unfold Xy at h;split at h
 .injection h with h;subst h
  exact⟨[],V2,λrest=>⟨.dead,by simp[Qs], .inl ⟨rfl,rfl⟩⟩⟩
 .split at h
  .rename_i H ro l k _ Q fz t J;cases v:(aB H Q&&(ro|| !fz))with
   |false=>rw[v]at h;cases h
   |true=>
    rw[v,zC]at h;rw[cD]at v;have he:=bB v.1;subst he;have B:(ag c.S k).dim=O (H,t.length):=by rw[J];rfl
    obtain⟨h0,E⟩:=I.blk k _ B
    have K: ∃as,F2 (VRel c) t as:=by
     rcases E with⟨M,e2⟩|⟨b,y,as,rest,_,_,_,_,_,C⟩
     .have:t=[]:=dy.1 M;subst this;exact⟨[], .nil⟩
     .rw[J]at C;exact⟨as,C⟩
    obtain⟨as,K⟩:=K;obtain⟨q,M,e2⟩:=ya I W l t _ r as h hs K;refine⟨q, ?_,λrest=> ?_⟩
    .rw[M];cases ro<;>rfl
    .obtain⟨vs,C,e4⟩:=e2 rest;refine⟨.cells H ro vs,by simp only[Qs,C,zG], .inr ⟨rfl,λp=> ?_,(H,t.length),B, ?_,λL A=> ?_⟩⟩
     .simp only[OSk.ro]at p;subst p;rw[J];have:=v.2;simp only[Bool.false_or,Bool.not_eq_true']at this;exact this
     .simp only[Blk.dim];rw[e4.length,K.length]
     .rw[J]at A;obtain⟨F,e1',P⟩:=ya I W l t _ r L h hs A
      have:F=q:=by
       simp_all
      subst this;obtain⟨vs',g,D⟩:=P rest;rw[C]at g;injection g with g
      injection g with g _
      subst g;rw[cL (by rw[<-D.length];exact Nat.le_refl _)];exact D
  .cases h
 .rename_i ro s;cases ro with
  |true=>cases h
  |false=>
   injection h with h;subst h
   refine⟨[⟨.list s,[]⟩],rfl,λrest=>⟨.arr s Zb [], ?_, .inr ⟨rfl,rfl,s,rfl⟩⟩⟩;simp only[bD,Qs,mD,zG]
 .rename_i ro s k u;cases v:(ro|| !(ag c.S k).frozen)with
  |false=>rw[v]at h;cases h
  |true=>
   rw[v,zC]at h;obtain⟨l,h1,U⟩:=ai h;injection U with U;subst U
   obtain⟨d,h3,h4,h5,h6⟩:=tN (kJ I s) h1;refine⟨[⟨.list s,Om u l⟩],by cases ro<;>rfl,λrest=>⟨.arr s ro<|Om u l, ?_, .inr ⟨rfl,λp=> ?_,d,h3, ?_,λt X=> ?_⟩⟩⟩
   .simp only[bD,Qs,mD,zG]
   .simp only[OSk.ro]at p;subst p;simpa using v
   .cases u with
    |none=>
     simp only[Blk.dim,Om];rw[<-h5,<-h4]
    |some n=>
     simp only[Blk.dim,Om,cK];rw[h5,h4,<-Nat.mul_min_mul_right]
   .have V:=L5 W.toStill<|h6 t X;have h8:t.length=l.length*s.w:=by rw[<-V.length,gS]
    cases u with
    |none=>
     simp only[Blk.vals,Om];rw[cL (by rw[gS];omega)];exact V
    |some n=>
     simp only[Blk.vals,Om];have h9:((gf s<|l.take n).length)=min (n*s.w) t.length:=by rw[li,cK,gS,h8]
     rw[h9,li,<-List.take_take,List.take_length];exact V.take (n*s.w)
 .cases h
def Ix {S:ak}{N:Nat}: ∀{os:List OSk} {js:List Nat} {st f:DSt},KX S N os js st=O f->Sub st f
 |[],[],st,f,h=>by cases h;exact Sub.refl _
 |[],_::_,st,f,h=>by cases h
 |_::_,[],st,f,h=>by cases h
 |o::os,j::js,st,f,h=>by
  simp only[KX]at h;have⟨p,g,n⟩:=ai h;exact(JA g).trans<|Ix n
def qW {S:ak}{N:Nat}: ∀{os:List OSk} {i:Nat} {st f:DSt},vB S N os i st=O f->Sub st f
 |[],i,st,f,h=>by
  simp only[vB]at h;cases g:aB i (hW st.m) with
  |false=>rw[g]at h;cases h
  |true=>rw[g]at h;cases h;exact Sub.refl _
 |o::os,i,st,f,h=>by
  simp only[vB]at h;split at h
  .obtain⟨q,n,p⟩:=ai h;exact(JA n).trans (qW p)
  .cases h
inductive BU (c ct:Ctx):List OSk->List Nat->List Blk->Prop where
 |nil:BU c ct [] [] []
 |cons {o:OSk} {j:Nat} {b:Blk} {os:List OSk} {js:List Nat} {bs:List Blk}:wZ c ct o (O ⟨j,Y⟩) b->BU c ct os js bs->BU c ct (o::os) (j::js) (b::bs)
inductive xM (c ct:Ctx):List OSk->List (Option Src)->List Blk->Prop where
 |nil:xM c ct [] [] []
 |cons {o:OSk} {x:Option Src} {b:Blk} {os:List OSk} {xs:List<|Option Src} {bs:List Blk}:wZ c ct o x b->xM c ct os xs bs->xM c ct (o::os) (x::xs) (b::bs)
def Oo {N:Nat}{f:Nat->Nat}{stf:DSt}(u:Rel c)(v:Tell c ct N f stf): ∀{os:List OSk} {js:List Nat} {st g:DSt},KX c.S N os js st=O g->Sub g stf->
  ∃q,g.ls=st.ls++q/\∀rest,∃bs,E7 f os (q++rest)=O (bs,rest)/\BU c ct os js bs
 |[],[],st,g,h,p=>by cases h;exact⟨[],V2,λrest=>⟨[],by simp[E7], .nil⟩⟩
 |[],_::_,st,g,h,p=>by cases h
 |_::_,[],st,g,h,p=>by cases h
 |o::os,j::js,st,g,h,p=>by
  simp only[KX]at h;have⟨J,I,t⟩:=ai h;have⟨r,w,A⟩:=U9 u v I<|(Ix t).trans p;have⟨n,B,C⟩:=Oo u v t p;refine⟨r++n,by rw[B,w,aD],λrest=> ?_⟩;have⟨K,D,E⟩:=A<|n++rest;have⟨L,F,H⟩:=C rest;exact⟨K::L,by simp only[E7,aD,D,zG,F], .cons E H⟩
def LY {N:Nat}{f:Nat->Nat}{stf:DSt}(B:Rel c)(C:Tell c ct N f stf): ∀{os:List OSk} {i:Nat} {st g:DSt},vB c.S N os i st=O g->Sub g stf->
  ∃q,g.ls=st.ls++q/\i+hW os=hW g.m/\∀rest,∃bs,E7 f os (q++rest)=O (bs,rest)/\xM c ct os (g.m.drop i) bs
 |[],i,st,g,h,w=>by
  simp only[vB]at h;cases v:aB i (hW st.m) with
  |false=>rw[v]at h;cases h
  |true=>
   rw[v]at h;cases h
   have:=bB v;subst this;exact⟨[],V2,V2,λrest=>⟨[],by simp[E7],by rw[List.drop_length];exact .nil⟩⟩
 |o::os,i,st,g,h,w=>by
  simp only[vB]at h;split at h
  .rename_i x P;have⟨Q,A,u⟩:=ai h;have⟨r,E,F⟩:=U9 B C A<|(qW u).trans w;have⟨p,H,t,I⟩:=LY B C u w;refine⟨r++p,by rw[H,E,aD],by rw[<-t];simp;omega,λrest=> ?_⟩;have⟨W,J,K⟩:=F<|p++rest;have⟨X,L,M⟩:=I rest;refine⟨W::X,by simp only[E7,aD,J,zG,L], ?_⟩;have⟨t1,U⟩:=(JA A).m;have⟨t3,V⟩:=(qW u).m
   have n:g.m[i]?=O x:=by
    rw[<-Bq,V,U];exact JX (JX P)
   have D:i<hW g.m:=by
    omega
   rw[List.drop_eq_getElem_cons D];rw[List.getElem?_eq_getElem D]at n;injection n with n
   rw[n];exact .cons K M
  .cases h
theorem KZ {f:Nat->Nat}(p:Rel c)(q:Tell c ct N f st)(h:nN c.S N fx sk vals=O st)(P:F2 (VRel c) vals as):
  ∃vs fs bs,mY f sk st.ls=O (vs,fs,bs)/\F2 (VRel ct) vs as/\BU c ct sk.fix fx fs/\xM c ct sk.free st.m bs:=by
 unfold nN at h;obtain⟨U,M,h⟩:=ai h;obtain⟨V,w,h⟩:=ai h;obtain⟨g,n,h⟩:=ai h
 have:g=st:=by
  grind
 subst this;have⟨Q,B,E⟩:=ya p q _ _ _ _ _ M ((Ix w).trans<|qW n) P;have⟨A,C,F⟩:=Oo p q w<|qW n;have⟨t,D,W,H⟩:=LY p q n<|Sub.refl _;have⟨vs,I,J⟩:=E<|A++t;have⟨fs,K,L⟩:=F t;have⟨bs,u,v⟩:=H [];refine⟨vs,fs,bs, ?_,J,L,by rw[List.drop_zero]at v;exact v⟩;have r:g.ls=Q++(A++t):=by rw[D,C,B];simp
 rw[List.append_nil]at u;simp only[mY,r,I,zG,K,u]
theorem qX {S:ak}(h:nN S N fx sk vals=O st):US (fx++tY st.m)=Za/\Tl (fx++lY sk.free st.m) st.lent=Za:=by
 unfold nN at h;obtain⟨f,p,h⟩:=ai h;obtain⟨g,q,h⟩:=ai h;obtain⟨n,r,h⟩:=ai h
 grind
def B6 : ∀{n:List Sh} {ls:List Leaf} {t:BC n},Ut n ls=O t->Ni n t=ls
 |[],ls,t,h=>by
  cases ls with
  |nil=>rfl
  |cons=>simp[Ut]at h
 |[s],ls,t,h=>by
  cases ls with
  |nil=>simp[Ut]at h
  |cons x ls=>
   cases ls with
   |nil=>
    simp only[Ut]at h;have⟨f,g⟩:=mE h;have⟨u,v⟩:=x;simp only at f;subst f;subst g;rfl
   |cons=>simp[Ut]at h
 |s::u::r,ls,t,h=>by
  cases ls with
  |nil=>simp[Ut]at h
  |cons x ls=>
   simp only[Ut]at h;obtain⟨a,g,h⟩:=ai h;obtain⟨b,p,h⟩:=ai h;cases h;have⟨f,q⟩:=mE g;have⟨w,v⟩:=x;simp only at f;subst f;subst q;simp only[Ni];rw[B6 p]
end
end
section
open List renaming getElem?_eq_getElem->aB,replicate->aD,all_eq_true->bB,mem_cons_self->bD,nodup_cons->cB
open Nat renaming le_add_right->cD,lt_of_lt_of_le->cK
def DD (c:Ctx):Option Src->Option Nat
 |none=>Y
 |some x=>c.μ x.k
theorem BU.get : ∀{os:List OSk} {js:List Nat} {bs:List Blk},BU c ct os js bs->hW js=hW bs/\hW os=hW bs/\∀(i j:Nat) (b:Blk),js[i]?=O j->bs[i]?=O b->∃o,os[i]?=O o/\wZ c ct o (O ⟨j,Y⟩) b
 |_,_,_, .nil=>⟨rfl,rfl,λi j b h=>by simp at h⟩
 |_,_,_, .cons q f=>by
  have⟨g,n,p⟩:=f.get
  grind
theorem xM.get : ∀{os:List OSk} {xs:List<|Option Src} {bs:List Blk},xM c ct os xs bs->hW xs=hW bs/\hW os=hW bs/\∀(i:Nat) (x:Option Src) (b:Blk),xs[i]?=O x->bs[i]?=O b->∃o,os[i]?=O o/\wZ c ct o x b
 |_,_,_, .nil=>⟨rfl,rfl,λi j b h=>by simp at h⟩
 |_,_,_, .cons q f=>by
  have⟨g,n,p⟩:=f.get
  grind
theorem wZ.blkRel (W:Rel c)(X:ct.Z=c.Z){x:Option Src}{p:Nat}(h:wZ c ct o x b)(D:ag ct.S p=b)(J:b.dim≠Y->ct.μ p=DD c x):Nn ct p:=by
 intro u f;rw[D]at f;have g:ct.μ p=DD c x:=J (by rw[f];simp);clear J;rcases h with⟨_,h⟩|⟨M,E⟩
 .subst h;cases f
 cases x with
 |none=>
  have⟨_,s,C⟩:=E;subst C;cases f;exact⟨nV s, .inl ⟨V2,by simpa[DD]using g⟩⟩
 |some x=>
  have⟨k,L⟩:=x;have⟨C,d,P,h5,Q⟩:=E;simp only[DD]at g;have⟨U,V⟩:=W.blk k d P
  have q:u.1=d.1/\u.2<=d.2:=by
   grind
  refine⟨by rw[q.1];exact U, ?_⟩;rcases V with⟨F,n⟩|⟨K,y,t,r,F,n,v,w,A,B⟩
  .exact .inl ⟨V1,g.trans n⟩
  have H:hW b.vals=u.2:=Es f;refine .inr ⟨K,y,t.take<|hW b.vals,t.drop (hW b.vals)++r,g.trans F,by rw[X];exact n,by rw[q.1];exact v,λI=> ?_,by rw[<-List.append_assoc,List.take_append_drop];exact A, ?_⟩
  .rw[D,M]at I;exact w (C I)
  rw[D];exact Q t B
theorem YT (f:Nat->Nat): ∀n,∃K,∀j,j<n->f j<K
 |0=>⟨0,λj h=>by omega⟩
 |n+1=>by
  have⟨K,h⟩:=YT f n;refine⟨max K<|f n+1,λj g=> ?_⟩
  grind
def GO {n:Nat}:ag (aD n Blk.dead) k= .dead:=by
 induction n generalizing k with
 |zero=>rfl
 |succ n f=>
  cases k with
  |zero=>rfl
  |succ k=>exact f
theorem QU {f:Nat->Nat}(v:Rel c)(h:nN c.S N fx sk vals=O st)(A:F2 (VRel c) vals as):
  ∃n vs fs bs,mY f sk st.ls=O (vs,fs,bs)/\BU c n sk.fix fx fs/\xM c n sk.free st.m bs:=by
 have⟨K,u⟩:=YT f (N+hW st.m)
 have w:Tell c ⟨λ_=>Y,aD K .dead,c.Z,λ_=>False⟩ N f st:=by
  have q: ∀b,¬(⟨λ_=>Y,aD K .dead,c.Z,λ_=>False⟩:Ctx).mut b:=by
   rintro b (⟨k,g,_⟩|h)
   .simp only[GO]at g;cases g
   .exact h
  refine⟨⟨rfl,λb _ _ _=>q b⟩,λj x B=>⟨?_,λC p=> ?_⟩,λk _ _ b _=>q b⟩
  .simp only[List.length_replicate];refine u j ?_;rcases B with⟨g,_⟩|⟨g,r⟩
   .omega
   .rw[Bq]at r
    grind
  .simp only[GO]at p;cases p
 have⟨vs,fs,bs,g,_,r,t⟩:=KZ v w h A;exact⟨_,vs,fs,bs,g,r,t⟩
theorem lm :lV k l=Za↔k∈l:=by
 induction l with
 |nil=>simp[lV]
 |cons a l f=>
  simp only[lV,List.mem_cons];cases h:Nat.beq a k with
  |true=>
   simp_all
  |false=>
   have:a≠k:=by rintro rfl;rw[Nat.beq_refl]at h;cases h
   grind
def qV :US l=Za->l.Nodup:=by
 induction l with
 |nil=>intro _;exact List.nodup_nil
 |cons a l n=>
  intro h;simp only[US]at h;cases f:lV a l with
  |true=>rw[f]at h;cases h
  |false=>
   rw[f]at h;refine List.nodup_cons.2 ⟨λg=> ?_,n h⟩;rw[lm.2 g]at f;cases f
def OG {w:List Nat}(h:Tl w l=Za)(g:k∈w):k∉l:=by
 intro f;simp only[Tl,bB]at h;have:=h k g;rw[lm.2 f]at this;cases this
def Bl {x:Src}(h:m[i]?=O (O x)):x.k∈tY m:=by
 induction m generalizing i with
 |nil=>simp at h
 |cons a m f=>
  cases i with
  |zero=>
   simp at h;subst h;exact bD
  |succ i=>
   simp at h;have:=f h;cases a with
   |none=>exact this
   |some a=>exact List.mem_cons_of_mem _ this
def JM (f:(tY m).Nodup){x y:Src}(h:m[i]?=O (O x))(g:m[j]?=O (O y))(e:x.k=y.k):i=j:=by
 induction m generalizing i j with
 |nil=>simp at h
 |cons a m q=>
  cases i with
  |zero=>
   simp at h;subst h;cases j with
   |zero=>rfl
   |succ j=>
    simp at g;have n:=Bl g;simp only[tY,cB]at f;rw[e]at f;exact(f.1 n).elim
  |succ i=>
   simp at h;cases j with
   |zero=>
    simp at g;subst g;have n:=Bl h;simp only[tY,cB]at f;rw[<-e]at f;exact(f.1 n).elim
   |succ j=>
    simp at g
    have p:(tY m).Nodup:=by
     cases a with
     |none=>exact f
     |some a=>exact(List.nodup_cons.1 f).2
    rw[q p h g]
theorem Ku {os:List OSk}{x:Src}(h:m[i]?=O (O x))(f:os[i]?=O o)(g:o.ro=Zb):x.k∈lY os m:=by
 induction m generalizing os i with
 |nil=>simp at h
 |cons a m n=>
  cases os with
  |nil=>simp at f
  |cons p os=>
   cases i with
   |zero=>
    simp at h f;subst h;subst f;simp only[lY,g,zD];exact bD
   |succ i=>
    simp at h f;have:=n h f;cases a with
    |none=>exact this
    |some a=>
     simp only[lY]
     grind
def bk6 (h:b.may=Za)(g:b.dim≠Y)(f:b.frozen=Za):False:=by
 cases b with
 |dead=>exact g rfl
 |cells n z l=>simp only[Blk.may,Blk.frozen]at h f;rw[f]at h;cases h
 |arr s z l=>simp only[Blk.may,Blk.frozen]at h f;rw[f]at h;cases h
def Y9 (h:sk.noRo=Za):sk.fxRo=Za:=by
 unfold rN.noRo at h;rw[Bool.and_eq_true]at h;exact h.1
structure GT (c c' ct:Ctx)(N:Nat)(f:Nat->Nat)(fx:List Nat)(sk:rN)(st:DSt)(fs bs:List Blk):Prop where
 Z:ct.Z=c'.Z
 fb:ct.fb=c.fb
 len:hW ct.S=hW c.S+hW bs
 oth: ∀k,k<hW c.S->(∀j,j∈fx->f j≠k)->ag ct.S k=ag c.S k∨ag ct.S k=(ag c.S k).freeze∨(ag ct.S k= .dead/\(ag c.S k).frozen=Zb)
 fix: ∀(i j:Nat) (b:Blk),fx[i]?=O j->fs[i]?=O b->ag ct.S (f j)=b
 fixlt: ∀j,j∈fx->f j<hW c.S
 free: ∀(i:Nat) (b:Blk),bs[i]?=O b->ag ct.S (hW c.S+i)=b
 fN: ∀i,f (N+i)=hW c.S+i
 μo: ∀k,k<hW c.S->ct.μ k=c.μ k
 μn: ∀(i:Nat) (x:Option Src),st.m[i]?=O x->ct.μ (hW c.S+i)=DD c' x
 un: ∀b y,c.Z.m b=O y->¬c.own b->c'.Z.m b=O y
 ow: ∀b y,c.Z.m b=O y->¬c.own b->¬c'.own b
 n:c.Z.n<=c'.Z.n
 oun: ∀k,k<hW c.S->(∀j,j∈fx->f j≠k)->(ag ct.S k).dim≠Y->∀b y,c.μ k=O b->c.Z.m b=O y->c'.Z.m b=O y
 odis: ∀k,k<hW c.S->(∀j,j∈fx->f j≠k)->(ag ct.S k).dim≠Y->∀s,(s∈fx∨s∈tY st.m)->(ag c'.S s).frozen=Zb->∀b,c'.μ s=O b->c.μ k≠O b
 wr: ∀j,j∈fx->(ag c'.S j).dim≠Y->(ag c.S<|f j).dim=(ag c'.S j).dim/\c'.μ j=c.μ (f j)/\∀b y,c.μ (f j)=O b->c.Z.m b=O y->∃y',c'.Z.m b=O y'/\hW y'.cells=hW y.cells
 wrz: ∀j,j∈fx->(ag c.S<|f j).may=Za
 finj: ∀j j',j∈fx->j'∈fx->f j=f j'->j=j'
 fbk: ∀k b,(ag c'.S k).dim≠Y->c'.μ k=O b->¬c.fb b
 lk: ∀j,j<N->j∉fx->Lk c' ct (O ⟨j,Y⟩) (f j)
 onm: ∀k,k<hW c.S->(∀j,j∈fx->f j≠k)->(ag ct.S k).frozen=Zb->∀b y,c.μ k=O b->c'.Z.m b=O y->c'.mut b
 olent: ∀k,k<hW c.S->(∀j,j∈fx->f j≠k)->(ag ct.S k).frozen=Zb->∀s,s∈st.lent->(ag c'.S s).dim≠Y->∀b,c'.μ s=O b->c.μ k≠O b
 fbm: ∀b,c.fb b->c'.mut b
 fxN: ∀j,j∈fx->j<N
 noro:sk.fxRo=Za
 roz:sk.noRo=Za∨∀k,k<hW c.S->(∀j,j∈fx->f j≠k)->(ag ct.S k).dim≠Y->(ag ct.S k).frozen=Za
theorem GT.all {f:Nat->Nat}(g:GT c c' ct N f fx sk st fs bs)(hR:Rel c)(J:Rel c')(hd:nN c'.S N fx sk vals=O st)
  (he:mY f sk st.ls=O (vs,fs,bs)) (hf:F2 (VRel c') vals as):Le c ct/\Rel ct/\F2 (VRel ct) vs as:=by
 have⟨ct0,vs0,fs0,bs0,p1,p2,p3⟩:=QU (f:=f) J hd hf;rw[he]at p1;injection p1 with p1
 injection p1 with L p1
 injection p1 with M q3
 subst L;subst M;subst q3;have⟨ap1,ap2⟩:=qX hd;have hnd:=qV ap1;rw[List.nodup_append]at hnd;have⟨nd1,nd2,nd3⟩:=hnd;have⟨x1,x2,x3⟩:=p2.get;have⟨y1,y2,y3⟩:=p3.get;have hro:=g.noro;unfold rN.fxRo at hro;rw[bB]at hro
 have nro: ∀(i:Nat) (o:OSk),sk.fix[i]?=O o->o.ro=Zb:=by
  grind
 have nro2: ∀(i:Nat) (o:OSk),sk.noRo=Za->sk.free[i]?=O o->o.ro=Zb:=by
  intro i o V h;unfold rN.noRo at V
  grind
 have W: ∀j,j∈fx->∃(i:Nat) (b:Blk) (o:OSk),fx[i]?=O j/\fs[i]?=O b/\sk.fix[i]?=O o/\ag ct.S (f j)=b/\wZ c' ct0 o (O ⟨j,Y⟩) b:=by
  intro j v;have⟨i,D,e⟩:=List.mem_iff_getElem.1 v;have h1:fx[i]?=O j:=by rw[aB D,e]
  have q:i<hW fs:=by rw[<-x1];exact D
  have⟨o,r,t⟩:=x3 i j _ h1<|aB q;exact⟨i,fs[i],o,h1,aB q,r,g.fix i j _ h1<|aB q,t⟩
 have C: ∀i,i<hW bs->∃(b:Blk) (x:Option Src) (o:OSk),st.m[i]?=O x/\bs[i]?=O b/\sk.free[i]?=O o/\ag ct.S (hW c.S+i)=b/\ct.μ (hW c.S+i)=DD c' x/\wZ c' ct0 o x b:=by
  intro i D;have q:i<hW st.m:=by rw[y1];exact D
  have⟨o,r,t⟩:=y3 i _ _ (aB q)<|aB D;exact⟨bs[i],st.m[i],o,aB q,aB D,r,g.free i _<|aB D,g.μn i _<|aB q,t⟩
 have E: ∀k,(ag ct.S k).dim≠Y->(∃j,j∈fx/\f j=k)∨(k<hW c.S/\(∀j,j∈fx->f j≠k))∨(∃i,i<hW bs/\k=hW c.S+i):=by
  intro k A;have hl:=lM A;rw[g.len]at hl;by_cases h1:k<hW c.S
  .by_cases q: ∃j,j∈fx/\f j=k
   .exact .inl q
   grind
  .exact .inr (.inr ⟨k-hW c.S,V1,V1⟩)
 have H: ∀j,j∈fx->∀d,(ag ct.S<|f j).dim=O d->(ag c'.S j).dim=O d/\(ag c'.S j).frozen=Zb/\(ag c.S<|f j).dim=O d/\c'.μ j=c.μ (f j):=by
  intro j v d p;have⟨i,b,o,h1,q,r,t,w⟩:=W j v;rw[t]at p;rcases w with⟨_,w⟩|⟨w,Q,d0,h7,h8,h9⟩
  .subst w;cases p
  .simp only at h8;rw[h8]at p;cases p;have⟨w1,w2,_⟩:=g.wr j v (by rw[h7];simp)
   grind
 have found: ∀i,i<hW bs->∀d,(ag ct.S<|hW c.S+i).dim=O d->(∃x,st.m[i]?=O (O x)/\((ag ct.S<|hW c.S+i).frozen=Zb∨sk.noRo=Za->(ag c'.S x.k).frozen=Zb)/\(ag c'.S x.k).dim≠Y/\ct.μ (hW c.S+i)=c'.μ x.k)∨ct.μ (hW c.S+i)=Y:=by
  intro i D d p;have⟨b,x,o,h1,q,r,t,w,Q⟩:=C i D;rw[t]at p;rcases Q with⟨_,Q⟩|⟨Q,h7⟩
  .subst Q;cases p
  .cases x with
   |none=>exact .inr w
   |some x=>
    have⟨k,cut⟩:=x;obtain⟨h7,d2,h8,_⟩:=h7;refine .inl ⟨_,h1,λhz=>h7 ?_,by rw[h8];simp,w⟩
    grind
 have B: ∀k b,(ag ct.S k).dim≠Y->ct.μ k=O b->(k<hW c.S/\(∀j,j∈fx->f j≠k)/\c.μ k=O b)∨
   ∃s,(s∈fx∨s∈tY st.m)/\((ag ct.S k).frozen=Zb∨sk.noRo=Za->(ag c'.S s).frozen=Zb)/\(ag c'.S s).dim≠Y/\c'.μ s=O b/\((s∈fx/\k=f s)∨∃i x,st.m[i]?=O (O x)/\x.k=s/\k=hW c.S+i):=by
  intro k b A I;cases U:(ag ct.S k).dim with
  |none=>exact(A U).elim
  |some d=>
   rcases E k A with⟨j,v,rfl⟩|⟨h1,q⟩|⟨i,D,rfl⟩
   .obtain⟨h1,q,r,t⟩:=H j v d U;exact .inr ⟨j, .inl v,λ_=>q,by rw[h1];simp,by rw[t,<-g.μo _ (g.fixlt j v)];exact I, .inl ⟨v,rfl⟩⟩
   .exact .inl ⟨h1,q,by rw[<-g.μo k h1];exact I⟩
   .rcases found i D d U with⟨x,h1,q,h2',r⟩|h1
    .exact .inr ⟨x.k, .inr<|Bl h1,q,h2',by rw[<-r];exact I, .inr ⟨i,x,h1,rfl,rfl⟩⟩
    .rw[h1]at I;cases I
 have u: ∀k,k<hW c.S->(∀j,j∈fx->f j≠k)->(ag ct.S k).dim≠Y->(ag ct.S k=ag c.S k∨ag ct.S k=(ag c.S k).freeze):=by
  intro k h1 q r;rcases g.oth k h1 q with h|h|⟨h,_⟩
  .exact .inl h
  .exact .inr h
  .rw[h]at r;exact(r rfl).elim
 have X: ∀k,k<hW c.S->(∀j,j∈fx->f j≠k)->(ag ct.S k).frozen=Zb->ag ct.S k=ag c.S k:=by
  intro k h1 q r;rcases u k h1 q (mT r)with h|h
  .exact h
  .rw[h,kP]at r;cases r
 have hle:Le c ct:=by
  refine⟨by rw[g.len];exact cD _ _,λk d A p=>⟨?_,g.μo k A⟩,λk hz F=> ?_,λk d b y A p I hy=> ?_,λb y hy V=>by rw[g.Z];exact g.un b y hy V,λb y hy V=> ?_,by rw[g.Z];exact g.n,g.fb⟩
  .rcases E k eW with⟨j,v,rfl⟩|⟨h1,q⟩|⟨i,D,rfl⟩
   .exact(H j v d p).2.2.1
   .rcases u k h1 q eW with h|h
    .rw[<-h];exact p
    .rw[h,gh]at p;exact p
   .omega
  .have A:=lM F;by_cases q: ∃j,j∈fx/\f j=k
   .obtain⟨j,v,rfl⟩:=q;exact(bk6 (g.wrz j v) F hz).elim
   .rcases g.oth k A (λj v e=>q ⟨j,v,e⟩)with h|h|⟨_,h⟩
    .exact h
    .rw[h,Dp hz]
    .rw[h]at hz;cases hz
  .rw[g.Z];rcases E k eW with⟨j,v,rfl⟩|⟨h1,q⟩|⟨i,D,rfl⟩
   .obtain⟨h1,q,r,t⟩:=H j v d p;exact(g.wr j v (by rw[h1];simp)).2.2 b y I hy
   .exact⟨y,g.oun k h1 q eW b y I hy,rfl⟩
   .omega
  .rintro⟨k,h1,q⟩;rcases B k b (mT h1) q with⟨r,t,w⟩|⟨s,r,t,_,w,_⟩
   .exact V ⟨k,by rw[<-X k r t h1];exact h1,w⟩
   .exact g.ow b y hy V ⟨s,t<|.inl h1,w⟩
 have hT:Tell c' ct N f st:=by
  have hsp: ∀k b,(ag ct.S k).frozen=Zb->ct.μ k=O b->(k<hW c.S/\(∀j,j∈fx->f j≠k)/\c.μ k=O b)∨∃s,(s∈fx∨s∈lY sk.free st.m)/\(ag c'.S s).frozen=Zb/\c'.μ s=O b:=by
   intro k b h1 q;rcases B k b (mT h1) q with h|⟨s,r,t,_,w,Q⟩
   .exact .inl h
   .refine .inr ⟨s, ?_,t<|.inl h1,w⟩;rcases Q with⟨Q,_⟩|⟨i,x,Q,h7,h8⟩
    .exact .inl Q
    .refine .inr ?_
     have D:i<hW bs:=by
      grind
     have⟨b',x',o,L,M,q3,q4,q5,P⟩:=C i D;rw[<-h7];refine Ku Q q3 ?_;rcases P with⟨P,_⟩|⟨P,_⟩
     .rw[P];rfl
     .rw[<-P,<-q4,<-h8];exact h1
  refine⟨⟨g.Z,λb y hy V=> ?_⟩,λj x hl=> ?_,λs hs hsd b I=> ?_⟩
  .rintro(⟨k,h1,q⟩|h)
   .rcases hsp k b h1 q with⟨r,t,w⟩|⟨s,r,t,w⟩
    .exact V (g.onm k r t h1 b y w hy)
    .exact V (.inl ⟨s,t,w⟩)
   .rw[g.fb]at h;exact V (g.fbm b h)
  .rcases hl with⟨h1,rfl⟩|⟨h1,q⟩
   .by_cases v:j∈fx
    .refine⟨by rw[g.len];exact cK (g.fixlt j v)<|cD _ _,λd' p=> ?_⟩;have⟨L,M,q3,q4⟩:=H j v d' p;exact⟨d',L,rfl,by rw[g.μo _<|g.fixlt j v,q4],rfl⟩
    .exact g.lk j h1 v
   .rw[Bq]at q
    have D:j-N<hW bs:=by
     grind
    have hfj:f j=hW c.S+(j-N):=by rw[<-g.fN];congr 1;omega
    rw[hfj];refine⟨by rw[g.len];omega,λd' p=> ?_⟩;have⟨b,x',o,L,M,q3,q4,q5,P⟩:=C (j-N) D;rw[q]at L;cases L;rw[q4]at p;rcases P with⟨_,P⟩|⟨P,q7⟩
    .subst P;cases p
    .cases x with
     |none=>
      have⟨_,s,q8⟩:=q7;subst q8;cases p;exact⟨V2,q5⟩
     |some x=>
      have⟨k,cut⟩:=x;have⟨q8,d,q9,q10,q11⟩:=q7;refine⟨d,q9, ?_⟩;cases cut with
      |none=>
       simp only at q10;rw[q10]at p;cases p;exact⟨rfl,q5,rfl⟩
      |some n=>
       simp only at q10;rw[q10]at p;cases p;exact⟨rfl,q5,rfl⟩
  .rintro(⟨k,h1,q⟩|h)
   .rcases hsp k b h1 q with⟨r,t,w⟩|⟨s',r,t,w⟩
    .exact g.olent k r t h1 s hs hsd b I w
    .have:=J.inj s' s b t hsd w I;subst this;exact OG ap2 (cI.2 r) hs
   .rw[g.fb]at h;exact g.fbk s b hsd I h
 have⟨vs1,fs1,bs1,r1,r2,r3,r4⟩:=KZ J hT hd hf;rw[he]at r1;injection r1 with r1
 injection r1 with e1 r1
 injection r1 with e2 e3
 subst e1;subst e2;subst e3;have⟨_,_,x4⟩:=r3.get;have⟨_,_,y4⟩:=r4.get;refine⟨hle,⟨by rw[g.Z];exact J.ok,λk k' b A K I hm'=> ?_,λk=> ?_,λk b A I hb=> ?_,λb hb=> ?_⟩,r2⟩
 .rcases B k b (mT A) I with⟨h1,q,r⟩|⟨s,h1,q,_,r,t⟩
  .rcases B k' b K hm' with⟨g1,g2,g3⟩|⟨s',g1,g2,_,g3,g4⟩
   .refine hR.inj k k' b (by rw[<-X k h1 q A];exact A) ?_ r g3;rcases u k' g1 g2 K with h|h
    .rw[<-h];exact K
    .rw[h,gh]at K;exact K
   .rcases g.roz with V|hz
    .exact(g.odis k h1 q (mT A) s' g1 (g2<|.inr V) b g3 r).elim
    .rw[hz k h1 q<|mT A]at A;cases A
  .rcases B k' b K hm' with⟨g1,g2,g3⟩|⟨s',g1,_,g2,g3,g4⟩
   .exact(g.odis k' g1 g2 K s h1 (q<|.inl A) b r g3).elim
   .have:=J.inj s s' b (q<|.inl A) g2 r g3;subst this;rcases t with⟨t,w⟩|⟨i,x,t,w,Q⟩
    .rcases g4 with⟨g4,g5⟩|⟨i',x',g4,g5,g6⟩
     .rw[w,g5]
     .subst g5;exact(nd3 _ t _ (Bl g4) rfl).elim
    .rcases g4 with⟨g4,g5⟩|⟨i',x',g4,g5,g6⟩
     .subst w;exact(nd3 _ g4 _ (Bl t) rfl).elim
     .rw[Q,g6,JM nd2 t g4<|w.trans g5.symm]
 .by_cases F:(ag ct.S k).dim=Y
  .intro d p;rw[F]at p;cases p
  .rcases E k F with⟨j,v,rfl⟩|⟨h1,q⟩|⟨i,D,rfl⟩
   .obtain⟨i,b,o,L,M,q3,q4,q5⟩:=W j v;have⟨o',P,q7⟩:=x4 i j b L M;refine q7.blkRel J g.Z q4 λhb=> ?_
    cases U:(ag ct.S<|f j).dim with
    |none=>exact(F U).elim
    |some d=>
     have⟨_,_,_,q8⟩:=H j v d U;rw[g.μo _<|g.fixlt j v,<-q8];rfl
   .intro d p;have r:=u k h1 q F
    have hdc:(ag c.S k).dim=O d:=by
     rcases r with h|h
     .rw[<-h];exact p
     .rw[h,gh]at p;exact p
    have hvc:(ag ct.S k).vals=(ag c.S k).vals:=by
     rcases r with h|h
     .rw[h]
     .rw[h,Mk]
    have⟨L,M⟩:=hR.blk k d hdc;refine⟨L, ?_⟩;rcases M with⟨M,q3⟩|⟨b,y,cs,rest,M,q3,q4,q5,P,q7⟩
    .exact .inl ⟨M,(g.μo k h1).trans q3⟩
    .refine .inr ⟨b,y,cs,rest,(g.μo k h1).trans M,by rw[g.Z];exact g.oun k h1 q F b y M q3,q4,λhz=> ?_,P,by rw[hvc];exact VRel.frames hle q7⟩
     grind
   .obtain⟨b,x,o,L,M,q3,q4,q5,P⟩:=C i D;have⟨o',q7,q8⟩:=y4 i x b L M;exact q8.blkRel J g.Z q4 λ_=>q5
 .rw[g.fb]at hb;rcases B k b A I with⟨h1,q,r⟩|⟨s,h1,_,q,r,_⟩
  .refine hR.fbk k b ?_ r hb;rcases u k h1 q A with h|h
   .rw[<-h];exact A
   .rw[h,gh]at A;exact A
  .exact g.fbk s b q r hb
 .rw[g.fb]at hb;rw[g.Z];exact cK (hR.fbl b hb) g.n
end
section
open Bool renaming or_eq_false_iff->aB
open List renaming cons_append->bB,length_append->bD,mem_of_getElem?->cB,nodup_append->cD
open Nat renaming zero_add->aD
def mS {fx mov:List Nat}{fz:Bool}: ∀{S:ak} {i:Nat},hW (ke fx mov fz i S)=hW S
 |[],_=>rfl
 |_::r,i=>by simp[ke,mS (S:=r)]
def mR {fx mov:List Nat}{fz:Bool}: ∀{S:ak} {i k:Nat},k<hW S->ag (ke fx mov fz i S) k=cond (lV (i+k) mov) (cond (ag S k).frozen (ag S k) .dead) (cond (lV (i+k) fx) (ag S k)<|cond fz (ag S k).freeze<|ag S k)
 |[],_,_,h=>by simp at h
 |b::r,i,0,_=>rfl
 |b::r,i,k+1,h=>by
  have:=mR (fx:=fx) (mov:=mov) (fz:=fz) (S:=r) (i:=i+1) (k:=k) V8;rw[show i+1+k=i+(k+1)by omega]at this;exact this
theorem kq : ∀{js:List Nat} {bs:List Blk} {S S':ak},yo js bs S=O S'->hW js=hW bs/\hW S'=hW S/\(∀k,k∉js->ag S' k=ag S k)/\
  (js.Nodup->∀(i j:Nat) (b:Blk),js[i]?=O j->bs[i]?=O b->j<hW S->ag S' j=b)
 |[],[],S,S',h=>by
  cases h
  grind
 |[],_::_,S,S',h=>by cases h
 |_::_,[],S,S',h=>by cases h
 |j::js,b::bs,S,S',h=>by
  simp only[yo]at h;have⟨u,v,p,w⟩:=kq h;refine⟨by simp[u],by rw[v,GQ],λk q=> ?_,λn i A t g f r=> ?_⟩
  .rw[p k<|λe=>q<|List.mem_cons_of_mem _ e];exact aV0 (λe=>q (by rw[e];exact List.mem_cons_self))
  .rw[List.nodup_cons]at n;cases i with
   |zero=>
    simp at g f;subst g;subst f;rw[p j n.1];exact ad4 r
   |succ i=>
    simp at g f;exact w n.2 i A t g f (by rw[GQ];exact r)
def yk : ∀{l:List Blk} {i:Nat} {b:Blk},l[i]?=O b->ag l i=b
 |[],i,b,h=>by simp at h
 |a::l,0,b,h=>by simpa[ag]using h
 |a::l,i+1,b,h=>yk (l:=l) V8
structure Within (c c1:Ctx)(fx mov:List Nat):Prop where
 le:Le c c1
 fr: ∀k,k<hW c.S->k∉fx->(k∉mov∨(ag c.S k).frozen=Za)->ag c1.S k=(ag c.S k).freeze
 un: ∀k,k<hW c.S->k∉fx->(k∉mov∨(ag c.S k).frozen=Za)->(ag c.S k).dim≠Y->∀b y,c.μ k=O b->c.Z.m b=O y->c1.Z.m b=O y
theorem mF {S:ak}(h:MO S fx=Za)(f:j∈fx):j<hW S/\(ag S j).may=Za:=by
 simp only[MO,List.all_eq_true,Bool.and_eq_true]at h
 simp_all
def ll (h:k∉l):lV k l=Zb:=by
 cases f:lV k l with
 |false=>rfl
 |true=>exact(h<|lm.1 f).elim
def Jq {fz:Bool}{S:ak}(p:k<hW S)(n:k∉fx)(f:(ag (ke fx mov fz 0 S) k).dim≠Y):(k∉mov∨(ag S k).frozen=Za)/\ag (ke fx mov fz 0 S) k=cond fz (ag S k).freeze (ag S k):=by
 rw[mR p,aD,ll n]at f⊢;by_cases g:k∈mov
 .rw[lm.2 g]at f⊢;cases h:(ag S k).frozen with
  |false=>rw[h]at f;exact(f rfl).elim
  |true=>exact⟨.inr rfl,by cases fz<;>simp[Dp h]⟩
 rw[ll g];exact⟨.inl g,rfl⟩
theorem ba1 {c1:Ctx}(hR:Rel c)(J:Rel c')(hw:Within c c1 fx mov)(hR1:Rel c1)(K:Le c1 c')
  (C:MO c.S fx=Za) (hro:sk.fxRo=Za) (hd:nN c'.S (hW c.S) fx sk vals=O st) (he:mY id sk st.ls=O (vs,fs,bs)) (hf:F2 (VRel c') vals as) (hS:yo fx fs (ke fx mov Za 0 c.S)=O S'):
  ∃ct:Ctx,ct.Z=c'.Z/\ct.S=S'++bs/\ct.fb=c.fb/\(∀k,k<hW c.S->ct.μ k=c.μ k)/\Le c ct/\Rel ct/\F2 (VRel ct) vs as/\
   (∀k,k<hW c.S->k∉fx->(ag ct.S k).dim≠Y->(k∉mov∨(ag c.S k).frozen=Za)/\∀b y,c.μ k=O b->c.Z.m b=O y->ct.Z.m b=O y):=by
 have⟨s1,s2,s3,s4⟩:=kq hS;rw[mS]at s2 s4;have⟨ap1,_⟩:=qX hd;have X:=qV ap1;rw[cD]at X;have⟨nd1,_,_⟩:=X;have t:=hw.le.trans K;have Q:c'.fb=c.fb:=t.fb
 let ct:Ctx:=⟨λi=>if i<hW c.S then c.μ i else match st.m[i-hW c.S]? with
  |some x=>DD c' x
  |none=>Y,S'++bs,c'.Z,c.fb⟩
 have U: ∀k,k<hW c.S->ag ct.S k=ag S' k:=λk h=>nS (by rw[s2];exact h)
 have H: ∀k,k<hW c.S->k∉fx->ag ct.S k=ag (ke fx mov Za 0 c.S) k:=λk h q=>by rw[U k h,s3 k q]
 have p: ∀k,k<hW c.S->k∉fx->(ag ct.S k).dim≠Y->(k∉mov∨(ag c.S k).frozen=Za)/\ag ct.S k=(ag c.S k).freeze/\ag c'.S k=(ag c.S k).freeze/\c'.μ k=c.μ k/\(ag c.S k).dim≠Y:=by
  intro k h q f;rw[H k h q]at f⊢;have⟨A,v⟩:=Jq h q f;have D:=hw.fr k h q A;rw[v]at f;simp only[zC]at f v;rw[gh]at f
  have E:ag c'.S k=(ag c.S k).freeze:=by
   rw[K.fz k (by rw[D,kP]) (by rw[D,gh];exact f),D]
  refine⟨A,v,E, ?_,f⟩;cases r:(ag c.S k).dim with
  |none=>exact(f r).elim
  |some d=>exact(t.al k d h (by rw[E,gh];exact r)).2
 have I: ∀k,k<hW c.S->k∉fx->(ag ct.S k).dim≠Y->∀b y,c.μ k=O b->c.Z.m b=O y->c'.Z.m b=O y:=by
  intro k h q f b y u M;have⟨A,v,D,E,F⟩:=p k h q f;have h6:=hw.un k h q A F b y u M;have h7:=hw.fr k h q A
  have V:c1.μ k=O b:=by
   cases r:(ag c.S k).dim with
   |none=>exact(F r).elim
   |some d=>rw[(hw.le.al k d h (by rw[h7,gh];exact r)).2];exact u
  have h8: ¬c1.mut b:=hR1.fz_mut (by rw[h7,kP]) (by rw[h7,gh];exact F) V;exact K.un b y h6 λe=>h8 (.inl e)
 have g:GT c c' ct (hW c.S) id fx sk st fs bs:=by
  refine⟨rfl,rfl,by simp[ct,s2],λk h q=> ?_,λi j b hi hb=> ?_,λj B=>(mF C B).1,λi b hb=> ?_,λ_=>rfl,λk h=>zE h,λi x hx=> ?_,t.un,t.ow,t.n,λk h q f b y u M=> ?_,λk h q f s hs w b u e=> ?_,λj B f=> ?_,λj B=>(mF C B).2,
   λ_ _ _ _ e=>e,λk b f u=> ?_,λj B q=> ?_,λk h q w b y u M=> ?_,λk h q w s hs hsd b u e=> ?_,λb hb=> ?_,λj B=>(mF C B).1,hro, .inr λk h q f=>by rw[(p k h (λe=>q k e rfl) f).2.1,kP]⟩
  .have W:k∉fx:=λe=>q k e rfl
   rw[H k h W];by_cases f:(ag (ke fx mov Za 0 c.S) k).dim=Y
   .rw[mR h,aD,ll W]at f⊢;by_cases u:k∈mov
    .rw[lm.2 u]at f⊢;cases w:(ag c.S k).frozen with
     |false=>exact .inr (.inr ⟨rfl,rfl⟩)
     |true=>exact .inl rfl
    .rw[ll u];exact .inr (.inl rfl)
   grind
  .have B:=cB hi;have L:=(mF C B).1
   grind
  .show ag (S'++bs) (hW c.S+i)=b;rw[<-s2,tU];exact yk hb
  .show(if hW c.S+i<hW c.S then _ else _)=_;rw[Zh,Nat.add_sub_cancel_left,hx]
  .exact I k h (λe=>q k e rfl) f b y u M
  .obtain⟨A,v,D,E,F⟩:=p k h (λe=>q k e rfl) f;have:=J.inj s k b w (by rw[D,gh];exact F) u<|E.trans e;subst this;rw[D,kP]at w;cases w
  .have L:=(mF C B).1;cases r:(ag c'.S j).dim with
   |none=>exact(f r).elim
   |some d=>
    have⟨A,v⟩:=t.al j d L r;exact⟨A,v,λb y u M=>t.ln j d b y L r u M⟩
  .rw[<-Q];exact J.fbk k b f u
  .refine⟨by simp only[id,ct,bD,s2];omega,λd' P=> ?_⟩;have⟨A,v,D,E,F⟩:=p j B q (by rw[show id j=j from rfl]at P;rw[P];simp)
   grind
  .obtain⟨A,v,D,E,F⟩:=p k h (λe=>q k e rfl)<|mT w;rw[v,kP]at w;cases w
  .obtain⟨A,v,D,E,F⟩:=p k h (λe=>q k e rfl)<|mT w;rw[v,kP]at w;cases w
  .exact .inr (by rw[Q];exact hb)
 have⟨r1,r2,r3⟩:=g.all hR J hd he hf;exact⟨ct,rfl,rfl,rfl,λk h=>zE h,r1,r2,r3,λk h q f=>⟨(p k h q f).1,I k h q f⟩⟩
end
section
open Bool renaming or_eq_false_iff->aB
open List renaming cons_append->bB,length_append->bD,mem_of_getElem?->cB,nodup_append->cD
open Nat renaming zero_add->aD
theorem aj4 (J:Rel c)
  (u:MO c.S fx=Za) (P:sk.fxRo=Za) (Q:nN c.S (hW c.S) fx sk vals=O st) (V:mY id sk st.ls=O (vs,fs,bs)) (W:F2 (VRel c) vals as) (U:yo fx fs (ke fx (tY st.m) Za 0 c.S)=O S'):
  ∃ct:Ctx,ct.Z=c.Z/\ct.S=S'++bs/\ct.fb=c.fb/\(∀k,k<hW c.S->ct.μ k=c.μ k)/\Le c ct/\Rel ct/\F2 (VRel ct) vs as:=by
 have⟨s1,H,s3,s4⟩:=kq U;rw[mS]at H s4;have⟨M,_⟩:=qX Q;have F:=qV M;rw[cD]at F;have⟨nd1,_,_⟩:=F
 let ct:Ctx:=⟨λi=>if i<hW c.S then c.μ i else match st.m[i-hW c.S]? with
  |some x=>DD c x
  |none=>Y,S'++bs,c.Z,c.fb⟩
 have D: ∀k,k<hW c.S->ag ct.S k=ag S' k:=λk p=>nS (by rw[H];exact p)
 have w: ∀k,k<hW c.S->k∉fx->ag ct.S k=ag (ke fx (tY st.m) Za 0 c.S) k:=λk p q=>by rw[D k p,s3 k q]
 have n: ∀k,k<hW c.S->k∉fx->(ag ct.S k).dim≠Y->(k∉tY st.m∨(ag c.S k).frozen=Za)/\ag ct.S k=(ag c.S k).freeze/\(ag c.S k).dim≠Y:=by
  intro k p q f;rw[w k p q]at f⊢;have⟨C,r⟩:=Jq p q f;rw[r]at f;simp only[zC]at f r;rw[gh]at f;exact⟨C,r,f⟩
 have g:GT c c ct (hW c.S) id fx sk st fs bs:=by
  refine⟨rfl,rfl,by simp[ct,H],λk p q=> ?_,λi j b X K=> ?_,λj t=>(mF u t).1,λi b K=> ?_,λ_=>rfl,λk p=>zE p,λi x hx=> ?_,λ_ _ h _=>h,λ_ _ _ h=>h,Nat.le_refl _,λk p q f b y B L=>L,λk p q f s hs v b B e=> ?_,λj t f=>⟨rfl,rfl,λb y _ L=>⟨y,L,rfl⟩⟩,λj t=>(mF u t).2,
   λ_ _ _ _ e=>e,λk b f B=>J.fbk k b f B,λj t q=> ?_,λk p q v b y B L=> ?_,λk p q v s hs hsd b B e=> ?_,λb K=> .inr K,λj t=>(mF u t).1,P, .inr λk p q f=>by rw[(n k p (λe=>q k e rfl) f).2.1,kP]⟩
  .have E:k∉fx:=λe=>q k e rfl
   rw[w k p E];by_cases f:(ag (ke fx (tY st.m) Za 0 c.S) k).dim=Y
   .rw[mR p,aD,ll E]at f⊢
    grind
   grind
  .have t:=cB X;have hlt:=(mF u t).1
   grind
  .show ag (S'++bs) (hW c.S+i)=b;rw[<-H,tU];exact yk K
  .show(if hW c.S+i<hW c.S then _ else _)=_
   grind
  .obtain⟨C,r,I⟩:=n k p (λe=>q k e rfl) f;have:=J.inj s k b v I B e
   grind
  .refine⟨by simp only[id,ct,bD,H];omega,λd' A=> ?_⟩;have⟨C,r,I⟩:=n j t q (by rw[show id j=j from rfl]at A;rw[A];simp);rw[show id j=j from rfl,r,gh]at A
   grind
  .obtain⟨C,r,I⟩:=n k p (λe=>q k e rfl)<|mT v;rw[r,kP]at v;cases v
  .obtain⟨C,r,I⟩:=n k p (λe=>q k e rfl)<|mT v;rw[r,kP]at v;cases v
 have⟨r1,r2,r3⟩:=g.all J J Q V W;exact⟨ct,rfl,rfl,rfl,λk p=>zE p,r1,r2,r3⟩
def RS {c1:Ctx}(f:Le c c1)(t:yo fx fs (ke fx mov Za 0 c.S)=O S')(r:c1.S=S'++bs)
  (h: ∀k,k<hW c.S->k∉fx->(k∉mov∨(ag c.S k).frozen=Za)->(ag c.S k).dim≠Y->∀b y,c.μ k=O b->c.Z.m b=O y->c1.Z.m b=O y):Within c c1 fx mov:=by
 have⟨v,q,u,w⟩:=kq t;rw[mS]at q;refine⟨f,λk n p g=> ?_,h⟩;rw[r,nS (by rw[q];exact n),u k p,mR n,aD,ll p];rcases g with g|hz
 .rw[ll g];rfl
 .cases lV k mov with
  |false=>rfl
  |true=>rw[hz];simp[Dp hz]
section
variable {ctf ct:Ctx}
def VRel.thaw (t:ct.μ=ctf.μ)(w:ct.Z=ctf.Z)(r:hW ct.S=hW ctf.S)(q: ∀k,(ag ct.S k).dim=(ag ctf.S k).dim): ∀{v:VV} {a:Value},VRel ctf v a->alV v=Zb->VRel ct v a
 |_,_, .undef a,_=> .undef a
 |_,_, .bool b,_=> .bool b
 |_,_, .int k n,_=> .int k n
 |_,_, .str A,_=> .str A
 |_,_, .nilp,_=> .nilp
 |_,_, .nils,_=> .nils
 |_,_, .nilf,_=> .nilf
 |_,_, .ptr p f g,_=> .ptr ZE f λd h=>by rw[q]at h;rw[t];exact g d h
 |_,_, .it p f A g,_=> .it ZE f A λd h=>by rw[q]at h;rw[t];exact g d h
 |_,_, .bld p f g,_=> .bld ZE f λd h=>by rw[q]at h;rw[t];exact g d h
 |_,_, .pix p f C g,_=> .pix ZE f C λd h=>by rw[q]at h;rw[t];exact g d h
 |_,_, .pel p f g,_=> .pel ZE f λd h=>by rw[q]at h;rw[t];exact g d h
 |_,_, .pin _ _ _ _,h=>by cases h
 |_,_, .lstn _,h=>by cases h
 |_,_, .tgtn _,h=>by cases h
 |_,_, .tgt _ _ _ _ _,h=>by cases h
 |_,_, .lst _ _ _ _ _ _ _,h=>by cases h
 |_,_, .full p f g,_=> .full ZE f λd h=>by
  rw[q]at h;have⟨n,B,u⟩:=g d h;refine⟨n,B, ?_⟩;unfold IU at u⊢;rw[t,w];exact u
 |_,_, .part p f g,_=> .part ZE f λd h=>by
  rw[q]at h;have u:=g d h;unfold IU at u⊢;rw[t,w];exact u
 |_,_, .fn f g,h=>by
  simp only[alV,aB]at h;exact .fn (go f h.1) (go g h.2)
 |_,_, .agg f,h=>by
  simp only[alV]at h;exact .agg (go f h)
 |_,_, .tup f,h=>by
  simp only[alV]at h;exact .tup<|go f h
where
 go: ∀{l:List VV} {m:List Value},F2 (VRel ctf) l m->QI l=Zb->F2 (VRel ct) l m
  |_,_, .nil,_=> .nil
  |_,_, .cons f g,h=>by
   simp only[QI,aB]at h;exact .cons (VRel.thaw t w r q f h.1)<|go g h.2
def IS : ∀{s:Sh} (x:El s),s.al=Zb->QI (eX s x)=Zb
 | .int _,_,_=>rfl
 | .bool,_,_=>rfl
 | .str,_,_=>rfl
 | .list _,_,h=>by cases h
 | .pair a b,x,h=>by
  simp only[Sh.al,aB]at h;have f:=IS x.1 h.1;have g:=IS x.2 h.2;simp only[eX];revert f;generalize eX a x.1=l;intro f;induction l with
  |nil=>exact g
  |cons v l n=>
   simp only[QI,aB,bB]at f⊢;exact⟨f.1,n f.2⟩
def aM3 {l m:List VV}(f:QI l=Zb)(g:QI m=Zb):QI (l++m)=Zb:=by
 induction l with
 |nil=>exact g
 |cons v l h=>
  simp only[QI,aB,bB]at f⊢;exact⟨f.1,h f.2⟩
def au2 (h:alB b=Zb):QI b.vals=Zb:=by
 cases b with
 |dead=>rfl
 |cells g z l=>exact h
 |arr s z l=>
  simp only[Blk.vals];induction l with
  |nil=>rfl
  |cons x l f=>rw[gN];exact aM3 (IS x h)<|f h
theorem thaw {c:Ctx}{S2:ak}{vs:List VV}{as:List Value}(hR:Rel c)(g:Le c ctf)(r:Rel ctf)(hf:F2 (VRel ctf) vs as)(hal:QI vs=Zb)(w:hW S2=hW ctf.S)(M: ∀k,k<hW c.S->ctf.μ k=c.μ k)
  (V: ∀k,(ag S2 k=ag ctf.S k/\((ag ctf.S k).dim≠Y->((ag ctf.S k).frozen=Zb/\alB (ag ctf.S k)=Zb)∨(k<hW c.S/\ag ctf.S k=ag c.S k/\∀b y,c.μ k=O b->c.Z.m b=O y->ctf.Z.m b=O y)))∨
   (k<hW c.S/\ag S2 k=ag c.S k/\ag ctf.S k=(ag c.S k).freeze/\((ag c.S k).dim≠Y->∀b y,c.μ k=O b->c.Z.m b=O y->ctf.Z.m b=O y))):
  Le c ⟨ctf.μ,S2,ctf.Z,ctf.fb⟩/\Rel ⟨ctf.μ,S2,ctf.Z,ctf.fb⟩/\F2 (VRel ⟨ctf.μ,S2,ctf.Z,ctf.fb⟩) vs as:=by
 have H: ∀k,(ag S2 k).dim=(ag ctf.S k).dim:=by
  intro k;rcases V k with⟨h,_⟩|⟨_,q,f,_⟩
  .rw[h]
  .rw[q,f,gh]
 have C:Le c ⟨ctf.μ,S2,ctf.Z,ctf.fb⟩:=by
  refine⟨by rw[w];exact g.len,λk d I h=>g.al k d I (by rw[<-H];exact h),λk L u=> ?_,λk d b y I h=>g.ln k d b y I (by rw[<-H];exact h),g.un,λb y hy hn=> ?_,g.n,g.fb⟩
  .rcases V k with⟨h,_⟩|⟨_,q,f,_⟩
   .rw[h];exact g.fz k L u
   .exact q
  .rintro⟨k,q,f⟩;rcases V k with⟨h,_⟩|⟨A,X,h5,_⟩
   .exact g.ow b y hy hn ⟨k,by rw[<-h];exact q,f⟩
   .exact hn ⟨k,by rw[<-X];exact q,by rw[<-M k A];exact f⟩
 have hth: ∀{v:VV} {a:Value},VRel ctf v a->alV v=Zb->VRel ⟨ctf.μ,S2,ctf.Z,ctf.fb⟩ v a:=λq f=>VRel.thaw (ctf:=ctf) (ct:=⟨ctf.μ,S2,ctf.Z,ctf.fb⟩) rfl rfl w H q f
 have D: ∀{l:List VV} {m:List Value},F2 (VRel ctf) l m->QI l=Zb->F2 (VRel ⟨ctf.μ,S2,ctf.Z,ctf.fb⟩) l m:=λq f=>VRel.thaw.go (ctf:=ctf) (ct:=⟨ctf.μ,S2,ctf.Z,ctf.fb⟩) rfl rfl w H q f
 refine⟨C,⟨r.ok,λk E b L u K B=> ?_,λk=> ?_,λk b u K=>r.fbk k b (by rw[<-H];exact u) K,r.fbl⟩,D hf hal⟩
 .have U:(ag ctf.S E).dim≠Y:=by rw[<-H];exact u
  rcases V k with⟨h,_⟩|⟨A,X,h5,_⟩
  .exact r.inj k E b (by rw[<-h];exact L) U K B
  .rw[X]at L;rw[M k A]at K
   have F:(E<hW c.S/\(ag c.S E).dim≠Y)∨(ag ctf.S E).frozen=Zb:=by
    grind
   rcases F with⟨g1,g2⟩|g1
   .rw[M E g1]at B;exact hR.inj k E b L g2 K B
   .exact(r.inj E k b g1 (by rw[h5,gh];exact mT L) B (by rw[M k A];exact K)).symm
 .intro d P
  have old:k<hW c.S->ag S2 k=ag c.S k->(∀b y,c.μ k=O b->c.Z.m b=O y->ctf.Z.m b=O y)->1<=d.1/\
   ((d.2=0/\ctf.μ k=Y)∨∃b y J p,ctf.μ k=O b/\ctf.Z.m b=O y/\y.es=d.1/\((ag S2 k).frozen=Zb->y.own=Za)/\y.cells=J++p/\F2 (VRel ⟨ctf.μ,S2,ctf.Z,ctf.fb⟩) (ag S2 k).vals J):=by
   intro q f A;have⟨q1,t⟩:=hR.blk k d (by rw[<-f];exact P);refine⟨q1, ?_⟩;rcases t with⟨t,W⟩|⟨b,y,J,p,t,W,q4,q5,q6,q7⟩
   .exact .inl ⟨t,(M k q).trans W⟩
   .exact .inr ⟨b,y,J,p,(M k q).trans t,A b y t W,q4,by rw[f];exact q5,q6,by rw[f];exact VRel.frames C q7⟩
  rcases V k with⟨h,h'⟩|⟨A,X,h5,h6⟩
  .have Q:(ag ctf.S k).dim=O d:=by rw[<-H];exact P
   rcases h' (by rw[Q];simp)with⟨q,f⟩|⟨q,f,A⟩
   .obtain⟨q1,t⟩:=r.blk k d Q;refine⟨q1, ?_⟩;rcases t with t|⟨b,y,J,p,t,W,q4,q5,q6,q7⟩
    .exact .inl t
    .exact .inr ⟨b,y,J,p,t,W,q4,by rw[h];exact q5,q6,by rw[h];exact D q7<|au2 f⟩
   .exact old q (h.trans f) A
  grind
end
end
section
open List renaming getElem?_eq_getElem->aB,nodup_nil->aD,mem_cons_self->bB
def Rl : ∀{m:List<|Option Src},Rk m=Za->∀(i:Nat) (x:Option Src),m[i]?=O x->∃k,x=O ⟨k,Y⟩
 |[],_,i,x,h=>by simp at h
 |none::_,h,_,_,_=>by cases h
 |some ⟨k,O n⟩::_,h,_,_,_=>by cases h
 |some ⟨k,Y⟩::r,h,0,x,f=>by simp at f;exact⟨k,f.symm⟩
 |some ⟨k,Y⟩::r,h,i+1,x,f=>Rl (m:=r) h i x Z5
theorem K4 : ∀{os:List OSk} {i j:Nat},j∈vF os i↔∃p o,os[p]?=O o/\o.ro=Zb/\j=i+p
 |[],i,j=>by simp[vF]
 |o::os,i,j=>by
  simp only[vF];have r:= @K4 os (i+1) j;constructor
  .intro h;cases n:o.ro with
   |true=>
    rw[n,zC]at h;have⟨p,q,f,g,t⟩:=r.1 h;exact⟨p+1,q,Z5,g,V1⟩
   |false=>
    rw[n,zD]at h;rcases aw.1 h with h|h
    .exact⟨0,o,rfl,n,V1⟩
    .obtain⟨p,q,f,g,t⟩:=r.1 h;exact⟨p+1,q,Z5,g,V1⟩
  grind
theorem Q3 : ∀{os:List OSk} {m:List<|Option Src} {i:Nat} {f:Nat->Nat},hW os=hW m->(∀(p:Nat) (x:Option Src),m[p]?=O x->∃k,x=O ⟨k,Y⟩/\f (i+p)=k)->(vF os i).map f=lY os m
 |[],[],i,f,_,_=>rfl
 |[],_::_,_,_,h,_=>by simp at h
 |_::_,[],_,_,h,_=>by simp at h
 |o::os,x::m,i,f,h,g=>by
  have⟨k,n,r⟩:=g 0 x rfl;subst n
  have v:= @Q3 os m (i+1) f V8 λp y q=>by
   have⟨w,t,u⟩:=g (p+1) y eo
   grind
  simp only[vF,lY]
  grind
def G6 : ∀{os:List OSk} {m:List<|Option Src} {k:Nat},k∈lY os m->∃(i:Nat) (o:OSk) (x:Src),m[i]?=O (O x)/\os[i]?=O o/\o.ro=Zb/\x.k=k
 |[],[],k,h=>by simp[lY]at h
 |[],_::_,k,h=>by simp[lY]at h
 |_::_,[],k,h=>by simp[lY]at h
 |o::os,Y::m,k,h=>by
  have⟨i,q,x,f,g,n,p⟩:=G6 (os:=os) (m:=m) h;exact⟨i+1,q,x,Z5,ZX,n,p⟩
 |o::os,O x::m,k,h=>by
  simp only[lY]at h;cases r:o.ro with
  |true=>
   rw[r,zC]at h;have⟨i,q,t,f,g,n,p⟩:=G6 (os:=os) (m:=m) h;exact⟨i+1,q,t,Z5,ZX,n,p⟩
  |false=>
   rw[r,zD]at h;rcases aw.1 h with h|h
   .exact⟨0,o,x,rfl,rfl,r,h.symm⟩
   .obtain⟨i,q,t,f,g,n,p⟩:=G6 (os:=os) (m:=m) h;exact⟨i+1,q,t,Z5,ZX,n,p⟩
def OU : ∀{m:List<|Option Src} {k:Nat},k∈tY m->∃(i:Nat) (x:Src),m[i]?=O (O x)/\x.k=k
 |[],k,h=>by simp[tY]at h
 |none::m,k,h=>by
  have⟨i,x,f,g⟩:=OU (m:=m) h;exact⟨i+1,x,Z5,g⟩
 |some x::m,k,h=>by
  rcases aw.1 h with h|h
  .exact⟨0,x,rfl,h.symm⟩
  .obtain⟨i,n,f,g⟩:=OU (m:=m) h;exact⟨i+1,n,Z5,g⟩
def wW : ∀{os:List OSk} {m:List<|Option Src},(tY m).Nodup->(lY os m).Nodup
 |[],[],_=>aD
 |[],_::_,_=>aD
 |_::_,[],_=>aD
 |o::os,Y::m,h=>wW (os:=os) (m:=m) h
 |o::os,O x::m,h=>by
  have f:=List.nodup_cons.1 h;have g:=wW (os:=os) f.2;simp only[lY];cases o.ro with
  |true=>exact g
  |false=>
   refine List.nodup_cons.2 ⟨λn=>f.1 ?_,g⟩;have⟨i,r,t,p,_,_,q⟩:=G6 n;rw[<-q];exact Bl p
def TP {S:ak}{N:Nat}: ∀{os:List OSk} {i:Nat} {st n:DSt},vB S N os i st=O n->∀(p:Nat) (o:OSk) (x:Src),os[p]?=O o->o.ro=Za->n.m[i+p]?=O (O x)->x.k∈n.lent
 |[],i,st,n,h,p,o,x,t,_,_=>by simp at t
 |o'::os,i,st,n,h,p,o,x,t,q,u=>by
  simp only[vB]at h;split at h
  .rename_i y F;have⟨H,g,w⟩:=ai h;cases p with
   |succ p=>exact TP w p o x (by simpa using t) q (by rw[<-u];congr 1;omega)
   |zero=>
    simp at t;subst t;have⟨P,I⟩:=(JA g).m;have⟨Q,J⟩:=(qW w).m
    have B:n.m[i]?=O y:=by
     rw[<-Bq,J,I];exact JX (JX F)
    rw[Nat.add_zero,B]at u;cases u;refine(qW w).lent _ ?_;unfold Xy at g;split at g
    .cases q
    .rename_i f;cases f;split at g
     .rename_i D ro l k _ v E K M;simp only[OSk.ro]at q;subst q;cases r:(Nat.beq D v&&(Za|| !E))with
      |false=>rw[r]at g;cases g
      |true=>
       rw[r,zC]at g;exact(vC _ _ _ _ g).lent _ bB
     .cases g
    .rename_i f;cases f
    .rename_i f;cases f;rename_i ro s C _ _;simp only[OSk.ro]at q;subst q;cases r:(Za|| !(ag S _).frozen)with
     |false=>rw[r]at g;cases g
     |true=>
      rw[r,zC]at g;have⟨l,L,A⟩:=ai g;cases A;exact bB
    .cases g
  .cases h
def lh (c:Ctx)(st:DSt)(bs:List Blk):Ctx:=⟨λi=>match st.m[i]? with
 |some x=>DD c x
 |none=>Y,bs,c.Z,λb=>c.mut b/\¬∃k,(k∈tY st.m∨k∈st.lent)/\(ag c.S k).dim≠Y/\c.μ k=O b⟩
structure Entered (c c0:Ctx)(objs:List OSk)(st:DSt)(bs:List Blk):Prop where
 rel:Rel c0
 sub: ∀i,(ag c0.S i).dim≠Y->∃x,st.m[i]?=O x/\c0.μ i=DD c x/\∀y,x=O y->(ag c.S y.k).dim≠Y/\(y.cut=Y->(ag c0.S i).dim=(ag c.S y.k).dim)/\((ag c0.S i).frozen=Zb->(ag c.S y.k).frozen=Zb)
 own: ∀b,c0.own b->c.own b
 fz: ∀(i:Nat) (o:OSk),objs[i]?=O o->o.ro=Za->(ag c0.S i).frozen=Za/\(ag c0.S i).dim≠Y
 len:hW bs=hW objs/\hW st.m=hW objs
theorem enter (H:Rel c)(h0:sk.fix=[])(hd:nN c.S 0 [] sk vals=O st)(he:mY id sk st.ls=O (vs,fs,bs))(hf:F2 (VRel c) vals as):
  Entered c (lh c st bs) sk.free st bs/\F2 (VRel<|lh c st bs) vs as:=by
 have⟨ct0,vs0,fs0,bs0,P,p2,p3⟩:=QU (f:=id) H hd hf;rw[he]at P;injection P with P
 injection P with q1 P
 injection P with q2 q3
 subst q1;subst q2;subst q3;have⟨ap1,U⟩:=qX hd;have W:=qV ap1;rw[List.nil_append]at W U;have⟨y1,y2,y3⟩:=p3.get
 have K: ∀i,(ag bs i).dim≠Y->∃(x:Option Src) (o:OSk),st.m[i]?=O x/\sk.free[i]?=O o/\wZ c ct0 o x (ag bs i):=by
  intro i I;have v:=lM I;have D:=aB v;have t:i<hW st.m:=by rw[y1];exact v
  have⟨o,p,q⟩:=y3 i _ _ (aB t) D;rw[yk D]
  grind
 have w: ∀i x,st.m[i]?=O x->(lh c st bs).μ i=DD c x:=by
  intro i x hx
  show(match st.m[i]? with
   |some x=>DD c x
   |none=>Y)=_
  rw[hx]
 have J: ∀i,(ag bs i).frozen=Zb->∀b,(lh c st bs).μ i=O b->∃x,st.m[i]?=O (O x)/\(ag c.S x.k).frozen=Zb/\c.μ x.k=O b/\x.k∈lY sk.free st.m:=by
  intro i B b t;have⟨x,o,p,q,r⟩:=K i<|mT B;rw[w i x p]at t;rcases r with⟨_,r⟩|⟨r,u⟩
  .rw[r]at B;cases B
  .cases x with
   |none=>cases t
   |some x=>
    have⟨k,M⟩:=x;rw[r]at B;exact⟨_,p,u.1 B,t,Ku p q B⟩
 have L: ∀i,(ag bs i).dim≠Y->∀b,(lh c st bs).μ i=O b->∃x,st.m[i]?=O (O x)/\(ag c.S x.k).dim≠Y/\c.μ x.k=O b:=by
  intro i B b t;have⟨x,o,p,q,r⟩:=K i B;rw[w i x p]at t;rcases r with⟨_,r⟩|⟨r,u⟩
  .rw[r]at B;exact(B rfl).elim
  .cases x with
   |none=>cases t
   |some x=>
    have⟨k,M⟩:=x;have⟨_,d,A,_⟩:=u;exact⟨_,p,by rw[A];simp,t⟩
 have hT:Tell c (lh c st bs) 0 id st:=by
  refine⟨⟨rfl,λb y hy hn=> ?_⟩,λj x hl=> ?_,λs hs X b t=> ?_⟩
  .rintro(⟨i,p,q⟩|h)
   .obtain⟨x,_,r,u,_⟩:=J i p b q;exact hn (.inl ⟨x.k,r,u⟩)
   .exact hn h.1
  .rcases hl with⟨p,_⟩|⟨_,q⟩
   .omega
   .rw[Nat.sub_zero,Bq]at q
    have v:j<hW bs:=by
     grind
    refine⟨v,λd' E=> ?_⟩;have⟨x',o,p,r,u⟩:=K j (by rw[show(ag bs j).dim=O d' from E];simp);rw[q]at p;cases p;have g:(ag bs j).dim=O d':=E;rcases u with⟨_,u⟩|⟨u,A⟩
    .rw[u]at g;cases g
    .cases x with
     |none=>
      have⟨_,s,F⟩:=A;rw[F]at g;cases g;exact⟨V2,w j _ q⟩
     |some x=>
      have⟨k,M⟩:=x;have⟨_,d,F,h7,_⟩:=A;refine⟨d,F, ?_⟩;cases M with
      |none=>
       simp only at h7;rw[h7]at g;cases g;exact⟨rfl,w j _ q,rfl⟩
      |some n=>
       simp only at h7;rw[h7]at g;cases g;exact⟨rfl,w j _ q,rfl⟩
  .rintro(⟨i,p,q⟩|h)
   .obtain⟨x,_,r,u,A⟩:=J i p b q;have:=H.inj x.k s b r X u t;rw[this]at A;exact OG U A hs
   .exact h.2 ⟨s, .inr hs,X,t⟩
 have⟨vs1,fs1,bs1,Q,r2,r3,r4⟩:=KZ H hT hd hf;rw[he]at Q;injection Q with Q
 injection Q with e1 Q
 injection Q with e2 e3
 subst e1;subst e2;subst e3;have⟨_,_,y4⟩:=r4.get;refine⟨⟨⟨H.ok,λi i' b B C t hm'=> ?_,λi=> ?_,λi b C t D=> ?_,λb D=> ?_⟩,λi I=> ?_,λb D=> ?_,λi o ho hr=> ?_,⟨y2.symm,by rw[y1,y2]⟩⟩,r2⟩
 .obtain⟨x,p,q,r,_⟩:=J i B b t;have⟨x',u,A,F⟩:=L i' C b hm';exact JM W p u (H.inj _ _ b q A r F)
 .by_cases C:(ag bs i).dim=Y
  .intro d E;rw[show(ag (lh c st bs).S i).dim=Y from C]at E;cases E
  .have v:=lM C;have D:=aB v;have t:i<hW st.m:=by rw[y1];exact v
   have⟨o,p,q⟩:=y4 i _ _ (aB t) D;exact q.blkRel (ct:=lh c st bs) H rfl (yk D) λ_=>w i _ (aB t)
 .obtain⟨x',u,A,F⟩:=L i C b t;exact D.2 ⟨x'.k, .inl<|Bl u,A,F⟩
 .rcases D.1 with⟨k,p,q⟩|h
  .cases V:(ag c.S k).dim with
   |none=>exact(mT p V).elim
   |some d=>
    have⟨y,_,_,hy,_⟩:=H.block V q;exact H.ok b y hy
  .exact H.fbl b h
 .obtain⟨x,o,p,q,r⟩:=K i I;refine⟨x,p,w i x p,λy hy=> ?_⟩;subst hy;rcases r with⟨_,r⟩|⟨r,u,d,A,F,_⟩
  .rw[show ag (lh c st bs).S i=ag bs i from rfl,r]at I;exact(I rfl).elim
  .refine⟨by rw[A];simp,λhc=> ?_,λB=>u (by rw[<-r];exact B)⟩;rw[hc]at F;rw[A];exact F
 .obtain⟨i,p,q⟩:=D;have⟨x,_,r,u,_⟩:=J i p b q;exact⟨x.k,r,u⟩
 .have I:i<hW bs:=by
   grind
  have t:i<hW st.m:=by rw[y1];exact I
  have⟨o',p,q⟩:=y3 i _ _ (aB t)<|aB I;rw[ho]at p;cases p;rw[show ag (lh c st bs).S i=ag bs i from rfl,yk<|aB I];rcases q with⟨q,_⟩|⟨q,r⟩
  .subst q;cases hr
  grind
end
section
open List renaming getElem?_eq_getElem->aB
theorem Q6 : ∀{l:List Nat} {S:ak} {k:Nat},k∈l->(ag (Fa l S) k).frozen=Za
 |[],S,k,h=>by simp at h
 |a::l,S,k,h=>by
  simp only[Fa];by_cases f:k∈l
  .exact Q6 f
  .have:k=a:=by
    grind
   subst this;rcases(wM l<|kR S k (ag S k).freeze).2 k with h1|h1
   .rw[h1,Aw];split
    .exact kP
    .rename_i g;have: ¬k<hW S:=λe=>g ⟨rfl,e⟩
     rw[yl V1];rfl
   .rw[h1];exact kP
theorem am6 {c0:Ctx}{f:List OSk}{bs0:List Blk}{Sf:ak}(hR:Rel c)(h0:c0=lh c st bs0)(hE:Entered c c0 f st bs0)(w:Le c0 c')(hR':Rel c')
  (hcut:Rk st.m=Za) (hok:MO c.S (lY f st.m)=Za) (hnd:(tY st.m).Nodup) (hlent: ∀(i:Nat) (o:OSk) (x:Src),f[i]?=O o->o.ro=Za->st.m[i]?=O (O x)->x.k∈st.lent)
  (hro:sk.noRo=Za) (hd:nN c'.S (hW f) (vF f 0) sk vals=O st') (he:mY (yL st.m (hW f)<|hW c.S) sk st'.ls=O (vs,fs,bs)) (hf:F2 (VRel c') vals as) (hS:yo (lY f st.m) fs (Fa st.lent c.S)=O Sf):
  ∃ct:Ctx,ct.Z=c'.Z/\ct.S=Sf++bs/\ct.fb=c.fb/\(∀k,k<hW c.S->ct.μ k=c.μ k)/\Le c ct/\Rel ct/\F2 (VRel ct) vs as/\
   (∀k,k<hW c.S->k∉lY f st.m->(ag c.S k).dim≠Y->∀b y,c.μ k=O b->c.Z.m b=O y->ct.Z.m b=O y):=by
 have L:c0.Z=c.Z:=by rw[h0];rfl
 have J: ∀b,c0.fb b↔(c.mut b/\¬∃k,(k∈tY st.m∨k∈st.lent)/\(ag c.S k).dim≠Y/\c.μ k=O b):=by rw[h0];exact λb=>Iff.rfl
 have hS0:c0.S=bs0:=by rw[h0];rfl
 have I:c'.fb=c0.fb:=w.fb;have⟨l1,l2⟩:=hE.len;have⟨s1,s2,s3,s4⟩:=kq hS;rw[(wM st.lent c.S).1]at s2 s4;have hfz:=wM st.lent c.S
 have pos: ∀i,i<hW f->∃k,st.m[i]?=O (O ⟨k,Y⟩)/\yL st.m (hW f) (hW c.S) i=k:=by
  intro i hi;have u:i<hW st.m:=by omega
  have⟨k,q⟩:=Rl hcut i _<|aB u;have h1:st.m[i]?=O (O ⟨k,Y⟩):=by rw[aB u,q]
  refine⟨k,h1, ?_⟩;unfold yL;rw[show Nat.blt i (hW f)=Za from Nat.ble_eq_true_of_le hi,zC,Bq,h1]
 have U:(vF f 0).map (yL st.m (hW f)<|hW c.S)=lY f st.m:=by
  refine Q3 l2.symm λp x hx=> ?_
  grind
 have D: ∀j,j∈vF f 0->j<hW f/\∃o,f[j]?=O o/\o.ro=Zb:=by
  intro j B;have⟨p,o,h1,v,A⟩:=K4.1 B
  grind
 have fxw: ∀j,j∈vF f 0->yL st.m (hW f) (hW c.S) j∈lY f st.m:=λj B=>by rw[<-U];exact List.mem_map_of_mem B
 have wfx: ∀k,k∈lY f st.m->∃j,j∈vF f 0/\yL st.m (hW f) (hW c.S) j=k:=λk q=>by rw[<-U]at q;have⟨j,h1,v⟩:=List.mem_map.1 q;exact⟨j,h1,v⟩
 have F: ∀k,(∀j,j∈vF f 0->yL st.m (hW f) (hW c.S) j≠k)->k∉lY f st.m:=λk q h=>by have⟨j,h1,v⟩:=wfx k h;exact q j h1 v
 let ct:Ctx:=⟨λi=>if i<hW c.S then c.μ i else match st'.m[i-hW c.S]? with
  |some x=>DD c' x
  |none=>Y,Sf++bs,c'.Z,c.fb⟩
 have hget: ∀k,k<hW c.S->ag ct.S k=ag Sf k:=λk q=>nS (by rw[s2];exact q)
 have W: ∀k,k<hW c.S->k∉lY f st.m->ag ct.S k=ag (Fa st.lent c.S) k:=λk q t=>by rw[hget k q,s3 k t]
 have own0: ∀b,c0.own b->∃k,k∈lY f st.m/\(ag c.S k).frozen=Zb/\c.μ k=O b:=by
  rintro b ⟨i,h1,v⟩;have⟨x,A,E,H⟩:=hE.sub i<|mT h1;rw[E]at v;cases x with
  |none=>cases v
  |some x=>
   have⟨h6,_,h8⟩:=H x rfl
   have hi:i<hW f:=by
    grind
   have ho:f[i]?=O f[i]:=aB hi;refine⟨x.k,Ku A ho ?_,h8 h1,v⟩;cases hr:(f[i]).ro with
   |false=>rfl
   |true=>rw[(hE.fz i _ ho hr).1]at h1;cases h1
 have nown: ∀k,k∉lY f st.m->(ag c.S k).dim≠Y->∀b,c.μ k=O b->¬c0.own b:=by
  intro k q r b u h;have⟨P,h1,v,A⟩:=own0 b h;have:=hR.inj P k b v r A u;subst this;exact q h1
 have hun: ∀k,k<hW c.S->k∉lY f st.m->(ag c.S k).dim≠Y->∀b y,c.μ k=O b->c.Z.m b=O y->c'.Z.m b=O y:=λk _ q r b y u K=>w.un b y ZZ (nown k q r b u)
 have C: ∀k b,(ag c.S k).dim≠Y->c.μ k=O b->∃y,c.Z.m b=O y:=by
  intro k b r u;cases M:(ag c.S k).dim with
  |none=>exact(r M).elim
  |some d=>
   have⟨y,_,_,K,_⟩:=hR.block M u;exact⟨y,K⟩
 have Q: ∀k,k<hW c.S->k∉lY f st.m->(ag ct.S k).dim=(ag c.S k).dim:=λk q t=>by rw[W k q t];exact hfz.dim k
 have notin: ∀k,k<hW c.S->k∉lY f st.m->(ag ct.S k).frozen=Zb->∀b,c.μ k=O b->(ag c.S k).frozen=Zb/\¬∃P,(P∈tY st.m∨P∈st.lent)/\(ag c.S P).dim≠Y/\c.μ P=O b:=by
  intro k q t hz b u;rw[W k q t]at hz;have hz':(ag c.S k).frozen=Zb:=by rw[<-hfz.fz hz];exact hz
  refine⟨hz', ?_⟩;rintro⟨P,h1,v,A⟩;have:=hR.inj k P b hz' v u A;subst this;have hnl:k∉st.lent:=λe=>by rw[Q6 e]at hz;cases hz
  rcases h1 with h1|h1
  .obtain⟨i,x,E,H⟩:=OU h1
   have hi:i<hW f:=by
    grind
   have ho:f[i]?=O f[i]:=aB hi;cases hr:(f[i]).ro with
   |true=>exact hnl (by rw[<-H];exact hlent i _ x ho hr E)
   |false=>exact t (by rw[<-H];exact Ku E ho hr)
  .exact hnl h1
 have g:GT c c' ct (hW f) (yL st.m (hW f)<|hW c.S) (vF f 0) sk st' fs bs:=by
  refine⟨rfl,rfl,by simp[ct,s2],λk q t=> ?_,λi j b hi V=> ?_,λj B=>(mF hok<|fxw j B).1,λi b V=> ?_,λi=> ?_,λk q=>zE q,λi x hx=> ?_,λb y K t=>w.un b y ZZ λe=>t<|hE.own b e,λb y K t=>w.ow b y ZZ λe=>t<|hE.own b e,by rw[<-L];exact w.n,λk q t r b y u K=> ?_,λk q t r s hs hz b u e=> ?_,λj B r=> ?_,λj B=>(mF hok<|fxw j B).2,
   λj j' B hj' e=> ?_,λk b r u V=> ?_,λj B t=> ?_,λk q t hz b y u K=> ?_,λk q t hz s hs hsd b u e=> ?_,λb V=> ?_,λj B=>(D j B).1,Y9 hro, .inl hro⟩
  .rw[W k q<|F k t];rcases hfz.2 k with h|h
   .exact .inl h
   .exact .inr (.inl h)
  .have B:=List.mem_of_getElem? hi;have hw:=fxw j B;have hlt:=(mF hok hw).1;show ag ct.S _=b;rw[hget _ hlt];refine s4 (wW hnd) i _ b ?_ V hlt;rw[<-U,List.getElem?_map,hi];rfl
  .show ag (Sf++bs) (hW c.S+i)=b;rw[<-s2,tU];exact yk V
  .unfold yL
   have:Nat.blt (hW f+i) (hW f)=Zb:=by
    cases V:Nat.blt (hW f+i) (hW f) with
    |false=>rfl
    |true=>have:=Nat.le_of_ble_eq_true V;omega
   grind
  .show(if hW c.S+i<hW c.S then _ else _)=_;rw[Zh,Nat.add_sub_cancel_left,hx]
  .exact hun k q (F k t) (by rw[<-Q k q (F k t)];exact r) b y u K
  .have hdm':(ag c.S k).dim≠Y:=by rw[<-Q k q (F k t)];exact r
   have⟨y,K⟩:=C k b hdm' e;exact w.ow b y ZZ (nown k (F k t) hdm' b e) ⟨s,hz,u⟩
  .obtain⟨k,h1,v⟩:=pos j (D j B).1;have hj0:j<hW c0.S:=by rw[hS0,l1];exact(D j B).1
   cases M:(ag c'.S j).dim with
   |none=>exact(r M).elim
   |some d=>
    have⟨A,E⟩:=w.al j d hj0 M;have⟨x,H,h6,h7⟩:=hE.sub j (by rw[A];simp);rw[h1]at H;cases H;have⟨h8,h9,_⟩:=h7 _ rfl;rw[v];refine⟨by rw[<-h9 rfl,A],E.trans h6,λb y u K=>w.ln j d b y hj0 M (h6.trans u) ZZ⟩
  .obtain⟨k,h1,v⟩:=pos j (D j B).1;have⟨P,A,E⟩:=pos j' (D j' hj').1;rw[v,E]at e;subst e;exact JM hnd h1 A rfl
  .have h1:=hR'.fbk k b r u;rw[I,J]at h1;refine h1 ⟨.inr V, ?_⟩;rintro⟨P,_,A,E⟩;exact hR.fbk P b A E V
  .obtain⟨k,h1,v⟩:=pos j B;have ho:f[j]?=O f[j]:=aB B
   have hr:(f[j]).ro=Za:=by
    cases hr:(f[j]).ro with
    |true=>rfl
    |false=>exact(t<|K4.2 ⟨j,_,ho,hr,V1⟩).elim
   have⟨A,E⟩:=hE.fz j _ ho hr;have⟨x,H,h6,h7⟩:=hE.sub j E;rw[h1]at H;cases H;have⟨h8,h9,_⟩:=h7 _ rfl;simp only at h8 h9;have hkl:k<hW c.S:=lM h8
   have hkw:k∉lY f st.m:=by
    intro q;have⟨i,o,x,g1,g2,g3,g4⟩:=G6 q;have:=JM hnd g1 h1 g4
    grind
   have hj0:j<hW c0.S:=by rw[hS0,l1];exact B
   have X:=w.fz j A E;rw[v];refine⟨by simp only[ct,List.length_append,s2];omega,λd' hd'=> ?_⟩;rw[Q k hkl hkw]at hd';refine⟨d',by rw[X,h9 trivial];exact hd',rfl, ?_,rfl⟩;show(if k<hW c.S then c.μ k else _)=_;rw[zE hkl,(w.al j d' hj0 (by rw[X,h9 trivial];exact hd')).2,h6];rfl
  .obtain⟨h1,v⟩:=notin k q (F k t) hz b u;exact .inr (by rw[I,J];exact⟨.inl ⟨k,h1,u⟩,v⟩)
  .obtain⟨h1,v⟩:=notin k q (F k t) hz b e;have A:=hR'.fbk s b hsd u;rw[I,J]at A;exact A ⟨.inl ⟨k,h1,e⟩,v⟩
  .refine .inr ?_;rw[I,J];refine⟨.inr V, ?_⟩;rintro⟨P,_,A,E⟩;exact hR.fbk P b A E V
 have⟨r1,r2,r3⟩:=g.all hR hR' hd he hf;exact⟨ct,rfl,rfl,rfl,λk q=>zE q,r1,r2,r3,hun⟩
end
end Go.V
