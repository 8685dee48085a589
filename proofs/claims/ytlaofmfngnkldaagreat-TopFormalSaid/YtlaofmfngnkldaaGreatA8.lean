/- A part of the proof. No condition. -/
import Derived.Test.YtlaofmfngnkldaaGreatA7
set_option linter.all false
namespace Go.V
open Go.Ab
open Option renaming some->O,none->Z
open Bool renaming true->Za,false->Zb
open Decidable renaming decide->Zc
open List renaming length_eq_zero_iff->aK
open List renaming mem_cons->aA
open List renaming length->b8
open Option.some renaming injEq->aZ
open Prod.mk renaming injEq->b7
variable {i v x z:Operand}{a:Value}{s:Sh}{kd:IntKind}{op:AOp}{blk:Blk}{ok:Bool}
section
open Bool renaming and_eq_true->bB
open List renaming length_append->cB,length_take->cV,replicate->cZ,take_of_length_le->dA,length_drop->dD,length_nil->dE,replicate_succ->dF,append_assoc->dG,drop_zero->dH,flatten_cons->dI,drop_eq_nil_of_le->dN,getD_eq_getElem?_getD->dO,take_append_of_le_length->dP
open Nat renaming beq->aB,eq_of_beq_eq_true->aD,le_refl->bD,le_of_ble_eq_true->cD,add_mul->cW,eq_of_mul_eq_mul_right->cX,zero_add->cY,ble->dB,mul_le_mul_right->dC,eq_zero_or_pos->dJ,mul_one->dK,mul_pos->dL,zero_mul->dM,le_of_mul_le_mul_right->dQ,mul_div_cancel->dR,mul_le_mul_left->dS
open Option renaming getD_some->dU
section
variable {β:Type} {T:gw} {c:Ctx} {e:cn} {ea:bj} {k:VV->ah->Option β} {y:β} {d:List Nat}
def xA : ∀{z:List Value} {s:Sh},HB z=O s->F2 (VRel c) (bn s<|tQ s) z
 |[],s,h=>by simp[HB]at h
 |v::r,s,h=>by
  unfold HB at h;split at h
  .rename_i h0;injection h0 with b f
   subst b;subst f;cases h
   exact .cons (.int _ _) .nil
  .rename_i h0;injection h0 with b f
   subst b;subst f;cases h
   exact .cons (.bool _) .nil
  .rename_i h0;injection h0 with b f
   subst b;subst f;have⟨l,j,g⟩:=ag h;cases g
   exact .cons (.int _ _) (xA j)
  .rename_i h0;injection h0 with b f
   subst b;subst f;have⟨l,j,g⟩:=ag h;cases g
   exact .cons (.bool _) (xA j)
  .rename_i h0;injection h0 with b f
   subst b;subst f;cases h
   exact .cons (.lstn λz h=>by cases h) .nil
  .rename_i h0;injection h0 with b f
   subst b;subst f;have⟨l,j,g⟩:=ag h;cases g
   exact .cons (.lstn λz h=>by cases h) (xA j)
  .cases h
def rh {s:Sh}{x:El s}: ∀n,fh s (cZ n x)=(cZ n<|bn s x).flatten
 |0=>rfl
 |n+1=>by rw[dF,fO,rh n,dF,dI]
def OX (z:List Value)(m n:Nat):fp z (m+n)=fp z m++fp z n:=by
 simp only[fp];rw[<-List.replicate_append_replicate,List.flatten_append]
def OY (z:List Value)(n:Nat):b8 (fp z n)=n*b8 z:=by
 simp[fp,List.length_flatten,List.map_replicate]
theorem aA0 (g:Rel c)(E:ar c e ea){es bytes:Nat}{z:List Value}{l m:Operand}(h:af8 c.S es bytes z (ev e l) (ev e m) k=O y):bp T (.makeSlice es bytes z l m) ea c.σ<|iG c d k y:=by
 have H:=bt E l;have I:=bt E m;unfold af8 at h;split at h
 .rename_i k1 a k2 b s h1 h2 hs;rw[h1]at H;rw[h2]at I;obtain⟨F,L⟩:=am h;simp only[bB]at F;obtain⟨⟨⟨⟨p,u⟩,A⟩,B⟩,C⟩:=F;have p:=aD p;have u:=of_decide_eq_true u;have A:=of_decide_eq_true A;have B:=of_decide_eq_true B;have C:=cD C;have J:=xA (c:=c) hs;have t:z.length=s.w:=by rw[<-J.length,cu]
  have D:b<=bytes*b:=by
   have:(1:Int)*b<=bytes*b:=Int.mul_le_mul_of_nonneg_right V1 V1;omega
  refine cm (v:= .slice (O ⟨c.σ.n,0,Z⟩) a.toNat b.toNat) (σ':=c.σ.add ⟨fp z b.toNat,Za,es⟩) ?_ ?_
  .simp only[AOp.run,H.int_inv,I.int_inv]
   grind
  have j:fp z b.toNat=fp z a.toNat++fp z (b.toNat-a.toNat):=by rw[<-OX];congr 1;omega
  have o:F2 (VRel c) (fh s<|cZ a.toNat<|tQ s)<|fp z a.toNat:=by
   rw[rh];clear j;generalize a.toNat=n;induction n with
   |zero=>exact .nil
   |succ n K=>
    simp only[fp,dF,dI]at K⊢;exact J.append K
  have r:Moves c Z (O c.σ.n) (.arr s Zb<|cZ a.toNat<|tQ s)<|c.σ.add ⟨fp z b.toNat,Za,es⟩:=by
   refine⟨(λb h _ D=>by injection h with h;subst h;exact Nat.lt_irrefl _<|g.fbl _ D),(λ_ h=>by cases h),λq x f=> ?_,Nat.le_succ _,λi x f _=> ?_,(s.w,(cZ a.toNat<|tQ s).length*s.w),rfl,mX s, .inr ⟨c.σ.n,⟨fp z b.toNat,Za,es⟩,fp z a.toNat,fp z<|b.toNat-a.toNat,rfl,zE rfl,p,λ_=>rfl,j,o, .inl λw M=> ?_⟩⟩
   .simp only[Hp.add]at f⊢;split at f
    .omega
    have:=g.ok q x f;omega
   .have:=g.ok i x f;simp only[Hp.add];rw[Zh];exact f
   have:=g.ok _ _ M;omega
  refine iG.new (kill:=Z) g r (λ_ h=>by cases h) (vS (dm:=(s.w,(cZ a.toNat<|tQ s).length*s.w)) (n:=a.toNat) (m:=b.toNat) (yb:=⟨fp z b.toNat,Za,es⟩) rfl V2 V1 (zE rfl) ?_) L;rw[OY,t];exact bD _
 cases h
def More.cellsOf :More->List VV
 | .cells l=>l
 | .lst s l=>fh s l
theorem Mh {x:Ab.Blk}{o n m:Nat}(h:o+n<=b8 x.cells)(b:m<=n):oB x o m=O (((x.cells.drop o).take n).take m):=by
 unfold oB
 grind
def EY (F:Rel c){q o n es:Nat}{dm:Nat×Nat}(f:(ae c.S q).dim=O dm)(H:dm.1=es)(I:Gn c q o n dm a):
  ∃g,Cn a=O n/\(∀m,m<=n->c.σ.slice es a m=O (g.take<|m*es))/\g.length=n*es/\F2 (VRel c) (((ae c.S q).vals.drop<|o*es).take<|n*es) g:=by
 subst H;rcases I with⟨rfl,rfl,rfl,A,P⟩|⟨b,K,x,rfl,A,D,L,B,M⟩
 .refine⟨[],rfl,λm h=> ?_,V2,by simp;exact .nil⟩;have:m=0:=by omega
  subst this;simp[Hp.slice]
 .obtain⟨Q,r,C,p,_,_,u,w⟩:=F.block f A;rw[B]at p;injection p with p
  subst p;have N:=w.length
  have J:(ae c.S q).vals.length=dm.2:=by
   generalize ae c.S q=blk at f;cases blk with
   |dead=>cases f
   |cells es z l=>injection f with f;subst f;rfl
   |arr s z l=>injection f with f;subst f;exact gR
  rw[cW]at D;have E:((r.drop<|o*dm.1).take<|n*dm.1).length=n*dm.1:=by rw[cV,dD];omega
  refine⟨(r.drop<|o*dm.1).take<|n*dm.1,rfl,λm h=> ?_,E,(w.drop _).take _⟩;have t:m*dm.1<=n*dm.1:=dC _ h;by_cases j:m=0
  .subst j;simp[Hp.slice]
  simp only[Hp.slice,B,zF j];rw[Mh (n:=n*dm.1) (by rw[u,cB];omega) t,u,List.drop_append_of_le_length V1,dP (l₁:=r.drop<|o*dm.1) (by rw[dD];omega)]
theorem xz (M:Rel c){es:Nat}{v:VV}{m:More}(h:oR c.S es v=O m)(L:VRel c v a):
  ∃n j,Cn a=O n/\(∀i,i<=n->c.σ.slice es a i=O (j.take<|i*es))/\j.length=n*es/\F2 (VRel c) m.cellsOf j/\(∀s l,m= .lst s l->es=s.w/\n=l.length):=by
 cases v<;>simp only[oR]at h<;>try(cases h;done)
 case nils=>
  injection h with h;subst h
  cases L;refine⟨0,[],rfl,λi H=> ?_,V2, .nil,λs l h=>by cases h⟩;have:i=0:=by omega
  subst this;simp[Hp.slice]
 case str l=>
  cases g:aB es 1 with
  |false=>rw[g]at h;cases h
  |true=>
   rw[g]at h;have g:=aD g;subst g;injection h with h;subst h
   obtain⟨s,rfl,rfl⟩:=L.str_inv;refine⟨s.size,s.data.toList.map λb=> .int .u8 b.toNat,rfl,λi H=> ?_,V2, ?_,λI l h=> ?_⟩
   .simp only[Hp.slice,if_true,dK]
    simp_all
   .simp only[More.cellsOf,au,fh];generalize s.data.toList=l;induction l with
    |nil=>exact .nil
    |cons b l V=>exact .cons (.int _ _) V
   .injection h with t r
    subst t;cases r;exact⟨rfl,(vJ s).symm⟩
 case lst s l=>
  cases g:aB es s.w with
  |false=>rw[g]at h;cases h
  |true=>
   rw[g]at h;have g:=aD g;subst g;injection h with h;subst h
   refine⟨l.length, ?_⟩;rcases L.listAt with⟨W,rfl,rfl,P⟩|⟨b,p,X,x,rfl,t,r,D,C,B⟩
   .refine⟨[],rfl,λi H=> ?_,V2, .nil,λI l h=>by injection h with t r;subst t;cases r;exact⟨rfl,rfl⟩⟩;have:i=0:=by simp at H;exact H
    subst this;cases W with
    |none=>simp[Hp.slice]
    |some z=>
     have:=P z rfl;obtain⟨Y,zo,zs⟩:=z;simp only at this;subst this;simp[Hp.slice]
   .refine⟨(x.cells.drop p).take<|l.length*s.w,rfl,λi H=> ?_,by rw[<-B.length,gR],B,λI N h=>by injection h with t r;subst t;cases r;exact⟨rfl,rfl⟩⟩;by_cases K:i=0
    .subst K;simp[Hp.slice]
    simp only[Hp.slice,t,zF K];exact Mh C (dC _ H)
 case full q=>
  cases L with
  |full U _ J=>
   cases u:ae c.S q with
   |dead=>rw[u]at h;cases h
   |arr s z l=>
    rw[u]at h;cases g:aB es s.w with
    |false=>simp only[g]at h;cases h
    |true=>
     simp only[g]at h;have g:=aD g;subst g;injection h with h;subst h
     have f:(ae c.S q).dim=O (s.w,l.length*s.w):=by rw[u];rfl
     obtain⟨n,t,r⟩:=J _ f;have:n=l.length:=cX (mX s) t;subst this;obtain⟨j,D,C,B,A⟩:=EY M f rfl r;rw[u,dM,dH,dA (by simp[Blk.vals,gR])]at A;exact⟨_,j,D,C,B,A,λI N h=>by injection h with t r;subst t;cases r;exact⟨rfl,rfl⟩⟩
   |cells E z l=>
    rw[u]at h;cases g:(aB es E&&dB 1 es)with
    |false=>simp only[g]at h;cases h
    |true=>
     simp only[g]at h;rw[bB]at g;have F:=aD g.1;subst F;injection h with h;subst h
     have f:(ae c.S q).dim=O (es,l.length):=by rw[u];rfl
     obtain⟨n,t,r⟩:=J _ f;obtain⟨j,D,C,B,A⟩:=EY M f rfl r;simp only at t;rw[u,dM,dH,t,dA (by exact bD _)]at A;exact⟨_,j,D,C,B,A,λI N h=>by cases h⟩
 case part q o n=>
  cases L with
  |part U _ J=>
   cases u:ae c.S q with
   |dead=>rw[u]at h;cases h
   |arr s z l=>
    rw[u]at h;cases g:aB es s.w with
    |false=>simp only[g]at h;cases h
    |true=>
     simp only[g]at h;have g:=aD g;subst g;injection h with h;subst h
     have f:(ae c.S q).dim=O (s.w,l.length*s.w):=by rw[u];rfl
     have r:=J _ f;obtain⟨j,D,C,B,A⟩:=EY M f rfl r;rw[u]at A;simp only[Blk.vals]at A;rw[<-yq,<-kU]at A
     have Q:n=((l.drop o).take n).length:=by
      have:=A.length;rw[gR,B]at this;exact(cX (mX s) this).symm
     exact⟨_,j,D,C,B,A,λI N h=>by injection h with t r;subst t;cases r;exact⟨rfl,Q⟩⟩
   |cells E z l=>
    rw[u]at h;cases g:(aB es E&&dB 1 es)with
    |false=>simp only[g]at h;cases h
    |true=>
     simp only[g]at h;rw[bB]at g;have F:=aD g.1;subst F;injection h with h;subst h
     have f:(ae c.S q).dim=O (es,l.length):=by rw[u];rfl
     have r:=J _ f;obtain⟨j,D,C,B,A⟩:=EY M f rfl r;rw[u]at A;exact⟨_,j,D,C,B,A,λI N h=>by cases h⟩
def Base.cellsOf :Base->List VV
 | .none=>[]
 | .cells _ l=>l
 | .arr s l=>fh s l
structure BaseAt (c:Ctx)(es sl:Nat)(base:Base)(kill:Option Nat)(a:Value):Prop where
 no:kill=Z->a= .slice Z 0 0/\sl=0/\base= .none
 yes: ∀q,kill=O q->∃dm,(ae c.S q).dim=O dm/\dm.1=es/\(ae c.S q).frozen=Zb/\Gn c q 0 sl dm a/\base.cellsOf=(ae c.S q).vals.take (sl*es)
 es: ∀e l,base= .cells e l->e=es/\1<=es
def Cc {dm:Nat×Nat}(h:blk.dim=O dm):b8 blk.vals=dm.2:=by
 cases blk with
 |dead=>cases h
 |cells b z l=>cases h;rfl
 |arr s z l=>cases h;exact gR
def Xa {es:Nat}{v:VV}{p:Base}{kill:Option Nat}(M:Rel c)(h:At c.S es v=O (p,kill))(C:VRel c v a): ∃H,BaseAt c es H p kill a/\b8 p.cellsOf=H*es/\(∀s l,p= .arr s l->es=s.w/\H=b8 l):=by
 cases v<;>try(cases h;done)
 case nils=>
  simp only[At]at h;injection h with h
  injection h with j g
  subst j;subst g;cases C;exact⟨0,⟨λ_=>⟨rfl,rfl,rfl⟩,(λq h=>by cases h),(λe l h=>by cases h)⟩,by simp[Base.cellsOf],λs l h=>by cases h⟩
 case full q=>
  simp only[At]at h;cases C with
  |full K _ B=>
   cases o:ae c.S q with
   |dead=>rw[o]at h;cases h
   |arr s z l=>
    rw[o]at h;cases z with
    |true=>cases h
    |false=>
     simp only at h;cases m:aB es s.w with
     |false=>rw[m]at h;cases h
     |true=>
      rw[m]at h;have m:=aD m;subst m;injection h with h
      injection h with j g
      subst j;subst g;have f:(ae c.S q).dim=O (s.w,b8 l*s.w):=by rw[o];rfl
      have⟨n,j,g⟩:=B _ f;have:n=b8 l:=cX (mX s) j;subst this;refine⟨b8 l,⟨(λh=>by cases h),λE h=> ?_,(λe l h=>by cases h)⟩,gR,λF D h=>by injection h with j g;subst j;cases g;exact⟨rfl,rfl⟩⟩;cases h;refine⟨_,f,rfl,by rw[o];rfl,g, ?_⟩;rw[o];exact(dA (by rw[show(Base.arr s l).cellsOf=fh s l from rfl,gR];exact bD _)).symm
   |cells t z l=>
    rw[o]at h;cases z with
    |true=>cases h
    |false=>
     simp only at h;cases m:(aB es t&&dB 1 es)with
     |false=>rw[m]at h;cases h
     |true=>
      rw[m]at h;rw[bB]at m;have A:=aD m.1;subst A;injection h with h
      injection h with j g
      subst j;subst g;have f:(ae c.S q).dim=O (es,b8 l):=by rw[o];rfl
      have⟨n,j,g⟩:=B _ f;simp only at j;refine⟨n,⟨(λh=>by cases h),λE h=> ?_,λe l h=>by injection h with j g;exact⟨j.symm,cD m.2⟩⟩,j.symm,λF D h=>by cases h⟩;cases h;refine⟨_,f,rfl,by rw[o];rfl,g, ?_⟩;rw[o,j];exact(dA<|bD _).symm
 case part q I n=>
  cases I with
  |succ I=>cases h
  |zero=>
   simp only[At]at h;cases C with
   |part K _ B=>
    cases o:ae c.S q with
    |dead=>rw[o]at h;cases h
    |arr s z l=>
     rw[o]at h;cases z with
     |true=>cases h
     |false=>
      simp only at h;cases m:aB es s.w with
      |false=>rw[m]at h;cases h
      |true=>
       rw[m]at h;have m:=aD m;subst m;injection h with h
       injection h with j g
       subst j;subst g;have f:(ae c.S q).dim=O (s.w,b8 l*s.w):=by rw[o];rfl
       have g:=B _ f
       have L:n<=b8 l:=by
        rcases g with⟨_,_,u,_,_⟩|⟨b,J,x,_,_,u,_⟩
        .omega
        rw[cY]at u;exact dQ u (mX s)
       have r:b8 (l.take n)=n:=by rw[cV];omega
       refine⟨n,⟨(λh=>by cases h),λE h=> ?_,(λe l h=>by cases h)⟩,by simp only[Base.cellsOf];rw[gR,r],λF D h=>by injection h with j g;subst j;cases g;exact⟨rfl,r.symm⟩⟩;cases h;refine⟨_,f,rfl,by rw[o];rfl,g, ?_⟩;rw[o];exact kU
    |cells t z l=>
     rw[o]at h;cases z with
     |true=>cases h
     |false=>
      simp only at h;cases m:(aB es t&&dB 1 es)with
      |false=>rw[m]at h;cases h
      |true=>
       rw[m]at h;rw[bB]at m;have A:=aD m.1;subst A;injection h with h
       injection h with j g
       subst j;subst g;have f:(ae c.S q).dim=O (es,b8 l):=by rw[o];rfl
       have g:=B _ f
       have L:n*es<=b8 l:=by
        rcases g with⟨_,_,u,_,_⟩|⟨b,J,x,_,_,u,_⟩
        .subst u;simp
        rwa [cY]at u
       refine⟨n,⟨(λh=>by cases h),λE h=> ?_,λe l h=>by injection h with j g;exact⟨j.symm,cD m.2⟩⟩,by simp only[Base.cellsOf];rw[cV];omega,λF D h=>by cases h⟩;cases h;exact⟨_,f,rfl,by rw[o];rfl,g,by rw[o];rfl⟩
theorem an6 {vs cs:List Value}(h:b8 cs=b8 vs):lm cs 0 vs=vs:=by
 induction vs generalizing cs with
 |nil=>simp only[lm];exact aK.1 h
 |cons v vs g=>
  cases cs with
  |nil=>simp at h
  |cons a cs=>
   have b:b8 cs=b8 vs:=by simpa using h
   show lm ((a::cs).set 0 v) (0+1) vs=_;have f:=yD vs [v] cs 0
   grind
def Qo {vs cs:List Value}{p:Nat}(h:p+b8 vs<=b8 cs):lm cs p vs=cs.take p++(vs++cs.drop (p+b8 vs)):=by
 have:=Mx (vs:=vs) (cs:=cs) (p:=p) (o:=0) (w:=b8 vs) V1 h;rw[Nat.add_zero,an6 (by rw[cV,dD];omega)]at this;exact this
def Pr {σ:Hp}{x z:Ab.Blk}{b i:Nat}(h:((σ.set b Z).add x).m i=O z):i=σ.n∨(i≠b/\σ.m i=O z):=by
 by_cases j:i=σ.n
 .exact .inl j
 refine .inr ?_;have l:((σ.set b Z).add x).m i=(σ.set b Z).m i:=zF j;rw[l]at h;by_cases f:i=b
 .have g:(σ.set b Z).m i=Z:=zE f;rw[g]at h;cases h
 have g:(σ.set b Z).m i=σ.m i:=zF f;exact⟨f,g▸h⟩
def Re {σ:Hp}{x:Ab.Blk}{b i:Nat}(f:i≠σ.n)(h:i≠b):((σ.set b Z).add x).m i=σ.m i:=by
 have g:((σ.set b Z).add x).m i=(σ.set b Z).m i:=zF f;have j:(σ.set b Z).m i=σ.m i:=zF h;exact g.trans j
structure Grown (c:Ctx)(base more:List VV)(es n:Nat)(blk:Blk):Prop where
 dim:blk.dim=O (es,n*es)
 fz:blk.frozen=Zb
 rel: ∀bs ms,F2 (VRel c) base bs->F2 (VRel c) more ms->F2 (VRel c) blk.vals (bs++ms)
theorem rP {c1:Ctx}{es bytes g n:Nat}{B:Base}{kill:Option Nat}{more:List VV}{s:Operand}{all:List Value}(t:Rel c1)(hS:qF c.S c1.S)(hμ:c1.μ=c.μ)(I:c1.σ=c.σ)(hle:Le c c1)(Y:vk d c c1)
  (u:1<=es) (hb:BaseAt c es g B kill<|ea.ev s) (F: ∀q,kill=O q->(ae c1.S q).frozen=Zb)
  (A: ∀a sl' sc,ea.ev s= .slice a sl' sc->op.run ea c.σ=mP es bytes c.σ a sl' sc n all) (h3:all.length=n*es) (h4:F2 (VRel c1) more all) (h5:all.all one=Za) (w:Grown c1 B.cellsOf more es (g+n) blk)
  (hf:fS (g+n) bytes=Za) (hd: ∀q,kill=O q->q∈d) (hk:k (.full c1.S.length) (mb c1.S kill++[blk])=O y):bp T op ea c.σ<|iG c d k y:=by
 have P:(g+n)*bytes<=140737488355328/\g+n<=9223372036854775807:=by
  unfold fS at hf;rw[bB]at hf;have g1:=of_decide_eq_true hf.1;have g2:=cD hf.2;refine⟨g1, ?_⟩;have:(g+n)*1<=(g+n)*bytes:=dS _ g2;omega
 have hnew:all=[]->n=0:=by
  intro h;subst h;simp only[dE]at h3;rcases dJ n with h|h
  .exact h
  .have:=dL h u;omega
 have r: ∀{v:Value} {σ':Hp} {b1:Option Nat},Moves c1 kill b1 blk σ'->VRel ⟨pR c1 b1,mb c1.S kill++[blk],σ',c1.fb⟩ (.full c1.S.length) v->iG c d k y v σ':=by
  intro v σ' b1 hm hv;exact⟨_,_,rfl,hle.trans<|hm.le t,hm.rel t,Y.trans (hm.calm t hd) hle,hv,hk⟩
 cases kill with
 |none=>
  obtain⟨J,e2,e3⟩:=hb.no rfl;subst e2;subst e3;by_cases Q:n=0
  .subst Q;have:all=[]:=by simpa using h3
   subst this;have o:Moves c1 Z Z blk c1.σ:=⟨(λ_ h=>by cases h),(λ_ h=>by cases h),t.ok,bD _,λ_ _ h _=>h,_,w.dim,u, .inl ⟨rfl,V2⟩⟩;refine cm (v:= .slice Z 0 0) (σ':=c.σ) ?_ ?_
   .rw[A _ _ _ J];rfl
   .rw[<-I];refine r o<|.full aV rfl λd' j=> ?_;simp only[jY,if_true]at j;rw[w.dim]at j;injection j with j
    subst j;exact⟨0,V2, .inl ⟨rfl,rfl,rfl,by simp[pR],V2⟩⟩
  .have o:=Nc t (blk:=blk) (x:=⟨all,Za,es⟩) w.dim u rfl rfl (by have:=w.rel [] all .nil h4;simpa using this);refine cm (v:= .slice (O ⟨c.σ.n,0,Z⟩) n n) (σ':=c.σ.add ⟨all,Za,es⟩) ?_ ?_
   .rw[A _ _ _ J];unfold mP
    grind
   .rw[<-I];refine r o<|vS (yb:=⟨all,Za,es⟩) w.dim V2 (bD _) (zE rfl) ?_;show n*es<=all.length;omega
 |some q=>
  obtain⟨f,g1,g2,g3,g4,g5⟩:=hb.yes q rfl;subst g2;have D:(ae c1.S q).dim=O f:=by rw[hS.dim];exact g1
  have M:(ae c1.S q).vals=(ae c.S q).vals:=hS.vals q;rcases g4 with⟨J,_,e2,e3,e4⟩|⟨b,cp,yb,J,e3,e4,e5,e6,e7⟩
  .subst e2;have X:B.cellsOf=[]:=by rw[g5];simp
   by_cases Q:n=0
   .subst Q;have:all=[]:=by simpa using h3
    subst this;have o:Moves c1 (O q) Z blk c1.σ:=⟨(λ_ h=>by cases h),(λ_ h=>by injection h with h;subst h;exact F q rfl),t.ok,bD _,λ_ _ h _=>h,_,w.dim,u, .inl ⟨rfl,V2⟩⟩;refine cm (v:= .slice Z 0 0) (σ':=c.σ) ?_ ?_
    .rw[A _ _ _ J];rfl
    .rw[<-I];refine r o<|.full (by simp[xy]) rfl λd' j=> ?_;simp only[jY,if_true]at j;rw[w.dim]at j;injection j with j
     subst j;exact⟨0,V2, .inl ⟨rfl,rfl,rfl,by simp[pR],V2⟩⟩
   .have o:Moves c1 (O q) (O c1.σ.n) blk<|c1.σ.add ⟨all,Za,f.1⟩:=by
     have K:=Nc t (blk:=blk) (x:=⟨all,Za,f.1⟩) w.dim u rfl rfl (by have:=w.rel [] all (by rw[X];exact .nil) h4;simpa using this);refine⟨K.fr,(λ_ h=>by injection h with h;subst h;exact F q rfl),K.ok,K.n,λi z p _=>K.old i z p (λ⟨_,h,_⟩=>by cases h), ?_⟩;obtain⟨dd,k1,k2,k3⟩:=K.one;refine⟨dd,k1,k2, ?_⟩;rcases k3 with k3|⟨b',y',C,V,k3,k4,k5,k6,k7,k8,k9⟩
     .exact .inl k3
     .refine .inr ⟨b',y',C,V,k3,k4,k5,k6,k7,k8, .inl ?_⟩;rcases k9 with k9|⟨_,k9,_⟩
      .exact k9
      .cases k9
    refine cm (v:= .slice (O ⟨c.σ.n,0,Z⟩) n n) (σ':=c.σ.add ⟨all,Za,f.1⟩) ?_ ?_
    .rw[A _ _ _ J];unfold mP
     grind
    .rw[<-I];refine r o<|vS (yb:=⟨all,Za,f.1⟩) w.dim V2 (bD _) (zE rfl) ?_;show n*f.1<=all.length;omega
  .rw[dM]at J;rw[cY]at e4 e7;have L:c1.μ q=O b:=by rw[hμ];exact e3
   obtain⟨yb',C,V,f1,f2,f3,f4,f5⟩:=t.block D L;rw[I]at f1;rw[e6]at f1;injection f1 with f1
   subst f1;have H:=f3<|F q rfl;have hcl:C.length=f.2:=by rw[<-f5.length];exact Cc D
   have hbs:F2 (VRel c1) B.cellsOf<|C.take<|g*f.1:=by rw[g5,<-M];exact f5.take _
   have U:=w.rel _ _ hbs h4;have N:yb.cells.take (g*f.1)=C.take (g*f.1):=by rw[f4,dP V1]
   have hcp:g*f.1<=cp*f.1:=dC _ e5;by_cases l:g+n<=cp
   .have hroom':g*f.1+n*f.1<=cp*f.1:=by rw[<-cW];exact dC _ l
    have hset:lm yb.cells (g*f.1) all=C.take (g*f.1)++(all++yb.cells.drop (g*f.1+all.length)):=by rw[Qo V1,N]
    have mk: ∀σ':Hp,σ'.Ok->σ'.n=c1.σ.n->(∀i,i≠b->σ'.m i=c1.σ.m i)->σ'.m b=O ⟨lm yb.cells (g*f.1) all,Za,yb.es⟩->Moves c1 (O q) (O b) blk σ':=by
     intro σ' ho Q hm W;refine⟨(λb' h p _=>by injection h with h;subst h;exact p _ (by rw[I];exact e6)),(λ_ h=>by injection h with h;subst h;exact F q rfl),ho,V1,λi z p hK=> ?_,(f.1,(g+n)*f.1),w.dim,u, .inr ⟨b,_,C.take (g*f.1)++all,yb.cells.drop<|g*f.1+all.length,rfl,W,f2,λ_=>rfl,by show lm _ _ _=_;rw[hset,dG],U, .inr ⟨q,rfl,L⟩⟩⟩;have:i≠b:=by rintro rfl;exact hK ⟨q,rfl,L⟩
     rw[hm i this];exact p
    have E: ∀σ':Hp,σ'.m b=O ⟨lm yb.cells (g*f.1) all,Za,yb.es⟩->VRel ⟨pR c1<|O b,mb c1.S (O q)++[blk],σ',c1.fb⟩ (.full c1.S.length) (.slice (O ⟨b,0,Z⟩) (g+n) cp):=by
     intro σ' W;refine vS w.dim rfl l W ?_
     grind
    by_cases Q:all=[]
    .have hself:yb=⟨lm yb.cells (g*f.1) all,Za,yb.es⟩:=by
      subst Q;cases yb;simp only[lm]at*;simp[H]
     refine cm (v:= .slice (O ⟨b,0,Z⟩) (g+n) cp) (σ':=c.σ) ?_ ?_
     .rw[A _ _ _ J];unfold mP;rw[zE l];simp[Q]
     .rw[<-I];have e6':c1.σ.m b=O ⟨lm yb.cells (g*f.1) all,Za,yb.es⟩:=by rw[<-hself,I];exact e6
      exact r (mk c1.σ t.ok rfl (λ_ _=>rfl) e6') (E _ e6')
    .refine cm (v:= .slice (O ⟨b,0,Z⟩) (g+n) cp) (σ':=c.σ.set b<|O ⟨lm yb.cells (g*f.1) all,Za,yb.es⟩) ?_ ?_
     .rw[A _ _ _ J];unfold mP;rw[zE l];simp only[Q,if_false,e6,cY];rw[E9 H V1 h5]
     .rw[<-I];refine r (mk _ (λi z p=> ?_) rfl (λi hi=>by simp[Hp.set,hi]) aT)<|E _ aT;simp only[Hp.set]at p;split at p
      .rename_i e;subst e;exact t.ok _ _ (by rw[I];exact e6)
      .exact t.ok _ _ p
   .have o:Moves c1 (O q) (O c1.σ.n) blk<|(c1.σ.set b Z).add ⟨C.take (g*f.1)++all,Za,f.1⟩:=by
     refine⟨(λb h _ hb=>by injection h with h;subst h;exact Nat.lt_irrefl _<|t.fbl _ hb),(λ_ h=>by injection h with h;subst h;exact F q rfl),λi z p=> ?_,Nat.le_succ _,λi z p hK=> ?_,(f.1,(g+n)*f.1),w.dim,u, .inr ⟨c1.σ.n,_,C.take (g*f.1)++all,[],rfl,zE rfl,rfl,λ_=>rfl,V2,U, .inl λz p=> ?_⟩⟩
     .show i<c1.σ.n+1;rcases Pr p with K|⟨_,K⟩
      .omega
      .have:=t.ok i z K;omega
     .have K:i≠b:=by rintro rfl;exact hK ⟨q,rfl,L⟩
      have h9:=t.ok i z p;rw[Re V1 K];exact p
     .have:=t.ok _ _ p;omega
    refine cm (v:= .slice (O ⟨c.σ.n,0,Z⟩) (g+n)<|g+n) (σ':=(c.σ.set b Z).add ⟨C.take (g*f.1)++all,Za,f.1⟩) ?_ ?_
    .rw[A _ _ _ J];unfold mP;rw[zF l,zE ⟨P.1,P.2,h5⟩];simp only[e6];rw[zE ⟨H,f2⟩]
     have:oB yb 0 (g*f.1)=O (C.take<|g*f.1):=by
      unfold oB
      grind
     rw[this]
    .rw[<-I];refine r o (vS (yb:=⟨C.take (g*f.1)++all,Za,f.1⟩) w.dim rfl (bD _) (zE rfl) ?_)
     grind
def IT {S:ah}{cs:List VV}{l:List<|El s}{c1:Ctx}(b:Rel c1)(f:c1.S=S)(h:WR S s cs=O l):b8 cs=b8 l*s.w/\∀as,F2 (VRel c1) cs as->F2 (VRel c1) (fh s l) as:=by
 subst f;exact H8 (jA b s) _ _ _ h
def KW (X:Rel c)(he:ar c e ea){es bytes:Nat}{s:Operand}{mo:Option More}(hd: ∀q,zp (ev e s)=O q->q∈d)(h:J0 c.S es bytes (At c.S es<|ev e s) mo k=O y)
  (hm: ∀m,mo=O m->∃n all,(∀a sl' sc,ea.ev s= .slice a sl' sc->op.run ea c.σ=mP es bytes c.σ a sl' sc n all)/\all.length=n*es/\F2 (VRel c) m.cellsOf all/\(∀s l,m= .lst s l->es=s.w/\n=l.length)):bp T op ea c.σ<|iG c d k y:=by
 have hs:=bt he s;unfold J0 at h;cases f:At c.S es (ev e s)with
 |none=>rw[f]at h;cases h
 |some p=>
  obtain⟨U,o⟩:=p;cases mo with
  |none=>rw[f]at h;cases U<;>cases h
  |some m=>
   obtain⟨sl,P,u,hba⟩:=Xa X f hs;obtain⟨n,all,D,N,t,h5⟩:=hm m rfl
   have C: ∀q,o=O q->q∈d:=by
    intro q Y;refine hd q ?_;subst Y;cases hv:ev e s<;>rw[hv]at f<;>try(cases f;done)
    case full b=>
     simp only[At]at f;split at f
     .rename_i s' l hbb;cases A:aB es s'.w with
      |false=>rw[A]at f;cases f
      |true=>rw[A]at f;simp only[zC,aZ,b7]at f;rw[<-f.2];rfl
     .rename_i es' l hbb;cases A:(aB es es'&&dB 1 es)with
      |false=>rw[A]at f;cases f
      |true=>rw[A]at f;simp only[zC,aZ,b7]at f;rw[<-f.2];rfl
     .cases f
    case part b lo m=>
     cases lo with
     |succ lo=>cases f
     |zero=>
      simp only[At]at f;split at f
      .rename_i s' l hbb;cases A:aB es s'.w with
       |false=>rw[A]at f;cases f
       |true=>rw[A]at f;simp only[zC,aZ,b7]at f;rw[<-f.2];rfl
      .rename_i es' l hbb;cases A:(aB es es'&&dB 1 es)with
       |false=>rw[A]at f;cases f
       |true=>rw[A]at f;simp only[zC,aZ,b7]at f;rw[<-f.2];rfl
      .cases f
   have Q: ∀q,o=O q->(ae c.S q).frozen=Zb:=by
    intro q Y;obtain⟨_,_,_,h,_⟩:=P.yes q Y;exact h
   rw[f]at h;have j: ∀(c1:Ctx) (l:List VV),F2 (VRel c1) l all->nX l=Za->all.all one=Za:=λc1 l h1 h2=>kj h1 h2
   cases U with
   |arr s' l=>
    obtain⟨g1,I⟩:=hba s' l rfl;subst g1;cases m with
    |lst s2 l'=>
     simp only at h;obtain⟨l2,k1,k2⟩:=ag h;obtain⟨ee,k3⟩:=kL k1;cases ee;subst k3;obtain⟨r,M⟩:=am k2;obtain⟨_,E⟩:=h5 _ _ rfl;refine rP X (qF.refl _) rfl rfl (Le.refl c) (vk.refl d c) (mX _) P Q D N t (j c _ t<|rT _ _) ⟨?_,rfl,λbs ms F H=> ?_⟩ (by rw[I,E];exact r) C M
     .simp only[Blk.dim,cB,I,E]
     .simp only[Blk.vals];rw[xx];exact F.append H
    |cells B=>
     simp only at h;split at h
     .rename_i s3 l3 hkk;obtain⟨l2,k1,k2⟩:=ag h;obtain⟨r,M⟩:=am k2;have g:=Ck c.S B;have K:Rel ⟨c.μ,C0 c.S B,c.σ,c.fb⟩:=g.rel X;obtain⟨E,k7⟩:=IT K rfl k1;have J:F2 (VRel ⟨c.μ,C0 c.S B,c.σ,c.fb⟩) B all:=VRel.frames g.le t
      have k8:n=l2.length:=by
       have:=t.length;simp only[More.cellsOf]at this;rw[E,N]at this;exact(cX (mX _) this).symm
      have L: ∀q,o=O q->(ae (C0 c.S B) q).frozen=Zb:=by
       intro q Y;subst Y;simp only[dU]at hkk;rw[hkk];rfl
      refine rP (c1:=⟨c.μ,C0 c.S B,c.σ,c.fb⟩) K g rfl rfl g.le (g.calm d) (mX _) P L D N J (j _ _ (k7 _ J)<|rT _ _) ⟨?_,rfl,λbs ms F H=> ?_⟩ (by rw[I,k8];exact r) C M
      .simp only[Blk.dim,cB,I,k8]
      .simp only[Blk.vals];rw[xx];exact F.append (k7 _ H)
     .cases h
   |cells W l=>
    obtain⟨g1,I⟩:=P.es _ _ rfl;subst g1;cases m with
    |lst s2 l'=>
     simp only at h;obtain⟨w1,w2⟩:=h5 _ _ rfl;subst w1;split at h
     .rename_i s3 l3 hkk;obtain⟨l1,k1,k2⟩:=ag h;obtain⟨r,M⟩:=am k2;have g:=Ck c.S l;have K:Rel ⟨c.μ,C0 c.S l,c.σ,c.fb⟩:=g.rel X;obtain⟨E,k7⟩:=IT K rfl k1;have J:F2 (VRel ⟨c.μ,C0 c.S l,c.σ,c.fb⟩) (fh s2 l') all:=VRel.frames g.le t
      have k8:sl=l1.length:=by
       simp only[Base.cellsOf]at u;rw[E]at u;exact(cX (mX _) u).symm
      have L: ∀q,o=O q->(ae (C0 c.S l) q).frozen=Zb:=by
       intro q Y;subst Y;simp only[dU]at hkk;rw[hkk];rfl
      refine rP (c1:=⟨c.μ,C0 c.S l,c.σ,c.fb⟩) K g rfl rfl g.le (g.calm d) (mX _) P L D N J (j _ _ J<|rT _ _) ⟨?_,rfl,λbs ms F H=> ?_⟩ (by rw[w2,k8];exact r) C M
      .simp only[Blk.dim,cB,w2,k8]
      .simp only[Blk.vals];rw[xx];exact(k7 _ F).append H
     .cases h
    |cells B=>
     simp only at h;obtain⟨r,M⟩:=am h;rw[bB]at r;simp only[Base.cellsOf]at u;simp only[More.cellsOf]at t;have E:B.length=n*W:=by rw[t.length];exact N
     refine rP (blk:= .cells W Zb<|l++B) X (qF.refl _) rfl rfl (Le.refl c) (vk.refl d c) I P Q D N t (j c _ t r.2) ⟨?_,rfl,λbs ms F H=>F2.append (l:=l) F H⟩ ?_ C M
     .simp only[Blk.dim,cB,u,E,cW]
     .have:(l.length+B.length) / W=sl+n:=by rw[u,E,<-cW,dR _ I]
      rw[<-this];exact r.1
   |none=>
    have hsl:o=Z->sl=0:=λA=>(P.no A).2.1
    have V: ∀(q:Nat),1<=es->sl=0:=by
     intro _ A;simp only[Base.cellsOf,dE]at u;rcases dJ sl with h|h
     .exact h
     .have:=dL h A;omega
    cases m with
    |lst s2 l'=>
     simp only at h;obtain⟨w1,w2⟩:=h5 _ _ rfl;subst w1;have hz:=V 0<|mX _;subst hz;obtain⟨r,M⟩:=am h;refine rP X (qF.refl _) rfl rfl (Le.refl c) (vk.refl d c) (mX _) P Q D N t (j c _ t<|rT _ _) ⟨?_,rfl,λbs ms F H=> ?_⟩ (by rw[w2];exact r) C M
     .simp only[Blk.dim,cB,w2,dE]
     .cases F;exact H
    |cells B=>
     simp only at h;obtain⟨r,M⟩:=am h;rw[bB,bB]at r;have I:=cD r.1.2;have hz:=V 0 I;subst hz;simp only[More.cellsOf]at t;have E:B.length=n*es:=by rw[t.length];exact N
     refine rP (blk:= .cells es Zb B) X (qF.refl _) rfl rfl (Le.refl c) (vk.refl d c) I P Q D N t (j c _ t r.2) ⟨?_,rfl,λbs ms F H=>by cases F;exact H⟩ ?_ C M
     .simp only[Blk.dim,E,cY]
     .have:B.length / es=0+n:=by rw[E,dR _ I,cY]
      rw[<-this];exact r.1.1
theorem Yq {l:List<|El s}{bytes n:Nat}{all:List Value}(F:VRel c (.tgt s l) a)(J:b8 all=n*s.w)(I:1<=n)(B:all.all one=Za)(g:fS (b8 l+n) bytes=Za):
  ∃p q old,a= .slice p (b8 l) q/\F2 (VRel c) (fh s l) old/\mP s.w bytes c.σ p (b8 l) q n all=O (.slice (O ⟨c.σ.n,0,Z⟩) (b8 l+n)<|b8 l+n,c.σ.add ⟨old++all,Za,s.w⟩):=by
 have f:(b8 l+n)*bytes<=140737488355328/\b8 l+n<=9223372036854775807:=by
  unfold fS at g;rw[bB]at g;have t:=of_decide_eq_true g.1;have u:=cD g.2;refine⟨t, ?_⟩;have:(b8 l+n)*1<=(b8 l+n)*bytes:=dS _ u;omega
 cases F with
 |tgtn E=>
  simp only[dE,cY]at f⊢;rcases E with rfl|⟨b,o,rfl⟩
  .refine⟨Z,0,[],rfl, .nil, ?_⟩;unfold mP
   grind
  .refine⟨_,0,[],rfl, .nil, ?_⟩;unfold mP
   grind
 |tgt K H C A j=>
  rename_i b p r;by_cases m:l=[]
  .subst m;simp only[dE,cY]at f⊢;refine⟨_,0,[],rfl, .nil, ?_⟩;unfold mP
   grind
  .have D:(b8 l)≠0:=λh=>m (List.eq_nil_of_length_eq_zero h)
   refine⟨_,_,_,rfl,j, ?_⟩;unfold mP;rw[Zh,zE ⟨f.1,f.2,B⟩];simp only[D,if_false,H,C,if_true]
   have:oB r p (b8 l*s.w)=O ((r.cells.drop p).take<|b8 l*s.w):=by
    unfold oB;rw[zE A]
   rw[this]
def MF {c1:Ctx}{bytes n:Nat}{l j:List<|El s}{H:Operand}{all:List Value}(t:Rel c1)(F:c1.σ=c.σ)(m:Le c c1)(f:vk d c c1)
  (P:VRel c1 (.tgt s l)<|ea.ev H) (u: ∀a r A,ea.ev H= .slice a r A->op.run ea c.σ=mP s.w bytes c.σ a r A n all) (D:all.length=n*s.w) (M:F2 (VRel c1) (fh s j) all) (N:all.all one=Za) (E:n=j.length) (L:1<=n)
  (h:grow c1.S bytes s Z l j k=O y):bp T op ea c.σ<|iG c d k y:=by
 unfold grow at h;obtain⟨C,K⟩:=am h;rw[<-E]at C;obtain⟨p,A,b,I,B,J⟩:=Yq P D L N C;have o:F2 (VRel c1) (fh s<|l++j)<|b++all:=by rw[xx];exact B.append M
 have g:=Nc t (blk:= .arr s Zb<|l++j) (x:=⟨b++all,Za,s.w⟩) (d:=(s.w,(l++j).length*s.w)) rfl (mX s) rfl rfl o;refine cm (v:= .slice (O ⟨c.σ.n,0,Z⟩) (l.length+n)<|l.length+n) (σ':=c.σ.add ⟨b++all,Za,s.w⟩) ?_ ?_
 .rw[u _ _ _ I,<-F,J]
 .rw[<-F];refine⟨_,_,rfl,m.trans<|g.le t,g.rel t,f.trans (g.calm t (λq h=>by cases h)) m, ?_,K⟩;refine vS (yb:=⟨b++all,Za,s.w⟩) (dm:=(s.w,(l++j).length*s.w)) rfl (by simp[E]) (bD _) (zE rfl) ?_;show(l.length+n)*s.w<=(b++all).length;rw[cB,<-B.length,gR,D,cW];exact bD _
def ap0 (K:Rel c)(V:ar c e ea){es bytes:Nat}{l:List<|El s}{H:Operand}{F:Option More}(X:ev e H= .tgt s l)(h:U9 c.S es bytes s l F k=O y)
  (W: ∀m,F=O m->∃n b,(∀a r P,ea.ev H= .slice a r P->op.run ea c.σ=mP es bytes c.σ a r P n b)/\b.length=n*es/\F2 (VRel c) m.cellsOf b/\(∀s l,m= .lst s l->es=s.w/\n=l.length)):bp T op ea c.σ<|iG c d k y:=by
 have B:=bt V H;rw[X]at B;unfold U9 at h;cases F with
 |none=>cases h
 |some m=>
  obtain⟨n,b,q,A,t,U⟩:=W m rfl;cases m with
  |lst s' l'=>
   simp only at h;obtain⟨N,C,D⟩:=ag h;obtain⟨Q,Y⟩:=kL C;cases Q;subst Y;obtain⟨g,E⟩:=am D;rw[bB]at g;have I:=aD g.1;have J:=cD g.2;subst I;obtain⟨_,u⟩:=U _ _ rfl;exact MF K rfl (Le.refl c) (vk.refl d c) B q A t (kj t<|rT _ _) u (by rw[u];exact J) E
  |cells j=>
   simp only at h;obtain⟨N,C,D⟩:=ag h;obtain⟨g,E⟩:=am D;rw[bB]at g;have I:=aD g.1;have J:=cD g.2;subst I;have f:=Ck c.S j;have p:Rel ⟨c.μ,C0 c.S j,c.σ,c.fb⟩:=f.rel K;obtain⟨u,L⟩:=IT p rfl C;have o:F2 (VRel ⟨c.μ,C0 c.S j,c.σ,c.fb⟩) j b:=VRel.frames f.le t
   have M:n=N.length:=by
    have:=t.length;simp only[More.cellsOf]at this;rw[u,A]at this;exact(cX (mX _) this).symm
   exact MF (c1:=⟨c.μ,C0 c.S j,c.σ,c.fb⟩) p rfl f.le (f.calm d) (B.frame f.le) q A (L _ o) (kj (L _ o)<|rT _ _) M (by rw[M];exact J) E
def Tn (o:Rel c){v:VV}{S1:ah}{l:List<|El s}(h:ME c.S v=O (S1, .arr s l))(n:VRel c v a):qF c.S S1/\VRel ⟨c.μ,S1,c.σ,c.fb⟩ (.lst s l) a:=by
 unfold ME at h;split at h
 .simp only[aZ,b7,Base.arr.injEq]at h;obtain⟨j,rfl,b⟩:=h;have b:=eq_of_heq b;subst j;subst b;exact⟨qF.refl _,n⟩
 .rename_i q;split at h
  .rename_i s' z l' hb;simp only[aZ,b7,Base.arr.injEq]at h;obtain⟨j,rfl,b⟩:=h;have b:=eq_of_heq b;subst j;subst b;have f:qF c.S<|gJ c.S q (ae c.S q).freeze:=qF.put;refine⟨f, ?_⟩;have g:=f.rel o;have p:q<b8 c.S:=kG (by rw[hb];simp[Blk.dim]);have m:ae (gJ c.S q (ae c.S q).freeze) q= .arr s' Za l':=by rw[WK p,hb];rfl
   refine LR g (jA g s') (v:= .full q) ?_ (n.frame f.le);show cond (ae (gJ c.S q (ae c.S q).freeze) q).frozen _ _=_;rw[m];simp only[Blk.frozen,zC,D6,m,xg,kJ]
  cases h
 cases h
def au3 (g:Rel c)(j:ar c e ea)(l:ev e x= .nils)(h:k (.int .i64 0) c.S=O y):bp T (.capN x) ea c.σ<|iG c d k y:=by
 have b:=bt j x;rw[l]at b;have f:ea.ev x= .slice Z 0 0:=by generalize ea.ev x=q at b;cases b;rfl
 refine cm (v:= .int .i64 0) (σ':=c.σ) ?_ (iG.same g (.int _ _) h);simp only[AOp.run,f]
def Yi (N:Rel c)(Q:ar c e ea){m:Bool}{F K:Operand}(h:Qr m c.S (ev e x) (ev e F) (ev e K) k=O y):bp T (.sliceX m x F K) ea c.σ<|iG c d k y:=by
 have B:=bt Q x;have I:=bt Q F;have J:=bt Q K;unfold Qr at h;split at h
 .rename_i kh zh km zm eh em;rw[eh]at I;rw[em]at J;have q1:ea.ev F= .int kh zh:=I.int_inv;have q2:ea.ev K= .int km zm:=J.int_inv;have⟨M,g⟩:=am h;clear h;have M:=of_decide_eq_true M;subst M;have h:=g;clear g
  have run: ∀(p:Option Addr) (n C:Nat) (r:Value),ea.ev x= .slice p n C->0<=zh->zh<=C->(match p with
    |none=>O (Value.slice Z 0 0,c.σ)
    |some ⟨b,o,Z⟩=>O (.slice (O ⟨b,o,cond m (O 0) Z⟩) zh.toNat zh.toNat,c.σ)
    |_=>Z)=O (r,c.σ)->(AOp.sliceX m x F K).run ea c.σ=O (r,c.σ):=by
   intro p n C r hp U g hr;have b1:pj C 0 (O<|.int km zh)=O zh.toNat:=zE ⟨U,g⟩;have b2:pj zh.toNat 0 (O<|.int kh zh)=O zh.toNat:=zE ⟨U,V1⟩;simp only[AOp.run,hp,q1,q2,b1,b2,if_true];exact hr
  split at h
  .rename_i hx;rw[hx]at B;have⟨D,g⟩:=am h;clear h;have h:=g;clear g;have D:=of_decide_eq_true D;subst D;have e1:ea.ev x= .slice Z 0 0:=by generalize ea.ev x=q at B;cases B;rfl
   exact cm (run _ _ _ (.slice Z 0 0) e1 V2 V2 rfl) (iG.same N .nils h)
  split at h
  .rename_i S1 s l hsrc;have⟨D,g⟩:=am h;clear h;have h:=g;clear g;have⟨c1,c2,c3⟩:=uw D;have⟨t,L⟩:=Tn N hsrc B;have P:=t.rel N;have u: ∀v:Value,VRel ⟨c.μ,S1,c.σ,c.fb⟩ (cond m (.tgt s<|l.take zh.toNat)<|.lst s<|l.take zh.toNat) v->iG c d k y v c.σ:=λv B=>⟨_,⟨c.μ,S1,c.σ,c.fb⟩,rfl,t.le,P,t.calm d,B,h⟩
   cases j:ea.ev x with
   |slice p n C=>
    rw[j]at L;cases L with
    |lstn hq=>
     have z0:zh=0:=by simp at c3;omega
     subst z0;cases p with
     |none=>exact cm (run _ _ _ (.slice Z 0 0) j V2 V2 rfl) (u _ (by cases m;exact .lstn (by intro z h;cases h);exact .tgtn<|.inl rfl))
     |some A=>
      have⟨b,o,sp⟩:=A;have:sp=Z:=hq _ rfl;subst this;exact cm (run _ _ _ (.slice (O ⟨b,o,cond m (O 0) Z⟩) 0 0) j V2 V2 rfl) (u _ (by cases m;exact .lstn (by intro z h;cases h;rfl);exact .tgtn<|.inr ⟨_,_,rfl⟩))
    |lst X Y E g h2 h3 hf=>
     rename_i b o yb;refine cm (run _ _ _ (.slice (O ⟨b,o,cond m (O 0) Z⟩) zh.toNat zh.toNat) j c2 V1 rfl)<|u _ ?_;have f:b8 (l.take zh.toNat)=zh.toNat:=by rw[cV];omega
     have H:zh.toNat*s.w<=n*s.w:=dC _ V1
     have V:F2 (VRel ⟨c.μ,S1,c.σ,c.fb⟩) (fh s<|l.take zh.toNat)<|(yb.cells.drop o).take<|zh.toNat*s.w:=by
      rw[kU];have W:=hf.take<|zh.toNat*s.w;rw[List.take_take,Nat.min_eq_left H]at W;exact W
     cases m with
     |true=>
      have:=VRel.tgt (c:=⟨c.μ,S1,c.σ,c.fb⟩) (l:=l.take zh.toNat) X Y E (p:=o) (by rw[f];omega) (by rw[f];exact V);rw[f]at this;exact this
     |false=>exact .lst X Y E f.symm (bD _) V1 V
   |_=>rw[j]at L;cases L
  cases h
 cases h
def TR (p:Rel c)(r:ar c e ea){es bytes:Nat}{s:Operand}(D: ∀q,zp (ev e s)=O q->q∈d)(h:KX c.S es bytes (ev e s) (ev e x) k=O y)(g:Py c.S es bytes (ev e s) (ev e x) k=O y->bp T (.append es bytes s x) ea c.σ (iG c d k y)):bp T (.append es bytes s x) ea c.σ<|iG c d k y:=by
 unfold KX at h;split at h
 .rename_i s' l o;refine ap0 p r o h λm j=> ?_
  have⟨n,f,t,u,w,A,B⟩:=xz p j<|bt r x;have b:=u n<|bD _;rw[dA V1]at b;refine⟨n,f,λa C E o=> ?_,w,A,B⟩;simp only[AOp.run,o,t,b]
 exact g h
def W6 (j:Rel c)(l:ar c e ea){es bytes:Nat}{s:Operand}(w: ∀q,zp (ev e s)=O q->q∈d)(h:Py c.S es bytes (ev e s) (ev e x) k=O y):bp T (.append es bytes s x) ea c.σ<|iG c d k y:=by
 refine KW j l w h λm g=> ?_
 have⟨n,f,o,p,r,t,u⟩:=xz j g<|bt l x;have b:=p n<|bD _;rw[dA V1]at b;refine⟨n,f,λa B C A=> ?_,r,t,u⟩;simp only[AOp.run,A,o,b]
theorem TT (D:Rel c)(g:ar c e ea){es bytes:Nat}{z:List Value}{s:Operand}(E: ∀q,zp (ev e s)=O q->q∈d)(h:KY c.S es bytes z (ev e s) (ev e x) k=O y):bp T (.appendZ es bytes z s x) ea c.σ<|iG c d k y:=by
 have r:=bt g x;unfold KY at h;split at h
 .rename_i kd l hl;rw[hl]at r;obtain⟨f,h⟩:=am h;unfold jO at f;rw[bB,bB]at f;have A:=of_decide_eq_true f.1;have B:=of_decide_eq_true f.2.1;have C:=of_decide_eq_true f.2.2;refine KW D g E h λm b=> ?_
  unfold Tv at b;split at b
  .rename_i sh hs;cases j:aB es sh.w with
   |false=>rw[j]at b;cases b
   |true=>
    rw[j]at b;simp only[zC,aZ]at b;subst b;have g:=aD j;subst g;have t:=xA (c:=c) hs;have p:z.length=sh.w:=by rw[<-t.length,cu]
    refine⟨l.toNat,fp z l.toNat,λa F K o=> ?_,by rw[xq,p], ?_,λJ I H=> ?_⟩
    .simp only[AOp.run,o,r.int_inv];rw[zE ⟨A,B,C⟩]
    .show F2 (VRel c) (fh sh<|cZ l.toNat<|tQ sh) (fp z l.toNat);rw[rh];generalize l.toNat=n;induction n with
     |zero=>exact .nil
     |succ n u=>
      simp only[fp,dF,dI]at u⊢;exact t.append u
    grind
  cases b
 cases h
def Yl {S:ah}{q:Nat}:gJ S q (ae S q)=S:=by
 induction S generalizing q with
 |nil=>rfl
 |cons a r b=>
  cases q with
  |zero=>rfl
  |succ q=>simp only[gJ,ae,b]
theorem an8 {σ:Hp}{b:Nat}{x:Ab.Blk}(h:σ.m b=O x):σ.set b (O x)=σ:=by
 have:(λi=>if i=b then O x else σ.m i)=σ.m:=by
  grind
 show Hp.mk _ _=_;rw[this]
def aa4 {es n m b o q:Nat}{all:List Value}{f:Ab.Blk}(u:ea.ev x= .slice (O ⟨b,o,Z⟩) n q)(r:Cn (ea.ev z)=O m)(t:c.σ.slice es (ea.ev z) (min m n)=O all)(p:c.σ.m b=O f)
  (g:f.own=Za) (h:o+b8 all<=b8 f.cells) (j:all.all one=Za):(AOp.copy es x z).run ea c.σ=O (.int .i64 (min m n:Nat),c.σ.set b<|O ⟨lm f.cells o all,Za,f.es⟩):=by
 simp only[AOp.run,u,r,t];by_cases l:all=[]
 .rw[zE l];subst l;have:(⟨lm f.cells o [],Za,f.es⟩:Ab.Blk)=f:=by cases f;simp only[lm]at*;simp[g]
  rw[this,an8 p]
 .rw[zF l,p];simp only[E9 g h j]
def NR (h:Rel c){es q o n m:Nat}{dm:Nat×Nat}{all:List Value}(f:(ae c.S q).dim=O dm)(D:dm.1=es)(N:(ae c.S q).frozen=Zb)(hs:Gn c q o n dm<|ea.ev x)
  (K:Cn (ea.ev z)=O m) (L:c.σ.slice es (ea.ev z) (min m n)=O all) (M:all.length=min m n*es) (V:all.all one=Za) (W:q∈d) (B:blk.dim=O dm) (C:blk.frozen=Zb) (l:dm.2=0->blk=ae c.S q)
  (p: ∀cs,F2 (VRel c) (ae c.S q).vals cs->F2 (VRel c) blk.vals (lm cs (o*es) all)) (E:k (.int .i64 (min m n:Nat)) (gJ c.S q blk)=O y):bp T (.copy es x z) ea c.σ<|iG c d k y:=by
 subst D;rcases hs with⟨A,t,H,P,g⟩|⟨b,cp,w,A,t,H,P,g,e6⟩
 .subst t;subst H;have:all=[]:=by simpa using M
  subst this;refine cm (v:= .int .i64 (min m 0:Nat)) (σ':=c.σ) ?_ (iG.same h (.int _ _) ?_)
  .simp only[AOp.run,A,K,L];simp
  .rw[l g,Yl]at E;exact E
 .obtain⟨y0,cs,r,u,Q,U,I,J⟩:=h.block f t;rw[g]at u;injection u with u
  subst u;have X:=J.length;rw[Cc f]at X
  have Y:o*dm.1+min m n*dm.1<=dm.2:=by
   have:(o+min m n)*dm.1<=(o+n)*dm.1:=dC _ V1;rw[cW]at this;omega
  have j:o*dm.1+all.length<=w.cells.length:=by rw[I,cB,M];omega
  have F:Writes c q b blk ⟨lm w.cells (o*dm.1) all,Za,w.es⟩:=⟨N,t,B.trans f.symm,C,w,lm cs (o*dm.1) all,r,dm,g,f,Q,rfl,Eh _ _ _,by show lm _ _ _=_;rw[I,Eg _ _ _ _ V1],p cs J⟩;exact cm (aa4 A K L g (U N) j V) ⟨_,_,rfl,F.le h,F.rel h,F.calm h W, .int _ _,E⟩
theorem IC {kd:IntKind}: ∀{cs r:List VV} {m ml:Zd} {j:Nat} {as g:List Value},Jl kd m j cs=O r->F2 (VRel c) cs as->F2 (VRel c) (ml.map<|VV.int kd) g->ml=(m.drop j).take (b8 cs)->
  F2 (VRel c) r (g++as.drop (b8 g))
 |[],r,m,ml,j,as,g,h,t,w,f=>by
  simp only[Jl]at h;cases h
  cases t
  grind
 |v::cs,r,m,ml,j,as,g,h,t,w,f=>by
  cases v<;>simp only[Jl]at h<;>try(cases h;done)
  rename_i H n;cases o:Zc (H=kd)with
  |false=>rw[o]at h;cases h
  |true=>
   rw[o,zC]at h;have o:=of_decide_eq_true o;subst o;have⟨I,C,p⟩:=ag h;cases p;cases t with
   |cons u l=>
    rename_i a as;have E:=u.int_inv;subst E;by_cases D:j<b8 m
    .have q:m.drop j=m[j]::m.drop (j+1):=List.drop_eq_getElem_cons D;rw[q]at f;simp only[List.length_cons,List.take_succ_cons]at f;subst f;cases w with
     |cons A B=>
      rename_i b g;have F:=A.int_inv;subst F;have:=IC C l B rfl;rw[dO,List.getElem?_eq_getElem D];exact .cons (.int _ _) this
    .have q:m.drop j=[]:=dN V1;rw[q]at f;simp only[List.take_nil]at f;subst f;cases w;have:=IC (ml:=[]) C l .nil (by rw[dN V1];simp);rw[dO,List.getElem?_eq_none V1];exact .cons (.int _ _) this
def OC {kd:IntKind}{m:Zd}: ∀{cs r:List VV} {j:Nat},Jl kd m j cs=O r->b8 r=b8 cs
 |[],r,j,h=>by cases h;rfl
 |v::cs,r,j,h=>by
  cases v<;>simp only[Jl]at h<;>try(cases h;done)
  rename_i l n;cases f:Zc (l=kd)with
  |false=>rw[f]at h;cases h
  |true=>
   rw[f,zC]at h;have⟨o,g,b⟩:=ag h;cases b;simp[OC g]
def Sl {m:Zd}:fh (.int kd) m=m.map (VV.int kd):=by
 induction m with
 |nil=>rfl
 |cons a m b=>rw[fO,b];rfl
theorem H5 {α:Type}{l m:List α}{o n:Nat}(h:o+n<=b8 l):GP l o n m=l.take o++(m.take (min (b8 m) n)++l.drop (o+min (b8 m) n)):=by
 unfold GP
 grind
theorem Y0 {α:Type}{l m:List α}{o n:Nat}(h:o+n<=b8 l):b8 (GP l o n m)=b8 l:=by
 rw[H5 h]
 grind
theorem Rx (N:Rel c){es q o n:Nat}{l A:List<|El s}{mc:List VV}{m:Nat}{g:List Value}(u:ae c.S q= .arr s Zb l)(I:Gn c q o n (s.w,l.length*s.w)<|ea.ev x)(Q:es=s.w)
  (K:Cn (ea.ev z)=O m) (L: ∀i,i<=m->c.σ.slice es (ea.ev z) i=O (g.take<|i*es)) (X:g.length=m*es) (M:F2 (VRel c) (fh s A) g) (H:m=A.length) (P:q∈d)
  (E:k (.int .i64 (min A.length n:Nat)) (gJ c.S q<|.arr s Zb<|GP l o n A)=O y):bp T (.copy es x z) ea c.σ<|iG c d k y:=by
 subst Q;have t:(ae c.S q).dim=O (s.w,l.length*s.w):=by rw[u];rfl
 have r:o+n<=l.length:=by
  rcases I with⟨_,W,D,_,_⟩|⟨b,U,Y,_,_,D,_⟩
  .omega
  .exact dQ D (mX s)
 have B:=L (min m n) (Nat.min_le_left _ _)
 have p:(g.take<|min m n*s.w).length=min m n*s.w:=by
  simp_all
 have j:=M.take<|min m n*s.w;rw[<-kU]at j;rw[<-H]at E;refine NR N t rfl (by rw[u];rfl) I K B p (kj j<|rT _ _) P ?_ rfl (λJ=> ?_) (λV f=> ?_) E
 .simp only[Blk.dim,Y0 r]
 .have:l.length=0:=by
   rcases dJ l.length with h|h
   .exact h
   .have:=dL h<|mX s;simp only at J;omega
  rw[u,H5 r]
  simp_all
 .rw[u]at f;simp only[Blk.vals]at f⊢;have C:=f.length;rw[gR]at C;have F:o*s.w+min m n*s.w<=l.length*s.w:=by rw[<-cW];exact dC _ V1
  rw[Qo (by rw[p];omega),H5 r,xx,xx,kU,yq,p,<-H,cW];exact(f.take _).append<|j.append<|f.drop _
theorem av0 (K:Rel c)(he:ar c e ea){es:Nat}(hd: ∀q,zp (ev e x)=O q->q∈d)(h:aa3 c.S es (ev e x) (ev e z) k=O y):bp T (.copy es x z) ea c.σ<|iG c d k y:=by
 have hx:=bt he x;have hz:=bt he z;unfold aa3 at h
 have Y: ∀(q o n:Nat) (N:Nat×Nat),(ae c.S q).dim=O N->q∈d->Gn c q o n N (ea.ev x)->
   (match ae c.S q,oR c.S es (ev e z)with
   | .arr s Zb l,O (.lst s' l')=>(lA (.list s') (.list s) l').bind λH=>gd (aB es s.w) (k (.int .i64 (min H.length n:Nat))<|gJ c.S q<|.arr s Zb<|GP l o n H)
   | .arr s Zb l,O (.cells I)=>(C1 .u64 I).bind λm=>(lA (.list<|.int .u64) (.list s) m).bind λH=>gd (aB es s.w) (k (.int .i64 (min H.length n:Nat))<|gJ c.S q<|.arr s Zb<|GP l o n H)
   | .cells 1 Zb l,O (.lst (.int kd) m)=>gd (aB es 1&&dB (o+n) l.length) (match Jl kd m 0 ((l.drop o).take n)with
    |some c'=>k (.int .i64 (min m.length n:Nat)) (gJ c.S q<|.cells 1 Zb<|l.take o++c'++l.drop (o+n))
    |none=>Z)
   |_,_=>Z)=O y->bp T (.copy es x z) ea c.σ (iG c d k y):=by
  intro q o n N b M hs h;split at h
  .rename_i s l s' l' g hm;obtain⟨m,j,E,p,J,r,V⟩:=xz K hm hz;obtain⟨H,D,F⟩:=ag h;obtain⟨W,k3⟩:=kL D;cases W;subst k3;obtain⟨k4,k5⟩:=am F;rw[g]at b;injection b with b
   subst b;exact Rx (mc:=[]) K g hs (aD k4) E p J r (V _ _ rfl).2 M k5
  .rename_i s l I g hm;obtain⟨m,j,E,p,J,r,V⟩:=xz K hm hz;obtain⟨ml,k0,D⟩:=ag h;obtain⟨H,D,F⟩:=ag D;obtain⟨W,k3⟩:=kL D;cases W;subst k3;obtain⟨k4,k5⟩:=am F;rw[g]at b;injection b with b
   subst b;have f:=Io k0;simp only[More.cellsOf]at r;rw[f,<-Sl]at r;have A:=aD k4
   have B:m=H.length:=by
    have:=r.length;rw[gR,J,A]at this;exact(cX (mX _) this).symm
   exact Rx (mc:=[]) K g hs A E p J r B M k5
  .rename_i l kd ml g hm;obtain⟨m,j,E,p,J,r,V⟩:=xz K hm hz;obtain⟨D,F⟩:=am h;rw[bB]at D;have A:=aD D.1;have hle:=cD D.2;subst A;split at F
   .rename_i c' hov;have B:=(V _ _ rfl).2;rw[g]at b;injection b with b
    subst b;have h2':=p (min m n)<|Nat.min_le_left _ _;have L:(j.take<|min m n*1).length=min m n*1:=by rw[cV,J,Nat.min_eq_left];omega
    simp only[More.cellsOf]at r;have P:F2 (VRel c) (fh (.int kd)<|ml.take<|min m n)<|j.take<|min m n*1:=by rw[kU];exact r.take (min m n*1)
    have hc':=OC hov;have Q:((l.drop o).take n).length=n:=by rw[cV,dD];omega
    rw[<-B]at F;refine NR K Zq rfl Zq hs E h2' L (kj P<|rT _ _) M ?_ rfl (λh0=> ?_) (λI f=> ?_) F
    .simp only[Blk.dim,cB,cV,dD,hc']
     congr 2
     omega
    .simp only at h0
     grind
    .rw[g]at f;simp only[Blk.vals]at f⊢;have hcl:=f.length;rw[Qo (by rw[L];omega),dG,dK];refine(f.take _).append ?_;have h6:=IC (ml:=ml.take<|min m n) hov ((f.drop o).take n) (by rw[<-Sl];exact P) (by rw[Q,dH,B,Nat.min_comm,<-List.take_take,dA (l:=ml)<|bD _])
     have h7:I.drop (o+(j.take<|min m n*1).length)=((I.drop o).take n).drop (j.take<|min m n*1).length++I.drop (o+n):=by
      rw[L,dK,List.drop_take,List.drop_drop]
      conv=>lhs;rw[<-List.take_append_drop (n-min m n) (I.drop<|o+min m n)]
      rw[List.drop_drop]
      congr 2
      omega
     rw[h7,<-dG];exact h6.append (f.drop _)
   .cases F
  .cases h
 generalize ev e x=xv at*;cases xv<;>try(cases h;done)
 case full q=>
  simp only at h;cases hx with
  |full hk _ t=>
   split at h
   .rename_i n C;cases g:ae c.S q with
    |dead=>simp only[lenOf,g]at C;cases C
    |arr s z' l=>
     simp only[lenOf,g]at C;injection C with C
     have b:(ae c.S q).dim=O (s.w,l.length*s.w):=by rw[g];rfl
     obtain⟨U,E,p⟩:=t _ b;have:U=n:=by rw[<-C];exact cX (mX s) E
     subst this;exact Y q 0 U _ b (hd q rfl) p h
    |cells X z' l=>
     simp only[lenOf,g]at C;injection C with C
     have b:(ae c.S q).dim=O (X,l.length):=by rw[g];rfl
     obtain⟨U,E,p⟩:=t _ b;have J:=(K.blk q _ b).1
     have:U=n:=by
      grind
     subst this;exact Y q 0 U _ b (hd q rfl) p h
   cases h
 case part q o n=>
  simp only at h;cases hx with
  |part hk _ t=>
   cases u:(ae c.S q).dim with
   |none=>
    have:ae c.S q= .dead:=by
     generalize ae c.S q=blk at u;cases blk<;>first|rfl|(cases u;done)
    rw[this]at h;cases h
   |some N=>exact Y q o n N u (hd q rfl) (t N u) h
end
end
section
open List renaming mem_cons_of_mem->aB,mem_cons_self->bB
open Nat renaming le_refl->aD
section
variable {β:Type} {T:Ab.gw} {c:Ctx} {e:cn} {ea:bj} {d:List Nat} {k:VV->ah->Option β} {y:β}
def VRel.it_inv {q:Nat}{l:Zd}(h:VRel c (.it q l) a): ∃s,au s=l/\∀d,(ae c.S q).dim=O d->∃b,c.μ q=O b/\a= .iface b (.string s):=by
 cases h with
 |it _ _ g f=>exact⟨_,g,f⟩
def Oq : ∀(n:Nat) (l:Zd),b8 l<=n->(∀x∈(zK l).1,x∈l)/\(∀x∈(zK l).2,x∈l)
 |_,[],_=>⟨λx hx=>(by cases hx),λx hx=>by cases hx⟩
 |_,[a],_=>⟨λx hx=>(by cases hx),λx hx=>by cases hx⟩
 |0,a::b::r,h=>by simp at h
 |n+1,a::b::r,h=>by
  have⟨g,j⟩:=Oq n r (by simp at h;omega);unfold zK;by_cases f:a=1
  .rw[zE f];refine⟨λx hx=> ?_,λx hx=> ?_⟩
   .rcases aA.1 hx with rfl|hx
    .simp
    .exact aB _ (aB _<|g x hx)
   .exact aB _ (aB _<|j x hx)
  .rw[zF f];exact⟨λx hx=>(by cases hx),λx hx=>aB _ hx⟩
def F6 : ∀l:Zd,∀x∈(uC l).2,x∈l
 |[],x,b=>by cases b
 |a::r,x,b=>by
  unfold uC at b;by_cases f:a=1
  .rw[zE f]at b;exact aB _ (F6 r x b)
  .rw[zF f]at b;exact aB _ b
def Iy : ∀(n:Nat) (l:Zd),∀p∈On n l,∀x∈p.1,x∈l
 |0,_,p,hp=>by cases hp
 |n+1,[],p,hp=>by cases hp
 |n+1,a::l,p,hp=>by
  have⟨b,f⟩:=Oq _ (a::l)<|aD _;unfold On at hp;rcases aA.1 hp with rfl|hp
  .exact b
  .exact λx g=>f x<|F6 _ x<|F6 _ x<|Iy n _ p hp x g
def Ov {k:Zd}{v:Int}(b: ∀x∈k,0<=x/\x<256): ∀l:List<|Zd×Int,(∀p∈l,∀x∈p.1,0<=x/\x<256)->∀p∈lC k v l,∀x∈p.1,0<=x/\x<256
 |[],_,p,hp=>by
  have:p=(k,v):=by simpa[lC]using hp
  subst this;exact b
 |q::l,h,p,hp=>by
  unfold lC at hp;split at hp
  .rcases aA.1 hp with rfl|hp
   .exact h q (bB ..)
   .exact h p (aB _ hp)
  .rcases aA.1 hp with rfl|hp
   .exact h p (bB ..)
   .exact Ov b l (λp hp=>h p<|aB _ hp) p hp
def Xg (s key:ByteArray)(n:Int):au (xo<|yz (au s) (au key) n)=yz (au s) (au key) n:=
 zq _ (L0 _<|Ov (GR key) _ λp b x f=>GR s x<|Iy _ _ p b x f)
def Iv {v:VV}{g:Nat->Nat->Bool->Zd->List VV->Option β}(h:Uw c.S kd v g=O y): ∃q es fz l r,v= .fn (UE kd) [] [.ptr q 0]/\ae c.S q= .cells es fz (.str l::r)/\g q es fz l r=O y:=by
 unfold Uw at h;split at h
 .rename_i f q;have⟨j,b⟩:=am h;split at b
  .rename_i es fz l r hb;exact⟨q,es,fz,l,r,by rw[Nat.eq_of_beq_eq_true j],hb,b⟩
  cases b
 cases h
def LV {q es:Nat}{fz:Bool}{l:Zd}{r:List VV}(H:Rel c)(M:VRel c (.fn (UE kd) [] [.ptr q 0]) a)(A:ae c.S q= .cells es fz (.str l::r)):
  ∃b g s j rest,Hd kd a=O b/\c.μ q=O b/\c.σ.m b=O g/\g.es=es/\(fz=Zb->g.own=Za)/\g.cells= .string s::(j++rest)/\au s=l/\F2 (VRel c) r j:=by
 have f:(ae c.S q).dim=O (es,b8<|VV.str l::r):=by rw[A];rfl
 obtain⟨b,o,I⟩: ∃b,c.μ q=O b/\Hd kd a=O b:=by
  cases M with
  |fn w n=>
   rename_i u C
   have D:u.toList=[]:=by cases h:u.toList with
    |nil=>rfl
    |cons x r=>rw[h]at w;cases w
   cases p:C.toList with
   |nil=>rw[p]at n;cases n
   |cons x r=>
    rw[p]at n;cases n with
    |cons E F=>
     cases F;cases E with
     |ptr _ _ J=>
      obtain⟨b,o,rfl⟩:=J _ f;refine⟨b,o, ?_⟩;unfold Hd;simp only[D,p,and_self,if_true]
 have⟨g,X,rest,N,P,B,Q,t⟩:=H.block (k:=q) (d:=(es,b8<|VV.str l::r)) f o;rw[A]at B t;simp only[Blk.vals]at t;cases t with
 |cons U V=>
  rename_i W j;have⟨s,L,K⟩:=U.str_inv;subst L;exact⟨b,g,s,j,rest,I,o,N,P,B,Q,K,V⟩
def af9 (b:Rel c)(h:k (.fn (UE kd) [] [.ptr (b8 c.S) 0]) (c.S++[.cells 1 Zb [.str []]])=O y):bp T (.makeM kd) ea c.σ<|iG c d k y:=by
 refine cm (v:=TB kd c.σ.n) (σ':=c.σ.add ⟨[.string ByteArray.empty],Za,1⟩) (by simp only[AOp.run]) ?_;refine iG.new (kill:=Z) b (Nc b (blk:= .cells 1 Zb [.str []]) (x:=⟨[.string ByteArray.empty],Za,1⟩) (d:=(1,1)) rfl (aD _) rfl rfl (.cons (.str rfl) .nil)) (λ_ h=>by cases h) ?_ h;refine .fn .nil<|.cons (.ptr aV rfl λf _=>⟨c.σ.n, ?_,rfl⟩) .nil;simp[pR]
def af2 (f:Rel c)(g:ar c e ea){key:Zd}(A:ev e i= .str key)(h:(Uw c.S kd (ev e x) λ_ _ _ l _=>k (cond ok (.tup [.int kd<|(Bb l key).getD 0, .bool (Bb l key).isSome])<|.int kd<|(Bb l key).getD 0) c.S)=O y):bp T (.lookM kd ok x i) ea c.σ<|iG c d k y:=by
 have m:=bt g x;have j:=bt g i;rw[A]at j;have⟨B,o,p⟩:=j.str_inv;have⟨q,I,J,l,r,t,u,w⟩:=Iv h;rw[t]at m;have⟨b,P,s,H,n,C,K,D,L,M,E,F,N⟩:=LV f m u;refine cm (v:=Wf kd ok s B) (σ':=c.σ) (by simp only[AOp.run,C,o,D,E])<|iG.same f ?_ w;unfold Wf;rw[F,p];cases ok
 .exact .int _ _
 exact .tup<|.cons (.int _ _)<|.cons (.bool _) .nil
def aG3 (j:Rel c)(t:ar c e ea){I:IntKind}{key:Zd}{n:Int}(V:ev e i= .str key)(W:ev e v= .int I n)(U: ∀q,Hg (ev e x)=O q->q∈d)
  (h:(Uw c.S kd (ev e x) λq es fz l r=>gd (Zc (I=kd)&& !fz)<|k .undef<|gJ c.S q<|.cells es Zb<|.str (yz l key n)::r)=O y):bp T (.updM kd x i v) ea c.σ<|iG c d k y:=by
 have H:=bt t x;have E:=bt t i;have F:=bt t v;rw[V]at E;rw[W]at F;have⟨B,L,M⟩:=E.str_inv;have N:=F.int_inv;have⟨q,es,fz,l,r,D,g,P⟩:=Iv h;have⟨o,Q⟩:=am P;rw[Bool.and_eq_true]at o;have w:=of_decide_eq_true o.1;have u:fz=Zb:=by simpa using o.2
 subst w u;rw[D]at H;have p:=U q (by rw[D];rfl);have⟨b,C,s,m,f,X,Y,J,m4,m5,K,m7,m8⟩:=LV j H g
 have A:Writes c q b (.cells es Zb<|.str (yz l key n)::r) ⟨.string (xo<|yz (au s) (au B) n)::(m++f),Za,C.es⟩:=by
  refine⟨by rw[g];rfl,Y,by rw[g];rfl,rfl,C, .string (xo<|yz (au s) (au B) n)::m,f,(es,_),J,by rw[g];rfl,m4,rfl,by rw[K];rfl,rfl, .cons (.str ?_) m8⟩;rw[Xg,m7,M]
 refine cm (v:=undef) (σ':=c.σ.set b<|O ⟨.string (xo<|yz (au s) (au B) n)::(m++f),Za,C.es⟩) ?_ ⟨.undef,_,rfl,A.le j,A.rel j,A.calm j p, .undef _,Q⟩;simp only[AOp.run,X,L,N,J,K];rw[zE trivial,zE<|m5 rfl]
def RX : ∀{cs:List VV} {as:List Value} {l:Zd},C1 .u8 cs=O l->F2 (VRel c) cs as->Au as=O l
 |[],_,l,h,b=>by
  cases b;cases h;rfl
 |v::cs,_,l,h,b=>by
  cases b with
  |cons j m=>
   cases v with
   |int o n=>
    unfold C1 at h;by_cases g:o= .u8
    .subst g;rw[zB rfl,zC]at h;cases f:C1 .u8 cs with
     |none=>rw[f]at h;cases h
     |some r=>
      rw[f]at h;cases h;cases j;unfold Au;rw[RX f m];rfl
    .rw[zA g]at h;cases h
   |_=>cases h
def Lw : ∀{l:Zd} {as:List Value},F2 (VRel c) (fh (.int .u8) l) as->Au as=O l
 |[],_,b=>by cases b;rfl
 |n::l,_,b=>by
  cases b with
  |cons f g=>
   cases f;unfold Au;rw[Lw (l:=l) g];rfl
def aT9 (l:Zd):au (xo l)=l.map yg:=by
 have b: ∀(l:Zd) (s:ByteArray),au (l.foldl (λr n=>r.push<|UInt8.ofNat n.toNat) s)=au s++l.map yg:=by
  intro l;induction l with
  |nil=>intro s;simp
  |cons n l f=>
   intro s;rw[List.foldl_cons,f,List.map_cons]
   have:au (s.push<|UInt8.ofNat n.toNat)=au s++[yg n]:=by
    simp[au,yg,ByteArray.push]
   rw[this,List.append_assoc];rfl
 have:=b l ByteArray.empty;simpa[xo,au]using this
theorem ao6 (K:Rel c)(V:ar c e ea)(h:U5 c.S (ev e x) k=O y):bp T (.strOf x) ea c.σ<|iG c d k y:=by
 have M:=bt V x
 have r: ∀(m:More) (l:Zd),(∀t,ev e x≠ .str t)->oR c.S 1 (ev e x)=O m->(∀u,F2 (VRel c) m.cellsOf u->Au u=O l)->k (.str<|l.map yg) c.S=O y->bp T (.strOf x) ea c.σ (iG c d k y):=by
  intro m l f b U X;have⟨n,A,J,N,h3,P,_⟩:=xz K b M;have B:=N n<|aD _;rw[Nat.mul_one,List.take_of_length_le V1]at B;have Q:=U A P
  obtain⟨p,I,L⟩: ∃p I,ea.ev x= .slice p n I:=by
   generalize ea.ev x=a at*;cases a<;>simp[Cn]at J
   .generalize ev e x=v at*
    have j: ∀q,(oR c.S 1 (.full q)=O m∨∃o n,oR c.S 1 (.part q o n)=O m)->∃d,(ae c.S q).dim=O d:=by
     intro q w;cases W:ae c.S q with
     |dead=>rcases w with w|⟨_,_,w⟩<;>simp[oR,W]at w
     |cells Y z l=>exact⟨_,rfl⟩
     |arr s z l=>exact⟨_,rfl⟩
    cases M with
    |str _=>exact(f _ rfl).elim
    |undef=>simp[oR]at b
    |ptr _ _ _=>simp[oR]at b
    |it _ _ _ _=>simp[oR]at b
    |bld _ _ _=>simp[oR]at b
    |pix _ _ _ _=>simp[oR]at b
    |pel _ _ _=>simp[oR]at b
    |tgtn _=>simp[oR]at b
    |full _ _ D=>
     have⟨d,g⟩:=j _<|.inl b;have⟨_,_,F⟩:=D d g;rcases F with⟨e,_⟩|⟨_,_,_,e,_⟩<;>cases e
    |part _ _ D=>
     have⟨d,g⟩:=j _<|.inr ⟨_,_,b⟩;rcases D d g with⟨e,_⟩|⟨_,_,_,e,_⟩<;>cases e
   subst J;exact⟨_,_,rfl⟩
  refine cm (v:= .string<|xo l) (σ':=c.σ) ?_ (iG.same K (.str<|aT9 l) X);rw[L]at B;simp only[AOp.run,L,B,Q,Option.map_some]
 unfold U5 at h;split at h
 .cases h
 rename_i f;split at h
 .rename_i s l b;by_cases F:s= .int .u8
  .subst F;rw[kJ]at h;exact r _ l (λt H=>f t H) b (λu C=>Lw C) h
  unfold lA at h
  grind
 .rename_i cs b;cases E:C1 .u8 cs with
  |none=>rw[E]at h;cases h
  |some l=>
   rw[E]at h;exact r _ l (λt H=>f t H) b (λu C=>RX E C) h
 cases h
end
end
section
open Bool renaming and_eq_true->aB
open List renaming append_nil->aD,take_left->bB,append_assoc->bD,drop_left->cB,length_append->cD,length_cons->cV,cons_append->cX
open Nat renaming eq_of_beq_eq_true->cW
section
variable {β:Type} {T:gw} {c:Ctx} {e:cn} {ea:bj} {d:List Nat} {k:VV->ah->Option β} {y:β}
def OP : ∀{l:List VV} {m as:List Value},OO l m=Za->F2 (VRel c) l as->as=m/\oC m m=Za
 |[],[],_,_,h=>by cases h;exact⟨rfl,rfl⟩
 | .int k a::r, .int o b::s,_,h,n=>by
  simp only[OO,aB,decide_eq_true_eq]at h;obtain⟨rfl,rfl,h⟩:=h;cases n with
  |cons f g=>
   cases f;obtain⟨rfl,j⟩:=OP h g;exact⟨rfl,by simp only[oC,decide_true,Bool.true_and];exact j⟩
def LM : ∀{ks:List IntKind} {l:List VV} {as:List Value},JM ks l=Za->F2 (VRel c) l as->Dj ks as=Za
 |[],[],_,_,h=>by cases h;rfl
 |k::r, .int j n::s,_,h,g=>by
  simp only[JM,aB]at h;cases g with
  |cons b f=>
   cases b;simp only[Dj,aB];exact⟨h.1,h.2.1,h.2.2.1,LM h.2.2.2 f⟩
def rU :List VV->Bool
 |[]=>Za
 | .int _ _::r=>rU r
 |_=>Zb
def Iq : ∀{ks:List IntKind} {l:List VV},JM ks l=Za->rU l=Za
 |[],[],_=>rfl
 |k::r, .int b n::s,h=>by
  simp only[JM,aB]at h;exact Iq (l:=s) h.2.2.2
def A4 : ∀{a b:List VV},rU (a++b)=Za↔rU a=Za/\rU b=Za
 |[],b=>by simp[rU]
 | .int _ _::a,b=>by simp only[cX,rU];exact A4
 | .undef::a,b| .bool _::a,b| .str _::a,b| .nilp::a,b| .nils::a,b| .nilf::a,b| .ptr _ _::a,b| .pix _ _ _ _::a,b| .pel _ _ _::a,b| .pin _ _ _::a,b| .lst _ _::a,b| .tgt _ _::a,b| .full _::a,b| .part _ _ _::a,b| .it _ _::a,b| .bld _::a,b| .fn _ _ _::a,b| .bag _ _::a,b| .agg _::a,b| .tup _::a,b=>by simp[rU]
def xk (S:ah): ∀(s:Sh) (l:List VV) (x:El s) (r:List VV),rU l=Za->hC S s l=O (x,r)->l=bn s x++r/\(∀z:El s,rU (bn s z)=Za)
 | .int k,l,x,r,f,h=>by
  cases l with
  |nil=>cases h
  |cons v l=>
   cases v<;>simp only[rU]at f<;>try(cases f;done)
   simp only[hC]at h;rename_i D n;cases j:Zc (D=k)with
   |false=>rw[j]at h;cases h
   |true=>
    rw[j]at h;injection h with h
    injection h with g m
    have j:=of_decide_eq_true j;subst g m j;exact⟨rfl,λ_=>rfl⟩
 | .bool,l,x,r,f,h=>by
  cases l with
  |nil=>cases h
  |cons v l=>cases v<;>simp only[rU]at f<;>first|(cases f;done)|cases h
 | .str,l,x,r,f,h=>by
  cases l with
  |nil=>cases h
  |cons v l=>cases v<;>simp only[rU]at f<;>first|(cases f;done)|cases h
 | .list s,l,x,r,f,h=>by
  cases l with
  |nil=>cases h
  |cons v l=>
   cases v<;>simp only[rU]at f<;>try(cases f;done)
   simp only[hC]at h;have⟨z,g,_⟩:=ag h;cases g
 | .pair a b,l,x,r,f,h=>by
  simp only[hC]at h;obtain⟨p,g,h⟩:=ag h;obtain⟨q,m,h⟩:=ag h;injection h with h
  injection h with u w
  subst u w;have⟨t,A⟩:=xk S a l p.1 p.2 f g;have o:rU p.2=Za:=by rw[t]at f;exact(A4.1 f).2
  have⟨B,C⟩:=xk S b p.2 q.1 q.2 o m;refine⟨by rw[t,B];simp[bn],λz=>A4.2 ⟨A z.1,C z.2⟩⟩
theorem EI : ∀(s:Sh) (x z:El s) (m n:List Value),(∀w:El s,rU (bn s w)=Za)->F2 (VRel c) (bn s x) m->F2 (VRel c) (bn s z) n->oC n m=Xv s x z
 | .int k,x,z,m,n,_,o,t=>by
  cases o with
  |cons a b=>
   cases t with
   |cons F H=>
    cases a;cases b;cases F;cases H;simp only[oC,Xv,decide_true,Bool.true_and,Bool.and_true];by_cases j:x=z
    .rw[zB j,zB j.symm]
    .rw[zA j,zA<|λe=>j e.symm]
 | .bool,x,z,m,n,h,_,_=>by have:=h x;cases this
 | .str,x,z,m,n,h,_,_=>by have:=h x;cases this
 | .list s,x,z,m,n,h,_,_=>by have:=h x;cases this
 | .pair a b,x,z,m,n,h,o,t=>by
  have M: ∀w:El a,rU (bn a w)=Za:=λw=>(A4.1<|h (w,x.2)).1
  have N: ∀w:El b,rU (bn b w)=Za:=λw=>(A4.1<|h (x.1,w)).2
  obtain⟨D,Q,rfl,B,K⟩:=F2.app_left (l:=bn a x.1) (l':=bn b x.2) o;obtain⟨E,S,rfl,C,L⟩:=F2.app_left (l:=bn a z.1) (l':=bn b z.2) t;have I:=EI a x.1 z.1 D E M B C;have J:=EI b x.2 z.2 Q S N K L;have g:E.length=D.length:=by rw[<-B.length,<-C.length,cu,cu]
  have A: ∀(p q r s:List Value),p.length=q.length->oC (p++r) (q++s)=(oC p q&&oC r s):=by
   intro p;induction p with
   |nil=>intro q r s f;cases q with
    |nil=>simp[oC]
    |cons x q=>simp at f
   |cons u p P=>intro q r s f;cases q with
    |nil=>simp at f
    |cons w q=>
     simp only[cV,Nat.add_right_cancel_iff]at f;cases u<;>cases w<;>simp only[cX,oC,Bool.false_and]<;>try rfl
     rw[P q r s f,Bool.and_assoc,Bool.and_assoc]
  rw[A _ _ _ _ g,I,J];rfl
theorem RJ {ka f:Sh}{κ:El ka}{kc:List Value}(A: ∀w:El ka,rU (bn ka w)=Za)(L:0<ka.w)(h:F2 (VRel c) (bn ka κ) kc): ∀(l:List<|El<|.pair ka f) (cs:List Value) (n:Nat),l.length<=n->F2 (VRel c) (fh (.pair ka f) l) cs->
  match l.find? (λq=>Xv ka q.1 κ)with
  |some q=> ∃E,wN ka.w f.w kc n cs=O E/\F2 (VRel c) (bn f q.2) E
  |none=>wN ka.w f.w kc n cs=Z
 |[],cs,n,_,j=>by
  cases j;cases n<;>rfl
 |q::l,cs,n,B,j=>by
  cases n with
  |zero=>simp at B
  |succ n=>
   rw[fO]at j;obtain⟨m,r,rfl,J,K⟩:=F2.app_left j;obtain⟨b,g,rfl,t,u⟩:=F2.app_left (l:=bn ka q.1) (l':=bn f q.2) J;have o:b.length=ka.w:=by rw[<-t.length,cu]
   have D:g.length=f.w:=by rw[<-u.length,cu]
   obtain⟨x,s,C⟩: ∃x s,b++g++r=x::s:=by
    cases b with
    |nil=>simp at o;omega
    |cons x s=>exact⟨x,_,rfl⟩
   have F:(b++g++r).take ka.w=b:=by rw[bD,<-o,bB]
   have H:((b++g++r).drop ka.w).take f.w=g:=by rw[bD,<-o,cB,<-D,bB]
   have I:(b++g++r).drop (ka.w+f.w)=r:=by rw[<-o,<-D,<-cD,cB]
   have p:wN ka.w f.w kc (n+1) (b++g++r)=if oC kc b then O g else wN ka.w f.w kc n r:=by
    rw[C];simp only[wN];rw[<-C,F,H,I]
   have M:oC kc b=Xv ka q.1 κ:=EI ka q.1 κ b kc A t h;rw[List.find?_cons,p,M];cases N:Xv ka q.1 κ with
   |true=>exact⟨g,rfl,u⟩
   |false=>exact RJ A L h l r n (by simp at B;omega) K
theorem WA {ka b:Sh}{κ:El ka}{z:El b}{kc vc:List Value}(C: ∀w:El ka,rU (bn ka w)=Za)(L:0<ka.w)(g:F2 (VRel c) (bn ka κ) kc)(j:F2 (VRel c) (bn b z) vc): ∀(l:List<|El<|.pair ka b) (cs:List Value) (n:Nat),l.length<=n->F2 (VRel c) (fh (.pair ka b) l) cs->
  F2 (VRel c) (fh (.pair ka b)<|Ga (λq=>Xv ka q.1 κ) (κ,z) l) (Ho ka.w b.w kc vc n cs)
 |[],cs,n,_,o=>by
  cases o
  have:F2 (VRel c) (fh (.pair ka b) [(κ,z)])<|kc++vc:=by
   rw[fO];show F2 (VRel c) ((bn ka κ++bn b z)++[]) _;rw[aD];exact g.append j
  cases n<;>exact this
 |q::l,cs,n,D,o=>by
  cases n with
  |zero=>simp at D
  |succ n=>
   rw[fO]at o;obtain⟨m,r,rfl,u,A⟩:=F2.app_left o;obtain⟨f,h,rfl,B,K⟩:=F2.app_left (l:=bn ka q.1) (l':=bn b q.2) u;have p:f.length=ka.w:=by rw[<-B.length,cu]
   have F:h.length=b.w:=by rw[<-K.length,cu]
   obtain⟨x,s,E⟩: ∃x s,f++h++r=x::s:=by
    cases f with
    |nil=>simp at p;omega
    |cons x s=>exact⟨x,_,rfl⟩
   have H:(f++h++r).take ka.w=f:=by rw[bD,<-p,bB]
   have I:(f++h++r).drop (ka.w+b.w)=r:=by rw[<-p,<-F,<-cD,cB]
   have J:(f++h++r).take (ka.w+b.w)=f++h:=by rw[<-p,<-F,<-cD,bB]
   have t:Ho ka.w b.w kc vc (n+1) (f++h++r)=if oC kc f then kc++vc++r else f++h++Ho ka.w b.w kc vc n r:=by
    rw[E];simp only[Ho];rw[<-E,H,I,J]
   have M:oC kc f=Xv ka q.1 κ:=EI ka q.1 κ f kc C B g;rw[t,M];simp only[Ga];cases N:Xv ka q.1 κ with
   |true=>
    rw[zC,zE rfl,fO];exact(show F2 (VRel c) (bn ka κ++bn b z) (kc++vc)from g.append j).append A
   |false=>
    rw[zD,zF (by simp),fO];exact u.append<|WA C L g j l r n (by simp at D;omega) A
def LL : ∀{ks:List IntKind} {l:List VV},JM ks l=Za->b8 l=b8 ks
 |[],[],_=>rfl
 |k::r, .int b n::s,h=>by
  simp only[JM,aB]at h;rw[cV,cV,LL (l:=s) h.2.2.2]
def aE7 : ∀s:Sh,0<s.w
 | .int _| .bool| .str| .list _=>Nat.one_pos
 | .pair a b=>Nat.lt_of_lt_of_le (aE7 a)<|Nat.le_add_right _ _
def NF {ks:List IntKind}{vn:Nat}{v:VV}{l:Nat->Nat->Bool->VV->List VV->Option β}(h:TX c.S ks vn v l=O y): ∃a q es fz b r,v= .fn mgN a [.ptr q 0]/\OO a (LX ks vn)=Za/\ae c.S q= .cells es fz (b::r)/\l q es fz b r=O y:=by
 unfold TX at h;split at h
 .rename_i f a q;have⟨g,j⟩:=am h;rw[aB]at g;split at j
  .rename_i es fz b r hb;exact⟨a,q,es,fz,b,r,by rw[cW g.1],g.2,hb,j⟩
  cases j
 cases h
def Vs {ks:List IntKind}{vn:Nat}{a:List VV}{q es:Nat}{fz:Bool}{v:VV}{r:List VV}{u:Value}(I:Rel c)(M:VRel c (.fn mgN a [.ptr q 0]) u)(L:OO a (LX ks vn)=Za)(p:ae c.S q= .cells es fz (v::r)):
  ∃b g w h rest,Uz ks vn u=O b/\c.μ q=O b/\c.σ.m b=O g/\g.es=es/\(fz=Zb->g.own=Za)/\g.cells=w::(h++rest)/\VRel c v w/\F2 (VRel c) r h:=by
 have f:(ae c.S q).dim=O (es,b8<|v::r):=by rw[p];rfl
 obtain⟨b,l,J⟩: ∃b,c.μ q=O b/\Uz ks vn u=O b:=by
  cases M with
  |fn E j=>
   rename_i W A;have⟨C,D⟩:=OP L E;cases n:A.toList with
   |nil=>rw[n]at j;cases j
   |cons x r=>
    rw[n]at j;cases j with
    |cons F H=>
     cases H;cases F with
     |ptr _ _ K=>
      obtain⟨b,l,rfl⟩:=K _ f;refine⟨b,l, ?_⟩;unfold Uz;simp only[C,D,n,and_self,if_true]
 have⟨g,X,rest,N,P,t,Q,o⟩:=I.block (k:=q) (d:=(es,b8<|v::r)) f l;rw[p]at t o;simp only[Blk.vals]at o;cases o with
 |cons U V=>
  rename_i B h;exact⟨b,g,B,h,rest,J,l,N,P,t,Q,U,V⟩
def af7 (b:Rel c){ks:List IntKind}{vn:Nat}(h:k (.fn mgN ((LX ks vn).map D9) [.ptr (b8 c.S) 0]) (c.S++[.cells 1 Zb [.agg []]])=O y):bp T (.makeG ks vn) ea c.σ<|iG c d k y:=by
 refine cm (v:=TA ks vn c.σ.n) (σ':=c.σ.add ⟨[.agg #[]],Za,1⟩) (by simp only[AOp.run]) ?_;refine iG.new (kill:=Z) b (Nc b (blk:= .cells 1 Zb [.agg []]) (x:=⟨[.agg #[]],Za,1⟩) (d:=(1,1)) rfl (Nat.le_refl _) rfl rfl (.cons (.agg .nil) .nil)) (λ_ h=>by cases h) ?_ h;refine .fn (by simpa using uD _ (LX ks vn))<|.cons (.ptr aV rfl λf _=>⟨c.σ.n, ?_,rfl⟩) .nil;simp[pR]
def JZ {kc:List VV}{u:Value}(h:VRel c (.agg kc) u): ∃a,u= .agg a/\F2 (VRel c) kc a.toList:=by
 cases h with
 |agg h=>exact⟨_,rfl,h⟩
def RL (l:List<|El s):b8 l<=b8 (fh s l):=by
 rw[gR];exact Nat.le_mul_of_pos_right _<|aE7 s
def am5 {cs:List VV}{vs:List Value}{b:Bool}(h:F2 (VRel c) cs vs):VRel c (Yd ok cs b) (if ok then .tuple #[.agg vs.toArray, .bool b]else .agg vs.toArray):=by
 have f:VRel c (.agg cs)<|.agg vs.toArray:= .agg V6;cases ok
 .exact f
 exact .tup<|.cons f<|.cons (.bool _) .nil
theorem af1 (M:Rel c)(N:ar c e ea){ks:List IntKind}{n:List Value}{kc:List VV}(hk:ev e i= .agg kc)(h:(TX c.S ks n.length (ev e x) λ_ _ _ b _=>(match b with
   | .bag s l=>af0 c.S ks n ok kc k s l
   | .agg []=>gd (JM ks kc) (k (Yd ok (n.map D9) Zb) c.S)
   |_=>Z))=O y):bp T (.lookG ks n ok x i) ea c.σ<|iG c d k y:=by
 have Q:=bt N x;have P:=bt N i;rw[hk]at P;obtain⟨E,e1,L⟩:=JZ P;obtain⟨a,q,es,fz,b,r,h1,h2,h3,u⟩:=NF h;rw[h1]at Q;obtain⟨bb,y0,Y,cr,X,m1,m2,m3,m4,m5,m6,U,m8⟩:=Vs M Q h2 h3
 have t: ∀(g:Array Value) (F:List VV) (f:Bool),Y= .agg g->JM ks kc=Za->(f=(wN ks.length n.length E.toList g.toList.length g.toList).isSome)->F2 (VRel c) F ((wN ks.length n.length E.toList g.toList.length g.toList).getD n)->k (Yd ok F f) c.S=O y->bp T (.lookG ks n ok x i) ea c.σ (iG c d k y):=λg F f m B C I o=>by
  subst m;have J:=LM B L;refine cm (v:=P3 ks n ok E.toList g.toList) (σ':=c.σ) (by simp only[AOp.run,m1,e1,m3,m6,J,if_true])<|iG.same M ?_ o;unfold P3;rw[C];exact am5 I
 split at u
 .rename_i s l
  obtain⟨g,D,A⟩: ∃g,Y= .agg g/\F2 (VRel c) (fh s l) g.toList:=by
   cases U with
   |bag hf=>exact⟨_,rfl,hf⟩
  unfold af0 at u;split at u
  .rename_i sk sv l;obtain⟨m,B⟩:=am u;rw[aB]at m;obtain⟨m,C⟩:=m;have C:=cW C;obtain⟨p,I,o⟩:=ag B;obtain⟨V,p2⟩:=p;simp only at o;split at o
   .obtain⟨K,o2⟩:=xk c.S sk kc V [] (Iq m) I;rw[aD]at K;have hw:ks.length=sk.w:=by rw[<-LL m,K,cu]
    have j:=RJ (c:=c) (κ:=V) (kc:=E.toList) o2 (aE7 sk) (by rw[<-K];exact L) l g.toList g.toList.length (by rw[<-A.length];exact RL l) A;rw[<-hw,C]at j;unfold aC6 at o;split at o
    .rename_i z hz;rw[hz]at j;obtain⟨vc,W,q2⟩:=j;exact t g _ Za D m (by rw[W];rfl) (by rw[W];exact q2) o
    .rename_i hz;rw[hz]at j;exact t g _ Zb D m (by rw[j];rfl) (by rw[j];exact uD c n) o
   .cases o
  .cases u
 .obtain⟨m,B⟩:=am u;obtain⟨g,D,A⟩:=JZ U
  have:g.toList=[]:=by cases H:g.toList with
   |nil=>rfl
   |cons x r=>rw[H]at A;cases A
  exact t g _ Zb D m (by rw[this];rfl) (by rw[this];exact uD c n) B
 .cases u
theorem aG1 (u:Rel c)(M:ar c e ea){ks:List IntKind}{vn:Nat}{kc vc:List VV}(hk:ev e i= .agg kc)(hn:ev e v= .agg vc)(hd: ∀q,Hg (ev e x)=O q->q∈d)
  (h:(TX c.S ks vn (ev e x) λq es fz b r=>(match b with
   | .bag s l=>gd (!fz) (aG0 c.S ks vn kc vc (λb'=>k .undef<|gJ c.S q<|.cells es Zb<|b'::r) s l)
   |_=>Z))=O y):bp T (.updG ks vn x i v) ea c.σ<|iG c d k y:=by
 have hv:=bt M x;have hi:=bt M i;have hu:=bt M v;rw[hk]at hi;rw[hn]at hu;obtain⟨H,e1,W⟩:=JZ hi;obtain⟨t,e5,K⟩:=JZ hu;obtain⟨a,q,es,fz,b,r,Y,h2,D,E⟩:=NF h;rw[Y]at hv;have L:=hd q (by rw[Y];rfl);obtain⟨V,Q,v0,J,g,m1,m2,m3,m4,m5,m6,m7,m8⟩:=Vs u hv h2 D;split at E
 .rename_i s l;obtain⟨j,F⟩:=am E;clear E;have j:fz=Zb:=by simpa using j
  subst j
  obtain⟨f,e3,X⟩: ∃f,v0= .agg f/\F2 (VRel c) (fh s l) f.toList:=by
   cases m7 with
   |bag hf=>exact⟨_,rfl,hf⟩
  subst e3;unfold aG0 at F;split at F
  .rename_i sk sv l;obtain⟨n,g2⟩:=am F;rw[aB,aB]at n;obtain⟨⟨n,C⟩,g0⟩:=n;have C:=cW C;obtain⟨p,g4,o⟩:=ag g2;obtain⟨z,g6,o⟩:=ag o;obtain⟨I,p2⟩:=p;obtain⟨U,z2⟩:=z;simp only at o;split at o
   .obtain⟨P,o2⟩:=xk c.S sk kc I [] (Iq n) g4;rw[aD]at P;have hw:ks.length=sk.w:=by rw[<-LL n,P,cu]
    obtain⟨pre,t1,t2,t3⟩:=jA u sv vc U [] g6;rw[aD]at t1;subst t1;have N:t.toList.length=vn:=by rw[<-K.length,t2,C]
    have B:=WA (c:=c) (κ:=I) (z:=U) (kc:=H.toList) (vc:=t.toList) o2 (aE7 sk) (by rw[<-P];exact W) (t3 _ K) l f.toList f.toList.length (by rw[<-X.length];exact RL l) X;rw[<-hw,C]at B
    have m:Writes c q V (.cells es Zb<|.bag (.pair sk sv) (Ga (λq=>Xv sk q.1 I) (I,U) l)::r) ⟨.agg (Ho ks.length vn H.toList t.toList f.toList.length f.toList).toArray::(J++g),Za,Q.es⟩:=by
     refine⟨by rw[D];rfl,m2,by rw[D];rfl,rfl,Q, .agg (Ho ks.length vn H.toList t.toList f.toList.length f.toList).toArray::J,g,(es,_),m3,by rw[D];rfl,m4,rfl,by rw[m6];rfl,rfl, .cons (.bag (by simpa using B)) m8⟩
    refine cm (v:=undef) (σ':=c.σ.set V<|O ⟨.agg (Ho ks.length vn H.toList t.toList f.toList.length f.toList).toArray::(J++g),Za,Q.es⟩) ?_ ⟨.undef,_,rfl,m.le u,m.rel u,m.calm u L, .undef _,o⟩;have A:t.toList.all one=Za:=kj K g0;simp only[AOp.run,m1,e1,e5,m3,m6];rw[zE ⟨LM n W,N,A⟩,zE<|m5 rfl]
   .cases o
  .cases F
 .cases E
def aG2 (C:Rel c)(E:ar c e ea){ks:List IntKind}{vn:Nat}{kc vc:List VV}(F:ev e i= .agg kc)(H:ev e v= .agg vc)(D: ∀q,Hg (ev e x)=O q->q∈d)
  (h:(TX (C0 c.S vc) ks vn (ev e x) λq es fz b r=>(match b with
   | .bag s l=>gd (!fz) (aG0 (C0 c.S vc) ks vn kc vc (λA=>k .undef<|gJ (C0 c.S vc) q<|.cells es Zb<|A::r) s l)
   |_=>Z))=O y):bp T (.updG ks vn x i v) ea c.σ<|iG c d k y:=by
 have f:=Ck c.S vc;have g:=aG1 (T:=T) (c:=⟨c.μ,C0 c.S vc,c.σ,c.fb⟩) (d:=d) (f.rel C) (E.frame f.le) F H D h
 have m: ∀v j,iG ⟨c.μ,C0 c.S vc,c.σ,c.fb⟩ d k y v j->iG c d k y v j:=λv j ⟨I,B,n,o,p,t,u,w⟩=>
  ⟨I,B,n,f.le.trans o,p,(f.calm d).trans t f.le,u,w⟩
 unfold bp at g⊢;simp only at g⊢;split at g
 .rename_i h2
  first|(rw[h2];exact m _ _ g)|exact m _ _ g
 .exact g.elim
end
end
end Go.V
