/- A part of the proof. No condition. -/
import Derived.Test.YtlmlogmcgeijcaaGreatDoorA3
set_option linter.all false
namespace Go.V
open Go.Ab
open Option renaming some->O,none->Y
open Bool renaming true->Za,false->Zb
open Decidable renaming decide->Zc
open List renaming length->dt
open Option.some renaming injEq->cc
open Prod.mk renaming injEq->dl
variable {N i j k:Nat}{st st' stf:DSt}{a:Value}{c c' ct:Ctx}{x z:Operand}{sk:rc}{fx l mov:List Nat}{s:Sh}{vals vs:List VV}{as:List Value}{bs fs:List Blk}{op:AOp}{o:OSk}{b blk:Blk}{Z:Hp}{m:List (Option Src)}{S':ai}
section
open Bool renaming and_eq_true -> bB
open List renaming length_append -> cD, length_take -> cK, take_of_length_le -> cL, replicate -> cP, length_drop -> cS, length_nil -> cT, drop_zero -> cU, replicate_succ -> cV, append_assoc -> cX, flatten_cons -> cY, drop_eq_nil_of_le -> dF, getD_eq_getElem?_getD -> dG, length_cons -> dH, take_append_of_le_length -> dI
open Nat renaming beq -> aB, eq_of_beq_eq_true -> aD, le_refl -> bD, zero_add -> cB, add_mul -> cM, le_of_ble_eq_true -> cN, eq_of_mul_eq_mul_right -> cO, ble -> cQ, mul_le_mul_right -> cR, min_eq_left -> cW, eq_zero_or_pos -> cZ, min_le_left -> dA, mul_div_cancel -> dB, mul_one -> dC, mul_pos -> dD, zero_mul -> dE, le_of_mul_le_mul_right -> dJ, mul_le_mul_left -> dK
open Option renaming getD_some -> dL
section
variable {β:Type} {T:iU} {c:Ctx} {e:co} {ea:cm} {k:VV->ai->Option β} {y:β} {d:List Nat}
def Cf : ∀{z:List Value} {s:Sh},JM z=O s->F2 (VRel c) (dy s (uM s)) z
 |[],s,h=>by simp[JM]at h
 |v::r,s,h=>by
  unfold JM at h;split at h
  .rename_i f;injection f with g n
   subst g;subst n;cases h
   exact .cons (.int _ _) .nil
  .rename_i f;injection f with g n
   subst g;subst n;cases h
   exact .cons (.bool _) .nil
  .rename_i f;injection f with g n
   subst g;subst n;have⟨t,q,p⟩:=ah h;cases p
   exact .cons (.int _ _) (Cf q)
  .rename_i f;injection f with g n
   subst g;subst n;have⟨t,q,p⟩:=ah h;cases p
   exact .cons (.bool _) (Cf q)
  .cases h
def sF {s:Sh}{x:El s}: ∀n,fO s (cP n x)=(cP n (dy s x)).flatten
 |0=>rfl
 |n+1=>by rw[cV,gz,sF n,cV,cY]
def OL (z:List Value)(m n:Nat):ei z (m+n)=ei z m++ei z n:=by
 simp only[ei];rw[<-List.replicate_append_replicate,List.flatten_append]
def OM (z:List Value)(n:Nat):dt (ei z n)=n*dt z:=by
 simp[ei,List.length_flatten,List.map_replicate]
def aw9 (g:Rel c)(H:az c e ea){es bytes:Nat}{z:List Value}{l m:Operand}(h:af5 c.S es bytes z (ev e l) (ev e m) k=O y):ci T (.makeSlice es bytes z l m) ea c.Z (ji c d k y):=by
 have J:=cn H l;have K:=cn H m;unfold af5 at h;split at h
 .rename_i X a k2 b s P Q V;rw[P]at J;rw[Q]at K;obtain⟨I,U⟩:=au h;simp only[bB]at I;obtain⟨⟨⟨⟨t,u⟩,A⟩,D⟩,E⟩:=I;have t:=aD t;have u:=of_decide_eq_true u;have A:=of_decide_eq_true A;have D:=of_decide_eq_true D;have E:=cN E;have L:=Cf (c:=c) V;have C:z.length=s.w:=by rw[<-L.length,ej]
  have F:b<=bytes*b:=by
   have:(1:Int)*b<=bytes*b:=Int.mul_le_mul_of_nonneg_right V1 V1;omega
  refine cu (v:= .slice (O ⟨c.Z.n,0,Y⟩) a.toNat b.toNat) (Z':=c.Z.add ⟨ei z b.toNat,Za,es⟩) ?_ ?_
  .simp only[AOp.run,J.int_inv,K.int_inv];rw[zE ⟨u,A,V1,V1⟩]
  .have p:ei z b.toNat=ei z a.toNat++ei z (b.toNat-a.toNat):=by rw[<-OL];congr 1;omega
   have r:F2 (VRel c) (fO s (cP a.toNat (uM s))) (ei z a.toNat):=by
    rw[sF];clear p;generalize a.toNat=n;induction n with
    |zero=>exact .nil
    |succ n M=>
     simp only[ei,cV,cY]at M⊢;exact L.append M
   have B:Moves c Y (O c.Z.n) (.arr s Zb (cP a.toNat (uM s))) (c.Z.add ⟨ei z b.toNat,Za,es⟩):=by
    refine⟨(λb h _ F=>by injection h with h;subst h;exact Nat.lt_irrefl _ (g.fbl _ F)),(λ_ h=>by cases h),λq x f=> ?_,Nat.le_succ _,λi x f _=> ?_,(s.w,(cP a.toNat (uM s)).length*s.w),rfl,nG s, .inr ⟨c.Z.n,⟨ei z b.toNat,Za,es⟩,ei z a.toNat,ei z (b.toNat-a.toNat),rfl,zE rfl,t,λ_=>rfl,p,r, .inl λw W=> ?_⟩⟩
    .simp only[Hp.add]at f⊢;split at f
     .omega
     .have:=g.ok q x f;omega
    .have:=g.ok i x f;simp only[Hp.add];rw[Zh];exact f
    .have:=g.ok _ _ W;omega
   refine ji.new (kill:=Y) g B (λ_ h=>by cases h) (zS (dm:=(s.w,(cP a.toNat (uM s)).length*s.w)) (n:=a.toNat) (m:=b.toNat) (yb:=⟨ei z b.toNat,Za,es⟩) rfl V2 V1 (zE rfl) ?_) U;rw[OM,C];exact bD _
 .cases h
def More.cellsOf :More->List VV
 | .cells l=>l
 | .lst s l=>fO s l
def Mt {x:Ab.Blk}{o n m:Nat}(h:o+n<=dt x.cells)(f:m<=n):rf x o m=O (((x.cells.drop o).take n).take m):=by
 unfold rf;rw[Zg,List.take_take,cW f]
def FQ (F:Rel c){q o n es:Nat}{dm:Nat×Nat}(f:(ae c.S q).dim=O dm)(H:dm.1=es)(I:G9 c q o n dm a):
  ∃g,E0 a=O n/\(∀m,m<=n->c.Z.slice es a m=O (g.take (m*es)))/\g.length=n*es/\F2 (VRel c) (((ae c.S q).vals.drop (o*es)).take (n*es)) g:=by
 subst H;rcases I with⟨rfl,rfl,rfl,A,Q⟩|⟨b,K,x,rfl,A,D,L,B,M⟩
 .refine⟨[],rfl,λm h=> ?_,V2,by simp;exact .nil⟩;have:m=0:=by omega
  subst this;simp[Hp.slice]
 .obtain⟨U,t,C,r,_,_,v,w⟩:=F.block f A;rw[B]at r;injection r with r
  subst r;have P:=w.length
  have J:(ae c.S q).vals.length=dm.2:=by
   generalize ae c.S q=blk at f;cases blk with
   |dead=>cases f
   |cells es z l=>injection f with f;subst f;rfl
   |arr s z l=>injection f with f;subst f;exact gH
  rw[cM]at D;have E:((t.drop (o*dm.1)).take (n*dm.1)).length=n*dm.1:=by rw[cK,cS];omega
  refine⟨(t.drop (o*dm.1)).take (n*dm.1),rfl,λm h=> ?_,E,(w.drop _).take _⟩;have u:m*dm.1<=n*dm.1:=cR _ h;by_cases p:m=0
  .subst p;simp[Hp.slice]
  simp only[Hp.slice,B,zF p];rw[Mt (n:=n*dm.1) (by rw[v,cD];omega) u,v,List.drop_append_of_le_length V1,dI (l₁:=t.drop (o*dm.1)) (by rw[cS];omega)]
def yC (P:Rel c){es:Nat}{v:VV}{m:More}(h:pG c.S es v=O m)(M:VRel c v a):
  ∃n r,E0 a=O n/\(∀i,i<=n->c.Z.slice es a i=O (r.take (i*es)))/\r.length=n*es/\F2 (VRel c) m.cellsOf r/\(∀s l,m= .lst s l->es=s.w/\n=l.length):=by
 cases v<;>simp only[pG]at h<;>try(cases h;done)
 case nils=>
  injection h with h;subst h
  cases M;refine⟨0,[],rfl,λi I=> ?_,V2, .nil,λs l h=>by cases h⟩;have:i=0:=by omega
  subst this;simp[Hp.slice]
 case str l=>
  cases g:aB es 1 with
  |false=>rw[g]at h;cases h
  |true=>
   rw[g]at h;have g:=aD g;subst g;injection h with h;subst h
   obtain⟨s,rfl,rfl⟩:=M.str_inv;refine⟨s.size,s.data.toList.map λb=> .int .u8 b.toNat,rfl,λi I=> ?_,V2, ?_,λJ l h=> ?_⟩
   .simp only[Hp.slice,if_true,dC];simp[ByteArray.data_extract,Array.toList_extract,List.extract_eq_take_drop,List.map_take]
   .simp only[More.cellsOf,eg,fO];generalize s.data.toList=l;induction l with
    |nil=>exact .nil
    |cons b l X=>exact .cons (.int _ _) X
   .injection h with u t
    subst u;cases t;exact⟨rfl,(wI s).symm⟩
 case lst s l=>
  cases g:aB es s.w with
  |false=>rw[g]at h;cases h
  |true=>
   rw[g]at h;have g:=aD g;subst g;injection h with h;subst h
   refine⟨l.length, ?_⟩;rcases M.listAt with⟨qq,rfl,rfl,U⟩|⟨b,p,cp,x,rfl,u,t,E,D,C⟩
   .refine⟨[],rfl,λi I=> ?_,V2, .nil,λJ l h=>by injection h with u t;subst u;cases t;exact⟨rfl,rfl⟩⟩;have:i=0:=by simp at I;exact I
    subst this;cases qq with
    |none=>simp[Hp.slice]
    |some z=>
     have:=U z rfl;obtain⟨zb,zo,zs⟩:=z;simp only at this;subst this;simp[Hp.slice]
   .refine⟨(x.cells.drop p).take (l.length*s.w),rfl,λi I=> ?_,by rw[<-C.length,gH],C,λJ Q h=>by injection h with u t;subst u;cases t;exact⟨rfl,rfl⟩⟩;by_cases L:i=0
    .subst L;simp[Hp.slice]
    simp only[Hp.slice,u,zF L];exact Mt D (cR _ I)
 case full q=>
  cases M with
  |full W _ K=>
   cases A:ae c.S q with
   |dead=>rw[A]at h;cases h
   |arr s z l=>
    rw[A]at h;cases g:aB es s.w with
    |false=>simp only[g]at h;cases h
    |true=>
     simp only[g]at h;have g:=aD g;subst g;injection h with h;subst h
     have f:(ae c.S q).dim=O (s.w,l.length*s.w):=by rw[A];rfl
     obtain⟨n,u,t⟩:=K _ f;have:n=l.length:=cO (nG s) u;subst this;obtain⟨r,E,D,C,B⟩:=FQ P f rfl t;rw[A,dE,cU,cL (by simp[Blk.vals,gH])]at B;exact⟨_,r,E,D,C,B,λJ Q h=>by injection h with u t;subst u;cases t;exact⟨rfl,rfl⟩⟩
   |cells F z l=>
    rw[A]at h;cases g:(aB es F&&cQ 1 es)with
    |false=>simp only[g]at h;cases h
    |true=>
     simp only[g]at h;rw[bB]at g;have H:=aD g.1;subst H;injection h with h;subst h
     have f:(ae c.S q).dim=O (es,l.length):=by rw[A];rfl
     obtain⟨n,u,t⟩:=K _ f;obtain⟨r,E,D,C,B⟩:=FQ P f rfl t;simp only at u;rw[A,dE,cU,u,cL (by exact bD _)]at B;exact⟨_,r,E,D,C,B,λJ Q h=>by cases h⟩
 case part q o n=>
  cases M with
  |part W _ K=>
   cases A:ae c.S q with
   |dead=>rw[A]at h;cases h
   |arr s z l=>
    rw[A]at h;cases g:aB es s.w with
    |false=>simp only[g]at h;cases h
    |true=>
     simp only[g]at h;have g:=aD g;subst g;injection h with h;subst h
     have f:(ae c.S q).dim=O (s.w,l.length*s.w):=by rw[A];rfl
     have t:=K _ f;obtain⟨r,E,D,C,B⟩:=FQ P f rfl t;rw[A]at B;simp only[Blk.vals]at B;rw[<-zL,<-mI]at B
     have V:n=((l.drop o).take n).length:=by
      have:=B.length;rw[gH,C]at this;exact(cO (nG s) this).symm
     exact⟨_,r,E,D,C,B,λJ Q h=>by injection h with u t;subst u;cases t;exact⟨rfl,V⟩⟩
   |cells F z l=>
    rw[A]at h;cases g:(aB es F&&cQ 1 es)with
    |false=>simp only[g]at h;cases h
    |true=>
     simp only[g]at h;rw[bB]at g;have H:=aD g.1;subst H;injection h with h;subst h
     have f:(ae c.S q).dim=O (es,l.length):=by rw[A];rfl
     have t:=K _ f;obtain⟨r,E,D,C,B⟩:=FQ P f rfl t;rw[A]at B;exact⟨_,r,E,D,C,B,λJ Q h=>by cases h⟩
def Base.cellsOf :Base->List VV
 | .none=>[]
 | .cells _ l=>l
 | .arr s l=>fO s l
structure BaseAt (c:Ctx)(es sl:Nat)(base:Base)(kill:Option Nat)(a:Value):Prop where
 no:kill=Y->a= .slice Y 0 0/\sl=0/\base= .none
 yes: ∀q,kill=O q->∃dm,(ae c.S q).dim=O dm/\dm.1=es/\(ae c.S q).frozen=Zb/\G9 c q 0 sl dm a/\base.cellsOf=(ae c.S q).vals.take (sl*es)
 es: ∀e l,base= .cells e l->e=es/\1<=es
def CW {dm:Nat×Nat}(h:blk.dim=O dm):dt blk.vals=dm.2:=by
 cases blk with
 |dead=>cases h
 |cells f z l=>cases h;rfl
 |arr s z l=>cases h;exact gH
def W2 {es:Nat}{v:VV}{u:Base}{kill:Option Nat}(U:Rel c)(h:Bn c.S es v=O (u,kill))(F:VRel c v a): ∃K,BaseAt c es K u kill a/\(dt u.cellsOf)=K*es/\(∀s l,u= .arr s l->es=s.w/\K=dt l):=by
 cases v<;>try(cases h;done)
 case nils=>
  simp only[Bn]at h;injection h with h
  injection h with p g
  subst p;subst g;cases F;exact⟨0,⟨λ_=>⟨rfl,rfl,rfl⟩,(λq h=>by cases h),(λe l h=>by cases h)⟩,by simp[Base.cellsOf],λs l h=>by cases h⟩
 case full q=>
  simp only[Bn]at h;cases F with
  |full P _ E=>
   cases t:ae c.S q with
   |dead=>rw[t]at h;cases h
   |arr s z l=>
    rw[t]at h;cases z with
    |true=>cases h
    |false=>
     simp only at h;cases r:aB es s.w with
     |false=>rw[r]at h;cases h
     |true=>
      rw[r]at h;have r:=aD r;subst r;injection h with h
      injection h with p g
      subst p;subst g;have f:(ae c.S q).dim=O (s.w,dt l*s.w):=by rw[t];rfl
      have⟨n,p,g⟩:=E _ f;have:n=dt l:=cO (nG s) p;subst this;refine⟨dt l,⟨(λh=>by cases h),λI h=> ?_,(λe l h=>by cases h)⟩,gH,λJ H h=>by injection h with p g;subst p;cases g;exact⟨rfl,rfl⟩⟩;cases h;refine⟨_,f,rfl,by rw[t];rfl,g, ?_⟩;rw[t];exact(cL (by rw[show(Base.arr s l).cellsOf=fO s l from rfl,gH];exact bD _)).symm
   |cells B z l=>
    rw[t]at h;cases z with
    |true=>cases h
    |false=>
     simp only at h;cases r:(aB es B&&cQ 1 es)with
     |false=>rw[r]at h;cases h
     |true=>
      rw[r]at h;rw[bB]at r;have D:=aD r.1;subst D;injection h with h
      injection h with p g
      subst p;subst g;have f:(ae c.S q).dim=O (es,dt l):=by rw[t];rfl
      have⟨n,p,g⟩:=E _ f;simp only at p;refine⟨n,⟨(λh=>by cases h),λI h=> ?_,λe l h=>by injection h with p g;exact⟨p.symm,cN r.2⟩⟩,p.symm,λJ H h=>by cases h⟩;cases h;refine⟨_,f,rfl,by rw[t];rfl,g, ?_⟩;rw[t,p];exact(cL (bD _)).symm
 case part q L n=>
  cases L with
  |succ L=>cases h
  |zero=>
   simp only[Bn]at h;cases F with
   |part P _ E=>
    cases t:ae c.S q with
    |dead=>rw[t]at h;cases h
    |arr s z l=>
     rw[t]at h;cases z with
     |true=>cases h
     |false=>
      simp only at h;cases r:aB es s.w with
      |false=>rw[r]at h;cases h
      |true=>
       rw[r]at h;have r:=aD r;subst r;injection h with h
       injection h with p g
       subst p;subst g;have f:(ae c.S q).dim=O (s.w,dt l*s.w):=by rw[t];rfl
       have g:=E _ f
       have Q:n<=dt l:=by
        rcases g with⟨_,_,C,_,_⟩|⟨b,M,x,_,_,C,_⟩
        .omega
        .rw[cB]at C;exact dJ C (nG s)
       have A:dt (l.take n)=n:=by rw[cK];omega
       refine⟨n,⟨(λh=>by cases h),λI h=> ?_,(λe l h=>by cases h)⟩,by simp only[Base.cellsOf];rw[gH,A],λJ H h=>by injection h with p g;subst p;cases g;exact⟨rfl,A.symm⟩⟩;cases h;refine⟨_,f,rfl,by rw[t];rfl,g, ?_⟩;rw[t];exact mI
    |cells B z l=>
     rw[t]at h;cases z with
     |true=>cases h
     |false=>
      simp only at h;cases r:(aB es B&&cQ 1 es)with
      |false=>rw[r]at h;cases h
      |true=>
       rw[r]at h;rw[bB]at r;have D:=aD r.1;subst D;injection h with h
       injection h with p g
       subst p;subst g;have f:(ae c.S q).dim=O (es,dt l):=by rw[t];rfl
       have g:=E _ f
       have Q:n*es<=dt l:=by
        rcases g with⟨_,_,C,_,_⟩|⟨b,M,x,_,_,C,_⟩
        .subst C;simp
        .rwa [cB]at C
       refine⟨n,⟨(λh=>by cases h),λI h=> ?_,λe l h=>by injection h with p g;exact⟨p.symm,cN r.2⟩⟩,by simp only[Base.cellsOf];rw[cK];omega,λJ H h=>by cases h⟩;cases h;exact⟨_,f,rfl,by rw[t];rfl,g,by rw[t];rfl⟩
def al2 {vs cs:List Value}(h:dt cs=dt vs):lg cs 0 vs=vs:=by
 induction vs generalizing cs with
 |nil=>simp only[lg];exact List.length_eq_zero_iff.1 h
 |cons v vs n=>
  cases cs with
  |nil=>simp at h
  |cons a cs=>
   have g:dt cs=dt vs:=by simpa using h
   show lg ((a::cs).set 0 v) (0+1) vs=_;have f:=zV vs [v] cs 0;simp only[dH,cT,List.singleton_append,cB]at f;rw[List.set_cons_zero,f,n g]
def QG {vs cs:List Value}{p:Nat}(h:p+dt vs<=dt cs):lg cs p vs=cs.take p++(vs++cs.drop (p+dt vs)):=by
 have:=MQ (vs:=vs) (cs:=cs) (p:=p) (o:=0) (w:=dt vs) V1 h;rw[Nat.add_zero,al2 (by rw[cK,cS];omega)]at this;exact this
def PC {x z:Ab.Blk}{b i:Nat}(h:((Z.set b Y).add x).m i=O z):i=Z.n∨(i≠b/\Z.m i=O z):=by
 by_cases p:i=Z.n
 .exact .inl p
 .refine .inr ?_;have q:((Z.set b Y).add x).m i=(Z.set b Y).m i:=zF p;rw[q]at h;by_cases f:i=b
  .have g:(Z.set b Y).m i=Y:=zE f;rw[g]at h;cases h
  .have g:(Z.set b Y).m i=Z.m i:=zF f;exact⟨f,g▸h⟩
def Rg {x:Ab.Blk}{b i:Nat}(f:i≠Z.n)(h:i≠b):((Z.set b Y).add x).m i=Z.m i:=by
 have g:((Z.set b Y).add x).m i=(Z.set b Y).m i:=zF f;have p:(Z.set b Y).m i=Z.m i:=zF h;exact g.trans p
structure Grown (c:Ctx)(base more:List VV)(es n:Nat)(blk:Blk):Prop where
 dim:blk.dim=O (es,n*es)
 fz:blk.frozen=Zb
 rel: ∀bs ms,F2 (VRel c) base bs->F2 (VRel c) more ms->F2 (VRel c) blk.vals (bs++ms)
def sZ {c1:Ctx}{es bytes g n:Nat}{F:Base}{kill:Option Nat}{more:List VV}{s:Operand}{all:List Value}(B:Rel c1)(hS:wy c.S c1.S)(hμ:c1.μ=c.μ)(J:c1.Z=c.Z)(hle:Le c c1)(hcalm:uO d c c1)
  (C:1<=es) (hb:BaseAt c es g F kill (ea.ev s)) (M: ∀q,kill=O q->(ae c1.S q).frozen=Zb)
  (E: ∀a sl' sc,ea.ev s= .slice a sl' sc->op.run ea c.Z=nr es bytes c.Z a sl' sc n all) (h3:all.length=n*es) (h4:F2 (VRel c1) more all) (h5:all.all one=Za) (D:Grown c1 F.cellsOf more es (g+n) blk)
  (hf:fd (g+n) bytes=Za) (hd: ∀q,kill=O q->q∈d) (hk:k (.full c1.S.length) (re c1.S kill++[blk])=O y):ci T op ea c.Z (ji c d k y):=by
 have t:(g+n)*bytes<=140737488355328/\g+n<=9223372036854775807:=by
  unfold fd at hf;rw[bB]at hf;have g1:=of_decide_eq_true hf.1;have g2:=cN hf.2;refine⟨g1, ?_⟩;have:(g+n)*1<=(g+n)*bytes:=dK _ g2;omega
 have hnew:all=[]->n=0:=by
  intro h;subst h;simp only[cT]at h3;rcases cZ n with h|h
  .exact h
  .have:=dD h C;omega
 have A: ∀{v:Value} {Z':Hp} {b1:Option Nat},Moves c1 kill b1 blk Z'->VRel ⟨wP c1 b1,re c1.S kill++[blk],Z',c1.fb⟩ (.full c1.S.length) v->ji c d k y v Z':=by
  intro v Z' b1 hm hv;exact⟨_,_,rfl,hle.trans (hm.le B),hm.rel B,hcalm.trans (hm.calm B hd) hle,hv,hk⟩
 cases kill with
 |none=>
  obtain⟨Q,e2,e3⟩:=hb.no rfl;subst e2;subst e3;by_cases X:n=0
  .subst X;have:all=[]:=by simpa using h3
   subst this;have u:Moves c1 Y Y blk c1.Z:=⟨(λ_ h=>by cases h),(λ_ h=>by cases h),B.ok,bD _,λ_ _ h _=>h,_,D.dim,C, .inl ⟨rfl,V2⟩⟩;refine cu (v:= .slice Y 0 0) (Z':=c.Z) ?_ ?_
   .rw[E _ _ _ Q];unfold nr;rw[zE V2];simp
   .rw[<-J];refine A u (.full (by simp[re]) rfl λd' p=> ?_);simp only[kI,if_true]at p;rw[D.dim]at p;injection p with p
    subst p;exact⟨0,V2, .inl ⟨rfl,rfl,rfl,by simp[wP],V2⟩⟩
  .have u:=TA B (blk:=blk) (x:=⟨all,Za,es⟩) D.dim C rfl rfl (by have:=D.rel [] all .nil h4;simpa using this);refine cu (v:= .slice (O ⟨c.Z.n,0,Y⟩) n n) (Z':=c.Z.add ⟨all,Za,es⟩) ?_ ?_
   .rw[E _ _ _ Q];unfold nr;rw[Zh,zE ⟨t.1,t.2,h5⟩];simp
   .rw[<-J];refine A u (zS (yb:=⟨all,Za,es⟩) D.dim V2 (bD _) (zE rfl) ?_);show n*es<=all.length;omega
 |some q=>
  obtain⟨f,g1,g2,g3,g4,g5⟩:=hb.yes q rfl;subst g2;have K:(ae c1.S q).dim=O f:=by rw[hS.dim];exact g1
  have W:(ae c1.S q).vals=(ae c.S q).vals:=hS.vals q;rcases g4 with⟨Q,_,e2,e3,e4⟩|⟨b,cp,yb,Q,e3,e4,e5,e6,e7⟩
  .subst e2;have hbase:F.cellsOf=[]:=by rw[g5];simp
   by_cases X:n=0
   .subst X;have:all=[]:=by simpa using h3
    subst this;have u:Moves c1 (O q) Y blk c1.Z:=⟨(λ_ h=>by cases h),(λ_ h=>by injection h with h;subst h;exact M q rfl),B.ok,bD _,λ_ _ h _=>h,_,D.dim,C, .inl ⟨rfl,V2⟩⟩;refine cu (v:= .slice Y 0 0) (Z':=c.Z) ?_ ?_
    .rw[E _ _ _ Q];unfold nr;rw[zE V2];simp
    .rw[<-J];refine A u (.full (by simp[yB]) rfl λd' p=> ?_);simp only[kI,if_true]at p;rw[D.dim]at p;injection p with p
     subst p;exact⟨0,V2, .inl ⟨rfl,rfl,rfl,by simp[wP],V2⟩⟩
   .have u:Moves c1 (O q) (O c1.Z.n) blk (c1.Z.add ⟨all,Za,f.1⟩):=by
     have U:=TA B (blk:=blk) (x:=⟨all,Za,f.1⟩) D.dim C rfl rfl (by have:=D.rel [] all (by rw[hbase];exact .nil) h4;simpa using this);refine⟨U.fr,(λ_ h=>by injection h with h;subst h;exact M q rfl),U.ok,U.n,λi z w _=>U.old i z w (λ⟨_,h,_⟩=>by cases h), ?_⟩;obtain⟨dd,k1,k2,k3⟩:=U.one;refine⟨dd,k1,k2, ?_⟩;rcases k3 with k3|⟨b',y',I,rest,k3,k4,k5,k6,k7,k8,k9⟩
     .exact .inl k3
     .refine .inr ⟨b',y',I,rest,k3,k4,k5,k6,k7,k8, .inl ?_⟩;rcases k9 with k9|⟨_,k9,_⟩
      .exact k9
      .cases k9
    refine cu (v:= .slice (O ⟨c.Z.n,0,Y⟩) n n) (Z':=c.Z.add ⟨all,Za,f.1⟩) ?_ ?_
    .rw[E _ _ _ Q];unfold nr;rw[Zh,zE ⟨t.1,t.2,h5⟩];simp
    .rw[<-J];refine A u (zS (yb:=⟨all,Za,f.1⟩) D.dim V2 (bD _) (zE rfl) ?_);show n*f.1<=all.length;omega
  .rw[dE]at Q;rw[cB]at e4 e7;have V:c1.μ q=O b:=by rw[hμ];exact e3
   obtain⟨yb',I,rest,f1,f2,f3,f4,f5⟩:=B.block K V;rw[J]at f1;rw[e6]at f1;injection f1 with f1
   subst f1;have P:=f3 (M q rfl);have hcl:I.length=f.2:=by rw[<-f5.length];exact CW K
   have hbs:F2 (VRel c1) F.cellsOf (I.take (g*f.1)):=by rw[g5,<-W];exact f5.take _
   have hrel:=D.rel _ _ hbs h4;have H:yb.cells.take (g*f.1)=I.take (g*f.1):=by rw[f4,dI V1]
   have hcp:g*f.1<=cp*f.1:=cR _ e5;by_cases r:g+n<=cp
   .have hroom':g*f.1+n*f.1<=cp*f.1:=by rw[<-cM];exact cR _ r
    have hset:lg yb.cells (g*f.1) all=I.take (g*f.1)++(all++yb.cells.drop (g*f.1+all.length)):=by rw[QG V1,H]
    have mk: ∀Z':Hp,Z'.Ok->Z'.n=c1.Z.n->(∀i,i≠b->Z'.m i=c1.Z.m i)->Z'.m b=O ⟨lg yb.cells (g*f.1) all,Za,yb.es⟩->Moves c1 (O q) (O b) blk Z':=by
     intro Z' ho X hm hb';refine⟨(λb' h w _=>by injection h with h;subst h;exact w _ (by rw[J];exact e6)),(λ_ h=>by injection h with h;subst h;exact M q rfl),ho,V1,λi z w hK=> ?_,(f.1,(g+n)*f.1),D.dim,C, .inr ⟨b,_,I.take (g*f.1)++all,yb.cells.drop (g*f.1+all.length),rfl,hb',f2,λ_=>rfl,by show lg _ _ _=_;rw[hset,cX],hrel, .inr ⟨q,rfl,V⟩⟩⟩;have:i≠b:=by rintro rfl;exact hK ⟨q,rfl,V⟩
     rw[hm i this];exact w
    have L: ∀Z':Hp,Z'.m b=O ⟨lg yb.cells (g*f.1) all,Za,yb.es⟩->VRel ⟨wP c1 (O b),re c1.S (O q)++[blk],Z',c1.fb⟩ (.full c1.S.length) (.slice (O ⟨b,0,Y⟩) (g+n) cp):=by
     intro Z' hb';refine zS D.dim rfl r hb' ?_;show cp*f.1<=(lg yb.cells (g*f.1) all).length;rw[Ce];exact e7
    by_cases X:all=[]
    .have hself:yb=⟨lg yb.cells (g*f.1) all,Za,yb.es⟩:=by
      subst X;cases yb;simp only[lg]at*;simp[P]
     refine cu (v:= .slice (O ⟨b,0,Y⟩) (g+n) cp) (Z':=c.Z) ?_ ?_
     .rw[E _ _ _ Q];unfold nr;rw[zE r];simp[X]
     .rw[<-J];have e6':c1.Z.m b=O ⟨lg yb.cells (g*f.1) all,Za,yb.es⟩:=by rw[<-hself,J];exact e6
      exact A (mk c1.Z B.ok rfl (λ_ _=>rfl) e6') (L _ e6')
    .refine cu (v:= .slice (O ⟨b,0,Y⟩) (g+n) cp) (Z':=c.Z.set b (O ⟨lg yb.cells (g*f.1) all,Za,yb.es⟩)) ?_ ?_
     .rw[E _ _ _ Q];unfold nr;rw[zE r];simp only[X,if_false,e6,cB];rw[FX P V1 h5]
     .rw[<-J];refine A (mk _ (λi z w=> ?_) rfl (λi hi=>by simp[Hp.set,hi]) Zx) (L _ Zx);simp only[Hp.set]at w;split at w
      .rename_i e;subst e;exact B.ok _ _ (by rw[J];exact e6)
      .exact B.ok _ _ w
   .have u:Moves c1 (O q) (O c1.Z.n) blk ((c1.Z.set b Y).add ⟨I.take (g*f.1)++all,Za,f.1⟩):=by
     refine⟨(λb h _ hb=>by injection h with h;subst h;exact Nat.lt_irrefl _ (B.fbl _ hb)),(λ_ h=>by injection h with h;subst h;exact M q rfl),λi z w=> ?_,Nat.le_succ _,λi z w hK=> ?_,(f.1,(g+n)*f.1),D.dim,C, .inr ⟨c1.Z.n,_,I.take (g*f.1)++all,[],rfl,zE rfl,rfl,λ_=>rfl,V2,hrel, .inl λz w=> ?_⟩⟩
     .show i<c1.Z.n+1;rcases PC w with U|⟨_,U⟩
      .omega
      .have:=B.ok i z U;omega
     .have U:i≠b:=by rintro rfl;exact hK ⟨q,rfl,V⟩
      have h9:=B.ok i z w;rw[Rg V1 U];exact w
     .have:=B.ok _ _ w;omega
    refine cu (v:= .slice (O ⟨c.Z.n,0,Y⟩) (g+n) (g+n)) (Z':=(c.Z.set b Y).add ⟨I.take (g*f.1)++all,Za,f.1⟩) ?_ ?_
    .rw[E _ _ _ Q];unfold nr;rw[zF r,zE ⟨t.1,t.2,h5⟩];simp only[e6];rw[zE ⟨P,f2⟩]
     have:rf yb 0 (g*f.1)=O (I.take (g*f.1)):=by
      unfold rf;rw[Zg,cU,H]
     rw[this]
    .rw[<-J];refine A u (zS (yb:=⟨I.take (g*f.1)++all,Za,f.1⟩) D.dim rfl (bD _) (zE rfl) ?_);show(g+n)*f.1<=(I.take (g*f.1)++all).length;rw[cD,cK,cM];omega
def Jl {S:ai}{cs:List VV}{l:List (El s)}{c1:Ctx}(f:Rel c1)(g:c1.S=S)(h:Ww S s cs=O l):dt cs=dt l*s.w/\∀as,F2 (VRel c1) cs as->F2 (VRel c1) (fO s l) as:=by
 subst g;exact IF (mJ f s) _ _ _ h
def Lg (hR:Rel c)(he:az c e ea){es bytes:Nat}{s:Operand}{mo:Option More}(hd: ∀q,zt (ev e s)=O q->q∈d)(h:Kv c.S es bytes (Bn c.S es (ev e s)) mo k=O y)
  (hm: ∀m,mo=O m->∃n all,(∀a sl' sc,ea.ev s= .slice a sl' sc->op.run ea c.Z=nr es bytes c.Z a sl' sc n all)/\all.length=n*es/\F2 (VRel c) m.cellsOf all/\(∀s l,m= .lst s l->es=s.w/\n=l.length)):ci T op ea c.Z (ji c d k y):=by
 have hs:=cn he s;unfold Kv at h;cases f:Bn c.S es (ev e s)with
 |none=>rw[f]at h;cases h
 |some p=>
  obtain⟨X,t⟩:=p;cases mo with
  |none=>rw[f]at h;cases X<;>cases h
  |some m=>
   obtain⟨sl,V,A,hba⟩:=W2 hR f hs;obtain⟨n,all,E,U,v,h5⟩:=hm m rfl
   have D: ∀q,t=O q->q∈d:=by
    intro q hq;refine hd q ?_;subst hq;cases hv:ev e s<;>rw[hv]at f<;>try(cases f;done)
    case full b=>
     simp only[Bn]at f;split at f
     .rename_i s' l hbb;cases B:aB es s'.w with
      |false=>rw[B]at f;cases f
      |true=>rw[B]at f;simp only[zC,cc,dl]at f;rw[<-f.2];rfl
     .rename_i es' l hbb;cases B:(aB es es'&&cQ 1 es)with
      |false=>rw[B]at f;cases f
      |true=>rw[B]at f;simp only[zC,cc,dl]at f;rw[<-f.2];rfl
     .cases f
    case part b lo m=>
     cases lo with
     |succ lo=>cases f
     |zero=>
      simp only[Bn]at f;split at f
      .rename_i s' l hbb;cases B:aB es s'.w with
       |false=>rw[B]at f;cases f
       |true=>rw[B]at f;simp only[zC,cc,dl]at f;rw[<-f.2];rfl
      .rename_i es' l hbb;cases B:(aB es es'&&cQ 1 es)with
       |false=>rw[B]at f;cases f
       |true=>rw[B]at f;simp only[zC,cc,dl]at f;rw[<-f.2];rfl
      .cases f
   have W: ∀q,t=O q->(ae c.S q).frozen=Zb:=by
    intro q hq;obtain⟨_,_,_,h,_⟩:=V.yes q hq;exact h
   rw[f]at h;have r: ∀(c1:Ctx) (l:List VV),F2 (VRel c1) l all->pF l=Za->all.all one=Za:=λc1 l h1 h2=>kX h1 h2
   cases X with
   |arr s' l=>
    obtain⟨g1,J⟩:=hba s' l rfl;subst g1;cases m with
    |lst s2 l'=>
     simp only at h;obtain⟨l2,k1,k2⟩:=ah h;obtain⟨ee,k3⟩:=mt k1;cases ee;subst k3;obtain⟨u,Q⟩:=au k2;obtain⟨_,F⟩:=h5 _ _ rfl;refine sZ hR (wy.refl _) rfl rfl (Le.refl c) (uO.refl d c) (nG _) V W E U v (r c _ v (td _ _)) ⟨?_,rfl,λbs ms H I=> ?_⟩ (by rw[J,F];exact u) D Q
     .simp only[Blk.dim,cD,J,F]
     .simp only[Blk.vals];rw[yA];exact H.append I
    |cells C=>
     simp only at h;split at h
     .rename_i s3 l3 M;obtain⟨l2,k1,k2⟩:=ah h;obtain⟨u,Q⟩:=au k2;have g:=FI c.S C;have L:Rel ⟨c.μ,He c.S C,c.Z,c.fb⟩:=g.rel hR;obtain⟨F,k7⟩:=Jl L rfl k1;have K:F2 (VRel ⟨c.μ,He c.S C,c.Z,c.fb⟩) C all:=VRel.frames g.le v
      have k8:n=l2.length:=by
       have:=v.length;simp only[More.cellsOf]at this;rw[F,U]at this;exact(cO (nG _) this).symm
      have P: ∀q,t=O q->(ae (He c.S C) q).frozen=Zb:=by
       intro q hq;subst hq;simp only[dL]at M;rw[M];rfl
      refine sZ (c1:=⟨c.μ,He c.S C,c.Z,c.fb⟩) L g rfl rfl g.le (g.calm d) (nG _) V P E U K (r _ _ (k7 _ K) (td _ _)) ⟨?_,rfl,λbs ms H I=> ?_⟩ (by rw[J,k8];exact u) D Q
      .simp only[Blk.dim,cD,J,k8]
      .simp only[Blk.vals];rw[yA];exact H.append (k7 _ I)
     .cases h
   |cells es0 l=>
    obtain⟨g1,J⟩:=V.es _ _ rfl;subst g1;cases m with
    |lst s2 l'=>
     simp only at h;obtain⟨w1,w2⟩:=h5 _ _ rfl;subst w1;split at h
     .rename_i s3 l3 M;obtain⟨l1,k1,k2⟩:=ah h;obtain⟨u,Q⟩:=au k2;have g:=FI c.S l;have L:Rel ⟨c.μ,He c.S l,c.Z,c.fb⟩:=g.rel hR;obtain⟨F,k7⟩:=Jl L rfl k1;have K:F2 (VRel ⟨c.μ,He c.S l,c.Z,c.fb⟩) (fO s2 l') all:=VRel.frames g.le v
      have k8:sl=l1.length:=by
       simp only[Base.cellsOf]at A;rw[F]at A;exact(cO (nG _) A).symm
      have P: ∀q,t=O q->(ae (He c.S l) q).frozen=Zb:=by
       intro q hq;subst hq;simp only[dL]at M;rw[M];rfl
      refine sZ (c1:=⟨c.μ,He c.S l,c.Z,c.fb⟩) L g rfl rfl g.le (g.calm d) (nG _) V P E U K (r _ _ K (td _ _)) ⟨?_,rfl,λbs ms H I=> ?_⟩ (by rw[w2,k8];exact u) D Q
      .simp only[Blk.dim,cD,w2,k8]
      .simp only[Blk.vals];rw[yA];exact(k7 _ H).append I
     .cases h
    |cells C=>
     simp only at h;obtain⟨u,Q⟩:=au h;rw[bB]at u;simp only[Base.cellsOf]at A;simp only[More.cellsOf]at v;have F:C.length=n*es0:=by rw[v.length];exact U
     refine sZ (blk:= .cells es0 Zb (l++C)) hR (wy.refl _) rfl rfl (Le.refl c) (uO.refl d c) J V W E U v (r c _ v u.2) ⟨?_,rfl,λbs ms H I=>F2.append (l:=l) H I⟩ ?_ D Q
     .simp only[Blk.dim,cD,A,F,cM]
     .have:(l.length+C.length) / es0=sl+n:=by rw[A,F,<-cM,dB _ J]
      rw[<-this];exact u.1
   |none=>
    have hsl:t=Y->sl=0:=λB=>(V.no B).2.1
    have hsl0: ∀(q:Nat),1<=es->sl=0:=by
     intro _ B;simp only[Base.cellsOf,cT]at A;rcases cZ sl with h|h
     .exact h
     .have:=dD h B;omega
    cases m with
    |lst s2 l'=>
     simp only at h;obtain⟨w1,w2⟩:=h5 _ _ rfl;subst w1;have hz:=hsl0 0 (nG _);subst hz;obtain⟨u,Q⟩:=au h;refine sZ hR (wy.refl _) rfl rfl (Le.refl c) (uO.refl d c) (nG _) V W E U v (r c _ v (td _ _)) ⟨?_,rfl,λbs ms H I=> ?_⟩ (by rw[w2];exact u) D Q
     .simp only[Blk.dim,cD,w2,cT]
     .cases H;exact I
    |cells C=>
     simp only at h;obtain⟨u,Q⟩:=au h;rw[bB,bB]at u;have J:=cN u.1.2;have hz:=hsl0 0 J;subst hz;simp only[More.cellsOf]at v;have F:C.length=n*es:=by rw[v.length];exact U
     refine sZ (blk:= .cells es Zb C) hR (wy.refl _) rfl rfl (Le.refl c) (uO.refl d c) J V W E U v (r c _ v u.2) ⟨?_,rfl,λbs ms H I=>by cases H;exact I⟩ ?_ D Q
     .simp only[Blk.dim,F,cB]
     .have:C.length / es=0+n:=by rw[F,dB _ J,cB]
      rw[<-this];exact u.1.1
def Yp {l:List (El s)}{bytes n:Nat}{all:List Value}(I:VRel c (.tgt s l) a)(L:dt all=n*s.w)(K:1<=n)(q:all.all one=Za)(r:fd (dt l+n) bytes=Za):
  ∃p v g,a= .slice p (dt l) v/\F2 (VRel c) (fO s l) g/\nr s.w bytes c.Z p (dt l) v n all=O (.slice (O ⟨c.Z.n,0,Y⟩) (dt l+n) (dt l+n),c.Z.add ⟨g++all,Za,s.w⟩):=by
 have f:(dt l+n)*bytes<=140737488355328/\(dt l)+n<=9223372036854775807:=by
  unfold fd at r;rw[bB]at r;have B:=of_decide_eq_true r.1;have C:=cN r.2;refine⟨B, ?_⟩;have:(dt l+n)*1<=(dt l+n)*bytes:=dK _ C;omega
 cases I with
 |tgtn H=>
  simp only[cT,cB]at f⊢;rcases H with rfl|⟨b,o,rfl⟩
  .refine⟨Y,0,[],rfl, .nil, ?_⟩;unfold nr;rw[Zh,zE ZV];simp
  .refine⟨_,0,[],rfl, .nil, ?_⟩;unfold nr;rw[Zh,zE ZV];simp
 |tgt M J E D t=>
  rename_i b p A;by_cases u:l=[]
  .subst u;simp only[cT,cB]at f⊢;refine⟨_,0,[],rfl, .nil, ?_⟩;unfold nr;rw[Zh,zE ZV];simp
  .have F:(dt l)≠0:=λh=>u (List.eq_nil_of_length_eq_zero h)
   refine⟨_,_,_,rfl,t, ?_⟩;unfold nr;rw[Zh,zE ⟨f.1,f.2,q⟩];simp only[F,if_false,J,E,if_true]
   have:rf A p (dt l*s.w)=O ((A.cells.drop p).take (dt l*s.w)):=by
    unfold rf;rw[zE D]
   rw[this]
def MW {c1:Ctx}{bytes n:Nat}{l t:List (El s)}{L:Operand}{all:List Value}(C:Rel c1)(J:c1.Z=c.Z)(u:Le c c1)(g:uO d c c1)
  (X:VRel c1 (.tgt s l) (ea.ev L)) (D: ∀a B E,ea.ev L= .slice a B E->op.run ea c.Z=nr s.w bytes c.Z a B E n all) (I:all.length=n*s.w) (V:F2 (VRel c1) (fO s t) all) (W:all.all one=Za) (K:n=t.length) (U:1<=n)
  (h:P8 c1.S bytes s Y l t k=O y):ci T op ea c.Z (ji c d k y):=by
 unfold P8 at h;obtain⟨H,Q⟩:=au h;rw[<-K]at H;obtain⟨p,E,f,M,F,P⟩:=Yp X I U W H;have A:F2 (VRel c1) (fO s (l++t)) (f++all):=by rw[yA];exact F.append V
 have r:=TA C (blk:= .arr s Zb (l++t)) (x:=⟨f++all,Za,s.w⟩) (d:=(s.w,(l++t).length*s.w)) rfl (nG s) rfl rfl A;refine cu (v:= .slice (O ⟨c.Z.n,0,Y⟩) (l.length+n) (l.length+n)) (Z':=c.Z.add ⟨f++all,Za,s.w⟩) ?_ ?_
 .rw[D _ _ _ M,<-J,P]
 .rw[<-J];refine⟨_,_,rfl,u.trans (r.le C),r.rel C,g.trans (r.calm C (λq h=>by cases h)) u, ?_,Q⟩;refine zS (yb:=⟨f++all,Za,s.w⟩) (dm:=(s.w,(l++t).length*s.w)) rfl (by simp[K]) (bD _) (zE rfl) ?_;show(l.length+n)*s.w<=(f++all).length;rw[cD,<-F.length,gH,I,cM];exact bD _
def am8 (M:Rel c)(he:az c e ea){es bytes:Nat}{l:List (El s)}{J:Operand}{I:Option More}(hs:ev e J= .tgt s l)(h:U6 c.S es bytes s l I k=O y)
  (hm: ∀m,I=O m->∃n f,(∀a v V,ea.ev J= .slice a v V->op.run ea c.Z=nr es bytes c.Z a v V n f)/\f.length=n*es/\F2 (VRel c) m.cellsOf f/\(∀s l,m= .lst s l->es=s.w/\n=l.length)):ci T op ea c.Z (ji c d k y):=by
 have D:=cn he J;rw[hs]at D;unfold U6 at h;cases I with
 |none=>cases h
 |some m=>
  obtain⟨n,f,u,C,A,X⟩:=hm m rfl;cases m with
  |lst s' l'=>
   simp only at h;obtain⟨U,E,F⟩:=ah h;obtain⟨W,k3⟩:=mt E;cases W;subst k3;obtain⟨p,H⟩:=au F;rw[bB]at p;have K:=aD p.1;have L:=cN p.2;subst K;obtain⟨_,B⟩:=X _ _ rfl;exact MW M rfl (Le.refl c) (uO.refl d c) D u C A (kX A (td _ _)) B (by rw[B];exact L) H
  |cells q=>
   simp only at h;obtain⟨U,E,F⟩:=ah h;obtain⟨p,H⟩:=au F;rw[bB]at p;have K:=aD p.1;have L:=cN p.2;subst K;have g:=FI c.S q;have t:Rel ⟨c.μ,He c.S q,c.Z,c.fb⟩:=g.rel M;obtain⟨B,P⟩:=Jl t rfl E;have r:F2 (VRel ⟨c.μ,He c.S q,c.Z,c.fb⟩) q f:=VRel.frames g.le A
   have Q:n=U.length:=by
    have:=A.length;simp only[More.cellsOf]at this;rw[B,C]at this;exact(cO (nG _) this).symm
   exact MW (c1:=⟨c.μ,He c.S q,c.Z,c.fb⟩) t rfl g.le (g.calm d) (D.frame g.le) u C (P _ r) (kX (P _ r) (td _ _)) Q (by rw[Q];exact L) H
def ar9 (n:Rel c)(p:az c e ea)(r:ev e x= .nils)(h:k (.int .i64 0) c.S=O y):ci T (.capN x) ea c.Z (ji c d k y):=by
 have f:=cn p x;rw[r]at f;have g:ea.ev x= .slice Y 0 0:=by generalize ea.ev x=q at f;cases f;rfl
 refine cu (v:= .int .i64 0) (Z':=c.Z) ?_ (ji.same n (.int _ _) h);simp only[AOp.run,g]
def TC (u:Rel c)(v:az c e ea){es bytes:Nat}{s:Operand}(F: ∀q,zt (ev e s)=O q->q∈d)(h:Lh c.S es bytes (ev e s) (ev e x) k=O y)(p:PH c.S es bytes (ev e s) (ev e x) k=O y->ci T (.append es bytes s x) ea c.Z (ji c d k y)):ci T (.append es bytes s x) ea c.Z (ji c d k y):=by
 unfold Lh at h;split at h
 .rename_i H l t;refine am8 u v t h λm r=> ?_
  have⟨n,g,w,A,B,C,D⟩:=yC u r (cn v x);have f:=A n (bD _);rw[cL V1]at f;refine⟨n,g,λa E I t=> ?_,B,C,D⟩;simp only[AOp.run,t,w,f]
 .exact p h
def WY (r:Rel c)(t:az c e ea){es bytes:Nat}{s:Operand}(C: ∀q,zt (ev e s)=O q->q∈d)(h:PH c.S es bytes (ev e s) (ev e x) k=O y):ci T (.append es bytes s x) ea c.Z (ji c d k y):=by
 refine Lg r t C h λm p=> ?_
 have⟨n,g,u,v,w,A,B⟩:=yC r p (cn t x);have f:=v n (bD _);rw[cL V1]at f;refine⟨n,g,λa E F D=> ?_,w,A,B⟩;simp only[AOp.run,D,u,f]
def TD (K:Rel c)(p:az c e ea){es bytes:Nat}{z:List Value}{s:Operand}(L: ∀q,zt (ev e s)=O q->q∈d)(h:Li c.S es bytes z (ev e s) (ev e x) k=O y):ci T (.appendZ es bytes z s x) ea c.Z (ji c d k y):=by
 have B:=cn p x;unfold Li at h;split at h
 .rename_i U l M;rw[M]at B;obtain⟨g,h⟩:=au h;unfold my at g;rw[bB,bB]at g;have E:=of_decide_eq_true g.1;have F:=of_decide_eq_true g.2.1;have H:=of_decide_eq_true g.2.2;refine Lg K p L h λm f=> ?_
  unfold Tn at f;split at f
  .rename_i r P;cases u:aB es r.w with
   |false=>rw[u]at f;cases f
   |true=>
    rw[u]at f;simp only[zC,cc]at f;subst f;have p:=aD u;subst p;have C:=Cf (c:=c) P;have A:z.length=r.w:=by rw[<-C.length,ej]
    refine⟨l.toNat,ei z l.toNat,λa Q X v=> ?_,by rw[yt,A], ?_,λW V I=> ?_⟩
    .simp only[AOp.run,v,B.int_inv];rw[zE ⟨E,F,H⟩]
    .show F2 (VRel c) (fO r (cP l.toNat (uM r))) (ei z l.toNat);rw[sF];generalize l.toNat=n;induction n with
     |zero=>exact .nil
     |succ n D=>
      simp only[ei,cV,cY]at D⊢;exact C.append D
    .injection I with J t
     subst J;have t:=eq_of_heq t;rw[<-t,List.length_replicate];exact⟨rfl,rfl⟩
  .cases f
 .cases h
def OF {S:ai}{q:Nat}:mx S q (ae S q)=S:=by
 induction S generalizing q with
 |nil=>rfl
 |cons a r f=>
  cases q with
  |zero=>rfl
  |succ q=>simp only[mx,ae,f]
def al3 {b:Nat}{x:Ab.Blk}(h:Z.m b=O x):Z.set b (O x)=Z:=by
 have:(λi=>if i=b then O x else Z.m i)=Z.m:=by
  funext i
  by_cases f:i=b
  .rw[zE f,f,h]
  .rw[zF f]
 show Hp.mk _ _=_;rw[this]
def aa6 {es n m b o t:Nat}{all:List Value}{f:Ab.Blk}(w:ea.ev x= .slice (O ⟨b,o,Y⟩) n t)(u:E0 (ea.ev z)=O m)(v:c.Z.slice es (ea.ev z) (min m n)=O all)(r:c.Z.m b=O f)
  (g:f.own=Za) (h:o+dt all<=dt f.cells) (p:all.all one=Za):(AOp.copy es x z).run ea c.Z=O (.int .i64 (min m n:Nat),c.Z.set b (O ⟨lg f.cells o all,Za,f.es⟩)):=by
 simp only[AOp.run,w,u,v];by_cases q:all=[]
 .rw[zE q];subst q;have:(⟨lg f.cells o [],Za,f.es⟩:Ab.Blk)=f:=by cases f;simp only[lg]at*;simp[g]
  rw[this,al3 r]
 .rw[zF q,r];simp only[FX g h p]
def N2 (h:Rel c){es q o n m:Nat}{dm:Nat×Nat}{all:List Value}(f:(ae c.S q).dim=O dm)(F:dm.1=es)(U:(ae c.S q).frozen=Zb)(hs:G9 c q o n dm (ea.ev x))
  (M:E0 (ea.ev z)=O m) (P:c.Z.slice es (ea.ev z) (min m n)=O all) (Q:all.length=min m n*es) (h5:all.all one=Za) (hd:q∈d) (D:blk.dim=O dm) (E:blk.frozen=Zb) (r:dm.2=0->blk=ae c.S q)
  (t: ∀cs,F2 (VRel c) (ae c.S q).vals cs->F2 (VRel c) blk.vals (lg cs (o*es) all)) (H:k (.int .i64 (min m n:Nat)) (mx c.S q blk)=O y):ci T (.copy es x z) ea c.Z (ji c d k y):=by
 subst F;rcases hs with⟨C,w,J,V,g⟩|⟨b,cp,B,C,w,J,V,g,e6⟩
 .subst w;subst J;have:all=[]:=by simpa using Q
  subst this;refine cu (v:= .int .i64 (min m 0:Nat)) (Z':=c.Z) ?_ (ji.same h (.int _ _) ?_)
  .simp only[AOp.run,C,M,P];simp
  .rw[r g,OF]at H;exact H
 .obtain⟨y0,cs,u,A,W,X,K,L⟩:=h.block f w;rw[g]at A;injection A with A
  subst A;have hl:=L.length;rw[CW f]at hl
  have hle:o*dm.1+min m n*dm.1<=dm.2:=by
   have:(o+min m n)*dm.1<=(o+n)*dm.1:=cR _ V1;rw[cM]at this;omega
  have p:o*dm.1+all.length<=B.cells.length:=by rw[K,cD,Q];omega
  have I:Writes c q b blk ⟨lg B.cells (o*dm.1) all,Za,B.es⟩:=⟨U,w,D.trans f.symm,E,B,lg cs (o*dm.1) all,u,dm,g,f,W,rfl,Ce _ _ _,by show lg _ _ _=_;rw[K,E7 _ _ _ _ V1],t cs L⟩;exact cu (aa6 C M P g (X U) p h5) ⟨_,_,rfl,I.le h,I.rel h,I.calm h hd, .int _ _,H⟩
def I5 {E:IntKind}: ∀{cs r:List VV} {m ml:Zd} {j:Nat} {as g:List Value},HX E m j cs=O r->F2 (VRel c) cs as->F2 (VRel c) (ml.map (VV.int E)) g->ml=(m.drop j).take (dt cs)->
  F2 (VRel c) r (g++as.drop (dt g))
 |[],r,m,ml,j,as,g,h,A,t,f=>by
  simp only[HX]at h;cases h
  cases A;simp at f;subst f;cases t;exact .nil
 |v::cs,r,m,ml,j,as,g,h,A,t,f=>by
  cases v<;>simp only[HX]at h<;>try(cases h;done)
  rename_i K n;cases q:Zc (K=E)with
  |false=>rw[q]at h;cases h
  |true=>
   rw[q,zC]at h;have q:=of_decide_eq_true q;subst q;have⟨L,F,u⟩:=ah h;cases u;cases A with
   |cons B p=>
    rename_i a as;have I:=B.int_inv;subst I;by_cases H:j<dt m
    .have w:m.drop j=m[j]::m.drop (j+1):=List.drop_eq_getElem_cons H;rw[w]at f;simp only[dH,List.take_succ_cons]at f;subst f;cases t with
     |cons C D=>
      rename_i b g;have J:=C.int_inv;subst J;have:=I5 F p D rfl;rw[dG,List.getElem?_eq_getElem H];exact .cons (.int _ _) this
    .have w:m.drop j=[]:=dF V1;rw[w]at f;simp only[List.take_nil]at f;subst f;cases t;have:=I5 (ml:=[]) F p .nil (by rw[dF V1];simp);rw[dG,List.getElem?_eq_none V1];exact .cons (.int _ _) this
def OA {p:IntKind}{m:Zd}: ∀{cs r:List VV} {j:Nat},HX p m j cs=O r->dt r=dt cs
 |[],r,j,h=>by cases h;rfl
 |v::cs,r,j,h=>by
  cases v<;>simp only[HX]at h<;>try(cases h;done)
  rename_i t n;cases g:Zc (t=p)with
  |false=>rw[g]at h;cases h
  |true=>
   rw[g,zC]at h;have⟨u,q,f⟩:=ah h;cases f;simp[OA q]
def R4 {f:IntKind}{m:Zd}:fO (.int f) m=m.map (VV.int f):=by
 induction m with
 |nil=>rfl
 |cons a m g=>rw[gz,g];rfl
def IA {α:Type}{l m:List α}{o n:Nat}(h:o+n<=dt l):BU l o n m=l.take o++(m.take (min (dt m) n)++l.drop (o+min (dt m) n)):=by
 unfold BU;rw[Nat.min_comm n (dt m)]
 congr 2
 by_cases f:n<=dt m
 .rw[Nat.min_eq_right f]
 .rw[cW V1,cL V1,cL V1]
def Y6 {α:Type}{l m:List α}{o n:Nat}(h:o+n<=dt l):dt (BU l o n m)=dt l:=by
 rw[IA h];simp only[cD,cK,cS];omega
def RB (Q:Rel c){es q o n:Nat}{l A:List (El s)}{mc:List VV}{m:Nat}{g:List Value}(v:ae c.S q= .arr s Zb l)(I:G9 c q o n (s.w,l.length*s.w) (ea.ev x))(V:es=s.w)
  (K:E0 (ea.ev z)=O m) (L: ∀i,i<=m->c.Z.slice es (ea.ev z) i=O (g.take (i*es))) (M:g.length=m*es) (P:F2 (VRel c) (fO s A) g) (H:m=A.length) (U:q∈d)
  (E:k (.int .i64 (min A.length n:Nat)) (mx c.S q (.arr s Zb (BU l o n A)))=O y):ci T (.copy es x z) ea c.Z (ji c d k y):=by
 subst V;have u:(ae c.S q).dim=O (s.w,l.length*s.w):=by rw[v];rfl
 have p:o+n<=l.length:=by
  rcases I with⟨_,e2,D,_,_⟩|⟨b,X,yb,_,_,D,_⟩
  .omega
  .exact dJ D (nG s)
 have B:=L (min m n) (dA _ _)
 have t:(g.take (min m n*s.w)).length=min m n*s.w:=by
  rw[cK,M,cW];exact cR _ (dA _ _)
 have r:=P.take (min m n*s.w);rw[<-mI]at r;rw[<-H]at E;refine N2 Q u rfl (by rw[v];rfl) I K B t (kX r (td _ _)) U ?_ rfl (λJ=> ?_) (λcs f=> ?_) E
 .simp only[Blk.dim,Y6 p]
 .have:l.length=0:=by
   rcases cZ l.length with h|h
   .exact h
   .have:=dD h (nG s);simp only at J;omega
  rw[v,IA p];rw[List.length_eq_zero_iff]at this;subst this;have W:n=0:=by simp at p;omega
  subst W;simp
 .rw[v]at f;simp only[Blk.vals]at f⊢;have C:=f.length;rw[gH]at C;have F:o*s.w+min m n*s.w<=l.length*s.w:=by rw[<-cM];exact cR _ V1
  rw[QG (by rw[t];omega),IA p,yA,yA,mI,zL,t,<-H,cM];exact(f.take _).append (r.append (f.drop _))
def as7 (M:Rel c)(he:az c e ea){es:Nat}(hd: ∀q,zt (ev e x)=O q->q∈d)(h:aa5 c.S es (ev e x) (ev e z) k=O y):ci T (.copy es x z) ea c.Z (ji c d k y):=by
 have hx:=cn he x;have hz:=cn he z;unfold aa5 at h
 have go: ∀(q o n:Nat) (U:Nat×Nat),(ae c.S q).dim=O U->q∈d->G9 c q o n U (ea.ev x)->
   (match ae c.S q,pG c.S es (ev e z)with
   | .arr s Zb l,O (.lst s' l')=>(nu (.list s') (.list s) l').bind λK=>gd (aB es s.w) (k (.int .i64 (min K.length n:Nat)) (mx c.S q (.arr s Zb (BU l o n K))))
   | .arr s Zb l,O (.cells L)=>(DF .u64 L).bind λm=>(nu (.list (.int .u64)) (.list s) m).bind λK=>gd (aB es s.w) (k (.int .i64 (min K.length n:Nat)) (mx c.S q (.arr s Zb (BU l o n K))))
   | .cells 1 Zb l,O (.lst (.int kd) m)=>gd (aB es 1&&cQ (o+n) l.length) (match HX kd m 0 ((l.drop o).take n)with
    |some c'=>k (.int .i64 (min m.length n:Nat)) (mx c.S q (.cells 1 Zb (l.take o++c'++l.drop (o+n))))
    |none=>Y)
   |_,_=>Y)=O y->ci T (.copy es x z) ea c.Z (ji c d k y):=by
  intro q o n U f Q hs h;split at h
  .rename_i s l s' l' g X;obtain⟨m,r,u,v,A,B,h5⟩:=yC M X hz;obtain⟨K,I,J⟩:=ah h;obtain⟨ee,k3⟩:=mt I;cases ee;subst k3;obtain⟨k4,k5⟩:=au J;rw[g]at f;injection f with f
   subst f;exact RB (mc:=[]) M g hs (aD k4) u v A B (h5 _ _ rfl).2 Q k5
  .rename_i s l L g X;obtain⟨m,r,u,v,A,B,h5⟩:=yC M X hz;obtain⟨ml,k0,I⟩:=ah h;obtain⟨K,I,J⟩:=ah I;obtain⟨ee,k3⟩:=mt I;cases ee;subst k3;obtain⟨k4,k5⟩:=au J;rw[g]at f;injection f with f
   subst f;have p:=IV k0;simp only[More.cellsOf]at B;rw[p,<-R4]at B;have E:=aD k4
   have F:m=K.length:=by
    have:=B.length;rw[gH,A,E]at this;exact(cO (nG _) this).symm
   exact RB (mc:=[]) M g hs E u v A B F Q k5
  .rename_i l kd ml g X;obtain⟨m,r,u,v,A,B,h5⟩:=yC M X hz;obtain⟨I,J⟩:=au h;rw[bB]at I;have E:=aD I.1;have hle:=cN I.2;subst E;split at J
   .rename_i c' H;have F:=(h5 _ _ rfl).2;rw[g]at f;injection f with f
    subst f;have h2':=v (min m n) (dA _ _);have P:(r.take (min m n*1)).length=min m n*1:=by rw[cK,A,cW];omega
    simp only[More.cellsOf]at B;have V:F2 (VRel c) (fO (.int kd) (ml.take (min m n))) (r.take (min m n*1)):=by rw[mI];exact B.take (min m n*1)
    have hc':=OA H;have W:((l.drop o).take n).length=n:=by rw[cK,cS];omega
    rw[<-F]at J;refine N2 M Zj rfl Zj hs u h2' P (kX V (td _ _)) Q ?_ rfl (λh0=> ?_) (λL p=> ?_) J
    .simp only[Blk.dim,cD,cK,cS,hc']
     congr 2
     omega
    .simp only at h0;have:l=[]:=List.length_eq_zero_iff.1 h0;subst this;rw[g];simp at hle;have t:n=0:=by omega
     subst t;simp[HX]at H;subst H;simp
    .rw[g]at p;simp only[Blk.vals]at p⊢;have hcl:=p.length;rw[QG (by rw[P];omega),cX,dC];refine(p.take _).append ?_;have h6:=I5 (ml:=ml.take (min m n)) H ((p.drop o).take n) (by rw[<-R4];exact V) (by rw[W,cU,F,Nat.min_comm,<-List.take_take,cL (l:=ml) (bD _)])
     have h7:L.drop (o+(r.take (min m n*1)).length)=((L.drop o).take n).drop (r.take (min m n*1)).length++L.drop (o+n):=by
      rw[P,dC,List.drop_take,List.drop_drop]
      conv=>lhs;rw[<-List.take_append_drop (n-min m n) (L.drop (o+min m n))]
      rw[List.drop_drop]
      congr 2
      omega
     rw[h7,<-cX];exact h6.append (p.drop _)
   .cases J
  .cases h
 generalize ev e x=xv at*;cases xv<;>try(cases h;done)
 case full q=>
  simp only at h;cases hx with
  |full hk _ C=>
   split at h
   .rename_i n t;cases g:ae c.S q with
    |dead=>simp only[lenOf,g]at t;cases t
    |arr s z' l=>
     simp only[lenOf,g]at t;injection t with t
     have f:(ae c.S q).dim=O (s.w,l.length*s.w):=by rw[g];rfl
     obtain⟨n',u,v⟩:=C _ f;have:n'=n:=by rw[<-t];exact cO (nG s) u
     subst this;exact go q 0 n' _ f (hd q rfl) v h
    |cells es' z' l=>
     simp only[lenOf,g]at t;injection t with t
     have f:(ae c.S q).dim=O (es',l.length):=by rw[g];rfl
     obtain⟨n',u,v⟩:=C _ f;have A:=(M.blk q _ f).1
     have:n'=n:=by
      simp only at u A;rw[<-t,<-u,dB _ A]
     subst this;exact go q 0 n' _ f (hd q rfl) v h
   .cases h
 case part q o n=>
  simp only at h;cases hx with
  |part hk _ C=>
   cases D:(ae c.S q).dim with
   |none=>
    have:ae c.S q= .dead:=by
     generalize ae c.S q=blk at D;cases blk<;>first|rfl|(cases D;done)
    rw[this]at h;cases h
   |some U=>exact go q o n U D (hd q rfl) (C U D) h
end
end
section
section
variable {β:Type} {T:Ab.iU} {c:Ctx} {e:co} {ea:cm} {d:List Nat} {k:VV->ai->Option β} {y:β}
def GL (s:ByteArray):dt (eg s)=s.size:=by
 simp[eg]
def ax3 (f:Rel c)(h:k (.bld (dt c.S)) (c.S++[.cells 1 Zb [.str []]])=O y):ci T .newB ea c.Z (ji c d k y):=by
 refine cu (v:= .iface c.Z.n .nilFunc) (Z':=c.Z.add ⟨[.string ByteArray.empty],Za,1⟩) (by simp only[AOp.run]) ?_;refine ji.new (kill:=Y) f (TA f (blk:= .cells 1 Zb [.str []]) (x:=⟨[.string ByteArray.empty],Za,1⟩) (d:=(1,1)) rfl (Nat.le_refl _) rfl rfl (.cons (.str rfl) .nil)) (λ_ h=>by cases h) ?_ h;refine .bld (by simp[re]) rfl λg _=>⟨c.Z.n, ?_,rfl⟩
 simp[wP]
def VRel.it_inv {q:Nat}{l:Zd}(h:VRel c (.it q l) a): ∃s,eg s=l/\∀d,(ae c.S q).dim=O d->∃b,c.μ q=O b/\a= .iface b (.string s):=by
 cases h with
 |it _ _ g f=>exact⟨_,g,f⟩
def RS : ∀{cs:List VV} {as:List Value} {l:Zd},DF .u8 cs=O l->F2 (VRel c) cs as->Bp as=O l
 |[],_,l,h,f=>by
  cases f;cases h;rfl
 |v::cs,_,l,h,f=>by
  cases f with
  |cons q t=>
   cases v with
   |int u n=>
    unfold DF at h;by_cases p:u= .u8
    .subst p;rw[zB rfl,zC]at h;cases g:DF .u8 cs with
     |none=>rw[g]at h;cases h
     |some r=>
      rw[g]at h;cases h;cases q;unfold Bp;rw[RS g t];rfl
    .rw[zA p]at h;cases h
   |_=>cases h
def LS : ∀{l:Zd} {as:List Value},F2 (VRel c) (fO (.int .u8) l) as->Bp as=O l
 |[],_,f=>by cases f;rfl
 |n::l,_,f=>by
  cases f with
  |cons g h=>
   cases g;unfold Bp;rw[LS (l:=l) h];rfl
def aR1 (l:Zd):eg (U1 l)=l.map wH:=by
 have f: ∀(l:Zd) (s:ByteArray),eg (l.foldl (λr n=>r.push (UInt8.ofNat n.toNat)) s)=eg s++l.map wH:=by
  intro l;induction l with
  |nil=>intro s;simp
  |cons n l g=>
   intro s;rw[List.foldl_cons,g,List.map_cons]
   have:eg (s.push (UInt8.ofNat n.toNat))=eg s++[wH n]:=by
    simp[eg,wH,ByteArray.push]
   rw[this,List.append_assoc];rfl
 have:=f l ByteArray.empty;simpa[U1,eg]using this
def am1 (L:Rel c)(he:az c e ea)(h:U2 c.S (ev e x) k=O y):ci T (.strOf x) ea c.Z (ji c d k y):=by
 have P:=cn he x
 have w: ∀(m:More) (l:Zd),(∀t,ev e x≠ .str t)->pG c.S 1 (ev e x)=O m->(∀as,F2 (VRel c) m.cellsOf as->Bp as=O l)->k (.str (l.map wH)) c.S=O y->ci T (.strOf x) ea c.Z (ji c d k y):=by
  intro m l g f X hk;have⟨n,C,K,U,h3,V,_⟩:=yC L f P;have D:=U n (Nat.le_refl _);rw[Nat.mul_one,List.take_of_length_le V1]at D;have W:=X C V
  obtain⟨p,J,M⟩: ∃p J,ea.ev x= .slice p n J:=by
   generalize ea.ev x=a at*;cases a<;>simp[E0]at K
   .generalize ev e x=v at*
    have u: ∀q,(pG c.S 1 (.full q)=O m∨∃o n,pG c.S 1 (.part q o n)=O m)->∃d,(ae c.S q).dim=O d:=by
     intro q A;cases hg:ae c.S q with
     |dead=>rcases A with A|⟨_,_,A⟩<;>simp[pG,hg]at A
     |cells es z l=>exact⟨_,rfl⟩
     |arr s z l=>exact⟨_,rfl⟩
    cases P with
    |str _=>exact(g _ rfl).elim
    |undef=>simp[pG]at f
    |ptr _ _ _=>simp[pG]at f
    |it _ _ _ _=>simp[pG]at f
    |bld _ _ _=>simp[pG]at f
    |pix _ _ _ _=>simp[pG]at f
    |pel _ _ _=>simp[pG]at f
    |tgtn _=>simp[pG]at f
    |full _ _ F=>
     have⟨d,r⟩:=u _ (.inl f);have⟨_,_,B⟩:=F d r;rcases B with⟨e,_⟩|⟨_,_,_,e,_⟩<;>cases e
    |part _ _ F=>
     have⟨d,r⟩:=u _ (.inr ⟨_,_,f⟩);rcases F d r with⟨e,_⟩|⟨_,_,_,e,_⟩<;>cases e
   .subst K;exact⟨_,_,rfl⟩
  refine cu (v:= .string (U1 l)) (Z':=c.Z) ?_ (ji.same L (.str (aR1 l)) hk);rw[M]at D;simp only[AOp.run,M,D,W,Option.map_some]
 unfold U2 at h;split at h
 .cases h
 .rename_i g;split at h
  .rename_i s l f;by_cases B:s= .int .u8
   .subst B;rw[nO]at h;exact w _ l (λt I=>g t I) f (λas E=>LS E) h
   .unfold nu at h;rw[dif_neg (λe=>B (by injection e))]at h;cases h
  .rename_i Q f;cases H:DF .u8 Q with
   |none=>rw[H]at h;cases h
   |some l=>
    rw[H]at h;exact w _ l (λt I=>g t I) f (λas E=>RS H E) h
  .cases h
end
end
section
open Bool renaming and_eq_true -> cB
open List renaming append_assoc -> aD, singleton_append -> bD, mem_cons_of_mem -> cD, getElem?_eq_none -> cL, length_take -> cM, take_of_length_le -> cN
open Nat renaming beq -> aB, eq_of_beq_eq_true -> bB, lt_or_ge -> cK
structure Still (c ct:Ctx):Prop where
 Z:ct.Z=c.Z
 nm: ∀b y,c.Z.m b=O y->¬c.mut b->¬ct.mut b
section
variable {c ct:Ctx}
def se (h:Still c ct): ∀(s:Sh) (x:El s) (as:List Value),F2 (VRel c) (dy s x) as->F2 (VRel ct) (dy s x) as
 | .int k,n,as,f=>by
  cases f with
  |cons g q=>cases q;cases g;exact .cons (.int _ _) .nil
 | .bool,b,as,f=>by
  cases f with
  |cons g q=>cases q;cases g;exact .cons (.bool _) .nil
 | .str,l,as,f=>by
  cases f with
  |cons g q=>cases q;cases g;exact .cons (.str ZI) .nil
 | .list s,l,as,f=>by
  cases f with
  |cons g q=>
   cases q;refine .cons ?_ .nil;cases g with
   |lstn I=>exact .lstn I
   |lst E v D A B C r=>
    refine .lst (h.nm _ _ v E) (by rw[h.Z];exact v) D A B C ?_;clear v D B C E;subst A;revert r;rename_i b p H y;generalize (y.cells.drop _).take _=as;clear y H p b;intro r;induction l generalizing as with
    |nil=>cases r;exact .nil
    |cons x l J=>
     rw[gz]at r⊢;obtain⟨w,F,rfl,t,u⟩:=F2.app_left r;exact(se h s x w t).append (J _ u)
 | .pair a b,x,as,f=>by
  simp only[dy]at f⊢;obtain⟨w,F,rfl,t,u⟩:=F2.app_left f;exact(se h a x.1 w t).append (se h b x.2 F u)
def JF (h:Still c ct){l:List (El s)}: ∀{as:List Value},F2 (VRel c) (fO s l) as->F2 (VRel ct) (fO s l) as:=by
 induction l with
 |nil=>intro as f;cases f;exact .nil
 |cons x l p=>
  intro as f;rw[gz]at f⊢;obtain⟨q,r,rfl,g,n⟩:=F2.app_left f;exact(se h s x q g).append (p n)
def zf.still (h:Still c ct){l:List (El s)}(v:zf c s l a):zf ct s l a:=by
 rcases v with f|⟨b,p,g,y,f,n,q,r,t,u⟩
 .exact .inl f
 .exact .inr ⟨b,p,g,y,f,by rw[h.Z];exact n,q,r,t,JF h u⟩
structure Sub (st st':DSt):Prop where
 m: ∃t,st'.m=st.m++t
 lent: ∀k∈st.lent,k∈st'.lent
def Sub.refl (st:DSt):Sub st st:=⟨⟨[],V2⟩,λ_ h=>h⟩
def Sub.trans {a b d:DSt}(h:Sub a b)(k:Sub b d):Sub a d:=by
 have⟨t,f⟩:=h.m;have⟨u,g⟩:=k.m;exact⟨⟨t++u,by rw[g,f,aD]⟩,λi n=>k.lent i (h.lent i n)⟩
def Em (N:Nat)(m:List (Option Src))(j:Nat)(x:Option Src):Prop:=(j<N/\x=O ⟨j,Y⟩)∨(N<=j/\nth m (j-N)=O x)
def HU {α:Type}{l t:List α}{x:α}(h:nth l i=O x):nth (l++t) i=O x:=by
 rw[xu]at h⊢
 have f:i<dt l:=by
  rcases cK i (dt l) with h1|h1
  .exact h1
  .rw[cL h1]at h;cases h
 rw[List.getElem?_append_left f];exact h
def Em.sub (p:Sub st st'){x:Option Src}(h:Em N st.m j x):Em N st'.m j x:=by
 rcases h with h|⟨f,g⟩
 .exact .inl h
 .obtain⟨t,n⟩:=p.m;exact .inr ⟨f,by rw[n];exact HU g⟩
def AM {x:Option Src}(h:st.link N j x=O st'):Em N st'.m j x/\st'.ls=st.ls/\st'.lent=st.lent/\Sub st st':=by
 unfold DSt.link at h;cases g:Nat.blt j N with
 |true=>
  rw[g,zC]at h;split at h
  .rename_i k;cases f:aB k j with
   |false=>rw[f]at h;cases h
   |true=>
    rw[f]at h;cases h;have:=bB f;subst this;exact⟨.inl ⟨Nat.le_of_ble_eq_true g,rfl⟩,rfl,rfl,Sub.refl _⟩
  .cases h
 |false=>
  rw[g,zD]at h
  have n:N<=j:=by
   rcases cK j N with h1|h1
   .rw[show Nat.blt j N=Za from Nat.ble_eq_true_of_le h1]at g;cases g
   .exact h1
  split at h
  .rename_i k p;split at h
   .rename_i q;cases f:aB k q with
    |false=>rw[f]at h;cases h
    |true=>
     rw[f]at h;cases h;have:=bB f;subst this;exact⟨.inr ⟨n,p⟩,rfl,rfl,Sub.refl _⟩
   .cases h
  .cases h
  .rename_i p;cases f:aB (j-N) (dt st.m) with
   |false=>rw[f]at h;cases h
   |true=>
    rw[f]at h;cases h;have:=bB f;refine⟨.inr ⟨n, ?_⟩,rfl,rfl,⟨⟨[x],rfl⟩,λ_ h=>h⟩⟩;rw[xu,this];simp
def Lk (c ct:Ctx)(x:Option Src)(g:Nat):Prop:=g<dt ct.S/\∀f,(ae ct.S g).dim=O f->match x with
 |none=>f.2=0/\ct.μ g=Y
 |some ⟨k,h⟩=> ∃d,(ae c.S k).dim=O d/\f.1=d.1/\ct.μ g=c.μ k/\(match h with
  |none=>f.2=d.2
  |some n=>f.2=min (n*d.1) d.2)
structure Tell (c ct:Ctx)(N:Nat)(f:Nat->Nat)(stf:DSt):Prop extends Still c ct where
 lk: ∀j x,Em N stf.m j x->Lk c ct x (f j)
 lent: ∀k,k∈stf.lent->(ae c.S k).dim≠Y->∀b,c.μ k=O b->¬ct.mut b
def G9.tell {u n:Nat}{d:Nat×Nat}{d2':Nat}(B:ct.Z=c.Z)(t:ct.μ u=c.μ k)(p:d2'=n*d.1)(h:G9 c k 0 n d a):G9 ct u 0 n (d.1,d2') a:=by
 rcases h with⟨g,_,f,q,r⟩|⟨b,v,y,g,f,q,r,w,A⟩
 .exact .inl ⟨g,rfl,f,t.trans q,by rw[p,f];simp⟩
 .exact .inr ⟨b,v,y,g,t.trans f,by rw[p,Nat.zero_add];exact Nat.le_refl _,r,by rw[B];exact w,A⟩
def Xg {f:Nat->Nat}(H:Rel c)(t:Tell c ct N f stf){v:VV}{l:List (El s)}(h:VP c.S s v=O l)(J:VRel c v a)(I: ∀k,IU v=O k->k∈stf.lent):VRel ct (.lst s l) a:=by
 have⟨u,D⟩:=ae5 H h J;refine(u.still t.toStill).rel λb p n A e w=> ?_
 rcases D b p n A e w with r|⟨k,r,E,F⟩
 .rcases u with⟨q,g,_⟩|⟨K,L,B,y,g,C,_⟩
  .rw[g]at e;injection e with _ _ e
   exact(w e.symm).elim
  .rw[g]at e;injection e with e _ _
   injection e with e
   cases e;exact t.nm _ _ C r
 .exact t.lent k (I k r) E b F
def Om {st:DSt}{v:VV}:(∀k,IU v=O k->k∈(st.lend v).lent)/\(st.lend v).m=st.m/\(st.lend v).ls=st.ls/\(∀k∈st.lent,k∈(st.lend v).lent):=by
 cases v<;>refine⟨λk h=> ?_,rfl,rfl,λk h=> ?_⟩<;>first|(cases h;done)|(cases h;exact List.mem_cons_self)|exact cD _ h|exact h
mutual
def as9 {S:ai}{N:Nat}: ∀(sk:Sk) (v:VV) (st st1:DSt),IG S N sk v st=O st1->Sub st st1
 | .undef,v,st,st1,h=>by
  simp only[IG]at h;cases h;exact Sub.refl _
 | .leaf s,v,st,st1,h=>by
  simp only[IG]at h;split at h
  .rename_i k k' n;cases hk:Zc (k'=k)with
   |false=>rw[hk]at h;cases h
   |true=>rw[hk]at h;cases h;exact⟨⟨[],ZC⟩,λ_ h=>h⟩
  .injection h with h;subst h;exact⟨⟨[],ZC⟩,λ_ h=>h⟩
  .injection h with h;subst h;exact⟨⟨[],ZC⟩,λ_ h=>h⟩
  .rename_i s;have⟨l,h1,h2⟩:=ah h;cases h2
   have⟨_,h4,_,h6⟩:= @Om st v;exact⟨⟨[],by simp[DSt.push,h4]⟩,h6⟩
  .cases h
 | .cint k n,v,st,st1,h=>by
  cases v<;>simp only[IG]at h<;>try(cases h;done)
  rename_i k' n';cases hk:(Zc (k'=k)&&Zc (n'=n))with
  |false=>rw[hk]at h;cases h
  |true=>rw[hk]at h;cases h;exact Sub.refl _
 | .nilp,v,st,st1,h=>by
  cases v<;>simp only[IG]at h<;>try(cases h;done)
  cases h;exact Sub.refl _
 | .nils,v,st,st1,h=>by
  cases v<;>simp only[IG]at h<;>try(cases h;done)
  cases h;exact Sub.refl _
 | .nilf,v,st,st1,h=>by
  cases v<;>simp only[IG]at h<;>try(cases h;done)
  cases h;exact Sub.refl _
 | .ptr j o,v,st,st1,h=>by
  cases v<;>simp only[IG]at h<;>try(cases h;done)
  rename_i k o';cases hk:aB o o' with
  |false=>rw[hk]at h;cases h
  |true=>rw[hk,zC]at h;exact(AM h).2.2.2
 | .full j,v,st,st1,h=>by
  simp only[IG]at h;split at h
  .exact(AM h).2.2.2
  .exact(AM h).2.2.2
  .exact(AM h).2.2.2
  .cases h
 | .pin s o,v,st,st1,h=>by
  cases v<;>simp only[IG]at h<;>try(cases h;done)
  rename_i s' x o';cases hk:aB o o' with
  |false=>rw[hk]at h;cases h
  |true=>
   rw[hk]at h;have⟨y,h1,h2⟩:=ah h;cases h2;exact⟨⟨[],ZC⟩,λ_ h=>h⟩
 | .fn g a b,v,st,st1,h=>by
  cases v<;>simp only[IG]at h<;>try(cases h;done)
  rename_i g' a' b';cases hk:aB g g' with
  |false=>rw[hk]at h;cases h
  |true=>
   rw[hk]at h;have⟨st2,h1,h2⟩:=ah h;exact(uD a a' st st2 h1).trans (uD b b' st2 st1 h2)
 | .agg l,v,st,st1,h=>by
  cases v<;>simp only[IG]at h<;>try(cases h;done)
  exact uD l _ st st1 h
 | .tup l,v,st,st1,h=>by
  cases v<;>simp only[IG]at h<;>try(cases h;done)
  exact uD l _ st st1 h
def uD {S:ai}{N:Nat}: ∀(l:List Sk) (vs:List VV) (st st1:DSt),GP S N l vs st=O st1->Sub st st1
 |[],vs,st,st1,h=>by
  cases vs<;>simp only[GP]at h<;>try(cases h;done)
  cases h;exact Sub.refl _
 |k::r,vs,st,st1,h=>by
  cases vs with
  |nil=>simp only[GP]at h;cases h
  |cons v vs=>
   simp only[GP]at h;have⟨st2,h1,h2⟩:=ah h;exact(as9 k v st st2 h1).trans (uD r vs st2 st1 h2)
end
def Xw {f:Nat->Nat}(t:Tell c ct N f stf)(D:Em N stf.m j (O ⟨k,Y⟩))(F:VRel c (.full k) a):VRel ct (.full (f j)) a:=by
 have⟨u,v⟩:=t.lk _ _ D;cases F with
 |full H E C=>
  refine .full u E λp h=> ?_
  have⟨d,w,q,A,g⟩:=v p h;have⟨n,r,B⟩:=C d w;simp only at g;refine⟨n,by rw[q,g];exact r, ?_⟩;have:=B.tell t.Z A (d2':=p.2) (by rw[g,r]);rw[<-q]at this;exact this
def aa9 {f:Nat->Nat}(t:Tell c ct N f stf){n:Nat}(C:Em N stf.m j (O ⟨k,O n⟩))(E:VRel c (.part k 0 n) a):VRel ct (.full (f j)) a:=by
 have⟨v,w⟩:=t.lk _ _ C;cases E with
 |part F D u=>
  refine .full v D λp h=> ?_
  have⟨d,q,r,A,g⟩:=w p h;simp only at g
  have B:n*d.1<=d.2:=by
   rcases u d q with⟨_,_,e,_,_⟩|⟨_,_,_,_,_,e,_⟩
   .rw[e];simp
   .rwa [Nat.zero_add]at e
  rw[Nat.min_eq_left B]at g;refine⟨n,by rw[r,g], ?_⟩;have:=(u d q).tell t.Z A (d2':=p.2) g;rw[<-r]at this;exact this
def ag3 {f:Nat->Nat}(t:Tell c ct N f stf)(u:Em N stf.m j Y):VRel ct (.full (f j)) (.slice Y 0 0):=by
 have⟨p,q⟩:=t.lk _ _ u;refine .full p rfl λn g=> ?_
 have⟨h,r⟩:=q n g;exact⟨0,by rw[h];simp, .inl ⟨rfl,rfl,rfl,r,h⟩⟩
mutual
def at0 {N:Nat}{f:Nat->Nat}{stf:DSt}(hR:Rel c)(hT:Tell c ct N f stf): ∀(sk:Sk) (v:VV) (st st1:DSt) (a:Value),IG c.S N sk v st=O st1->Sub st1 stf->VRel c v a->
  ∃new,st1.ls=st.ls++new/\∀rest,∃v',enc f sk (new++rest)=O (v',rest)/\VRel ct v' a
 | .undef,v,st,st1,a,h,hs,hv=>by
  simp only[IG]at h;cases h
  exact⟨[],V2,λrest=>⟨.undef,ZE, .undef _⟩⟩
 | .leaf s,v,st,st1,a,h,hs,hv=>by
  simp only[IG]at h;split at h
  .rename_i k k' n;cases hk:Zc (k'=k)with
   |false=>rw[hk]at h;cases h
   |true=>
    rw[hk]at h;cases h
    have:=of_decide_eq_true hk;subst this;refine⟨[⟨.int k',n⟩],rfl,λrest=>⟨.int k' n, ?_, ?_⟩⟩
    .simp only[bD,enc,nO,zG]
    .rw[hv.int_inv];exact .int _ _
  .rename_i b;cases h
   refine⟨[⟨.bool,b⟩],rfl,λrest=>⟨.bool b, ?_, ?_⟩⟩
   .simp only[bD,enc,nO,zG]
   .rw[hv.bool_inv];exact .bool _
  .rename_i l;cases h
   refine⟨[⟨.str,l⟩],rfl,λrest=>⟨.str l, ?_, ?_⟩⟩
   .simp only[bD,enc,nO,zG]
   .obtain⟨s,h1,h2⟩:=hv.str_inv;rw[h1];exact .str h2
  .rename_i s;have⟨l,h1,h2⟩:=ah h;cases h2
   have⟨h3,h4,h5,h6⟩:= @Om st v;refine⟨[⟨.list s,l⟩],by simp[DSt.push,h5],λrest=>⟨.lst s l, ?_, ?_⟩⟩
   .simp only[bD,enc,nO,zG]
   .exact Xg hR hT h1 hv λk hk=>hs.lent k (h3 k hk)
  .cases h
 | .cint k n,v,st,st1,a,h,hs,hv=>by
  cases v<;>simp only[IG]at h<;>try(cases h;done)
  rename_i k' n';cases hk:(Zc (k'=k)&&Zc (n'=n))with
  |false=>rw[hk]at h;cases h
  |true=>
   rw[hk]at h;cases h
   rw[cB]at hk;have e1:=of_decide_eq_true hk.1;have e2:=of_decide_eq_true hk.2;subst e1;subst e2;refine⟨[],V2,λrest=>⟨.int k' n',ZE, ?_⟩⟩;rw[hv.int_inv];exact .int _ _
 | .nilp,v,st,st1,a,h,hs,hv=>by
  cases v<;>simp only[IG]at h<;>try(cases h;done)
  cases h
  cases hv;exact⟨[],V2,λrest=>⟨.nilp,ZE, .nilp⟩⟩
 | .nils,v,st,st1,a,h,hs,hv=>by
  cases v<;>simp only[IG]at h<;>try(cases h;done)
  cases h
  cases hv;exact⟨[],V2,λrest=>⟨.nils,ZE, .nils⟩⟩
 | .nilf,v,st,st1,a,h,hs,hv=>by
  cases v<;>simp only[IG]at h<;>try(cases h;done)
  cases h
  cases hv;exact⟨[],V2,λrest=>⟨.nilf,ZE, .nilf⟩⟩
 | .ptr j o,v,st,st1,a,h,hs,hv=>by
  cases v<;>simp only[IG]at h<;>try(cases h;done)
  rename_i k o';cases hk:aB o o' with
  |false=>rw[hk]at h;cases h
  |true=>
   rw[hk,zC]at h;have:=bB hk;subst this;have⟨h1,h2,h3,h4⟩:=AM h;have⟨h5,h6⟩:=hT.lk _ _ (h1.sub hs);refine⟨[],by simp[h2],λrest=>⟨.ptr (f j) o,ZE, ?_⟩⟩;cases hv with
   |ptr hk ho hd=>
    refine .ptr h5 ho λd' hd'=> ?_
    have⟨d,h7,_,h8,_⟩:=h6 d' hd';have⟨b,h9,h10⟩:=hd d h7;exact⟨b,h8.trans h9,h10⟩
 | .full j,v,st,st1,a,h,hs,hv=>by
  simp only[IG]at h;split at h
  .obtain⟨h1,h2,h3,h4⟩:=AM h;exact⟨[],by simp[h2],λrest=>⟨.full (f j),ZE,Xw hT (h1.sub hs) hv⟩⟩
  .obtain⟨h1,h2,h3,h4⟩:=AM h;exact⟨[],by simp[h2],λrest=>⟨.full (f j),ZE,aa9 hT (h1.sub hs) hv⟩⟩
  .obtain⟨h1,h2,h3,h4⟩:=AM h;cases hv;exact⟨[],by simp[h2],λrest=>⟨.full (f j),ZE,ag3 hT (h1.sub hs)⟩⟩
  .cases h
 | .pin s o,v,st,st1,a,h,hs,hv=>by
  cases v<;>simp only[IG]at h<;>try(cases h;done)
  rename_i s' x o';cases hk:aB o o' with
  |false=>rw[hk]at h;cases h
  |true=>
   rw[hk,zC]at h;have:=bB hk;subst this;have⟨y,h1,h2⟩:=ah h;have⟨ee,h3⟩:=mt h1;cases ee;subst h3;cases h2
   refine⟨[⟨s,y⟩],rfl,λrest=>⟨.pin s y o, ?_, ?_⟩⟩
   .simp only[bD,enc,nO,zG]
   .cases hv with
    |pin hn hy hl hf=>exact .pin (hT.nm _ _ hy hn) (by rw[hT.Z];exact hy) hl (se hT.toStill _ _ _ hf)
 | .fn g p q,v,st,st1,a,h,hs,hv=>by
  cases v<;>simp only[IG]at h<;>try(cases h;done)
  rename_i g' p' q';cases hk:aB g g' with
  |false=>rw[hk]at h;cases h
  |true=>
   rw[hk,zC]at h;have:=bB hk;subst this;have⟨st2,h1,h2⟩:=ah h;cases hv with
   |fn f1 f2=>
    have⟨new1,e1,e2⟩:=wL hR hT p p' st st2 _ h1 ((uD q q' st2 st1 h2).trans hs) f1;have⟨new2,e3,e4⟩:=wL hR hT q q' st2 st1 _ h2 hs f2;refine⟨new1++new2,by rw[e3,e1,aD],λrest=> ?_⟩;have⟨v1,e5,e6⟩:=e2 (new2++rest);have⟨v2,e7,e8⟩:=e4 rest;exact⟨.fn g v1 v2,by simp only[enc,aD,e5,zG,e7], .fn e6 e8⟩
 | .agg l,v,st,st1,a,h,hs,hv=>by
  cases v<;>simp only[IG]at h<;>try(cases h;done)
  cases hv with
  |agg f1=>
   have⟨new1,e1,e2⟩:=wL hR hT l _ st st1 _ h hs f1;refine⟨new1,e1,λrest=> ?_⟩;have⟨v1,e5,e6⟩:=e2 rest;exact⟨.agg v1,by simp only[enc,e5,zG], .agg e6⟩
 | .tup l,v,st,st1,a,h,hs,hv=>by
  cases v<;>simp only[IG]at h<;>try(cases h;done)
  cases hv with
  |tup f1=>
   have⟨new1,e1,e2⟩:=wL hR hT l _ st st1 _ h hs f1;refine⟨new1,e1,λrest=> ?_⟩;have⟨v1,e5,e6⟩:=e2 rest;exact⟨.tup v1,by simp only[enc,e5,zG], .tup e6⟩
def wL {N:Nat}{f:Nat->Nat}{stf:DSt}(hR:Rel c)(hT:Tell c ct N f stf): ∀(l:List Sk) (vs:List VV) (st st1:DSt) (as:List Value),GP c.S N l vs st=O st1->Sub st1 stf->F2 (VRel c) vs as->
  ∃new,st1.ls=st.ls++new/\∀rest,∃vs',Nz f l (new++rest)=O (vs',rest)/\F2 (VRel ct) vs' as
 |[],vs,st,st1,as,h,hs,hf=>by
  cases vs<;>simp only[GP]at h<;>try(cases h;done)
  cases h
  cases hf;exact⟨[],V2,λrest=>⟨[],by simp[Nz], .nil⟩⟩
 |k::r,vs,st,st1,as,h,hs,hf=>by
  cases hf with
  |nil=>simp only[GP]at h;cases h
  |cons f1 f2=>
   simp only[GP]at h;have⟨st2,h1,h2⟩:=ah h;have⟨new1,e1,e2⟩:=at0 hR hT k _ st st2 _ h1 ((uD r _ st2 st1 h2).trans hs) f1;have⟨new2,e3,e4⟩:=wL hR hT r _ st2 st1 _ h2 hs f2;refine⟨new1++new2,by rw[e3,e1,aD],λrest=> ?_⟩;have⟨v1,e5,e6⟩:=e2 (new2++rest);have⟨v2,e7,e8⟩:=e4 rest;exact⟨v1::v2,by simp only[Nz,aD,e5,zG,e7], .cons e6 e8⟩
end
def vK (c ct:Ctx)(o:OSk)(x:Option Src)(blk:Blk):Prop:=
 (o= .dead/\blk= .dead)∨(blk.frozen=o.ro/\match x with
  |none=>o.ro=Zb/\∃s,blk= .arr s Zb []
  |some ⟨k,f⟩=>(o.ro=Zb->(ae c.S k).frozen=Zb)/\∃d,(ae c.S k).dim=O d/\(match f with
   |none=>blk.dim=O d
   |some n=>blk.dim=O (d.1,min (n*d.1) d.2))/\∀g,F2 (VRel c) (ae c.S k).vals g->F2 (VRel ct) blk.vals (g.take (dt blk.vals)))
def HD {S:ai}{x:Option Src}{n:DSt}(h:TR S N o x st=O n):Sub st n:=by
 unfold TR at h;split at h
 .injection h with h;subst h;exact Sub.refl _
 .split at h
  .rename_i u f l k _ p v w A;cases g:(aB u p&&(f|| !v))with
   |false=>rw[g]at h;cases h
   |true=>
    rw[g,zC]at h;have q:=uD _ _ _ _ h;cases f with
    |false=>exact q
    |true=>exact Sub.trans ⟨⟨[],V2⟩,λ_ h=>cD _ h⟩ q
  .cases h
 .rename_i f s;cases f with
  |true=>cases h
  |false=>cases h;exact⟨⟨[],ZC⟩,λ_ h=>h⟩
 .rename_i f s k t;cases g:(f|| !(ae S k).frozen)with
  |false=>rw[g]at h;cases h
  |true=>
   rw[g,zC]at h;have⟨l,q,r⟩:=ah h;cases r
   cases f with
   |false=>exact⟨⟨[],ZC⟩,λ_ h=>h⟩
   |true=>exact⟨⟨[],ZC⟩,λ_ h=>cD _ h⟩
 .cases h
def RD {f:Nat->Nat}(K:Rel c)(X:Tell c ct N f stf){x:Option Src}{r:DSt}(h:TR c.S N o x st=O r)(hs:Sub r stf):
  ∃q,r.ls=st.ls++q/\∀rest,∃blk,NA f o (q++rest)=O (blk,rest)/\vK c ct o x blk:=by
 unfold TR at h;split at h
 .injection h with h;subst h
  exact⟨[],V2,λrest=>⟨.dead,by simp[NA], .inl ⟨rfl,rfl⟩⟩⟩
 .split at h
  .rename_i J ro l k _ U fz t L;cases v:(aB J U&&(ro|| !fz))with
   |false=>rw[v]at h;cases h
   |true=>
    rw[v,zC]at h;rw[cB]at v;have he:=bB v.1;subst he;have B:(ae c.S k).dim=O (J,t.length):=by rw[L];rfl
    obtain⟨h0,F⟩:=K.blk k _ B
    have M: ∃as,F2 (VRel c) t as:=by
     rcases F with⟨I,e2⟩|⟨b,y,as,rest,_,_,_,_,_,D⟩
     .have:t=[]:=List.length_eq_zero_iff.1 I;subst this;exact⟨[], .nil⟩
     .rw[L]at D;exact⟨as,D⟩
    obtain⟨as,M⟩:=M;obtain⟨q,I,e2⟩:=wL K X l t _ r as h hs M;refine⟨q, ?_,λrest=> ?_⟩
    .rw[I];cases ro<;>rfl
    .obtain⟨vs,D,e4⟩:=e2 rest;refine⟨.cells J ro vs,by simp only[NA,D,zG], .inr ⟨rfl,λp=> ?_,(J,t.length),B, ?_,λP A=> ?_⟩⟩
     .simp only[OSk.ro]at p;subst p;rw[L];have:=v.2;simp only[Bool.false_or,Bool.not_eq_true']at this;exact this
     .simp only[Blk.dim];rw[e4.length,M.length]
     .rw[L]at A;obtain⟨H,C,Q⟩:=wL K X l t _ r P h hs A
      have:H=q:=by
       rw[I]at C;exact(List.append_cancel_left C).symm
      subst this;obtain⟨vs',g,E⟩:=Q rest;rw[D]at g;injection g with g
      injection g with g _
      subst g;rw[cN (by rw[<-E.length];exact Nat.le_refl _)];exact E
  .cases h
 .rename_i ro s;cases ro with
  |true=>cases h
  |false=>
   injection h with h;subst h
   refine⟨[⟨.list s,[]⟩],rfl,λrest=>⟨.arr s Zb [], ?_, .inr ⟨rfl,rfl,s,rfl⟩⟩⟩;simp only[bD,NA,nO,zG]
 .rename_i ro s k u;cases v:(ro|| !(ae c.S k).frozen)with
  |false=>rw[v]at h;cases h
  |true=>
   rw[v,zC]at h;obtain⟨l,h1,V⟩:=ah h;injection V with V;subst V
   obtain⟨d,h3,h4,h5,h6⟩:=tb (mJ K s) h1;refine⟨[⟨.list s,LF u l⟩],by cases ro<;>rfl,λrest=>⟨.arr s ro (LF u l), ?_, .inr ⟨rfl,λp=> ?_,d,h3, ?_,λt hcs=> ?_⟩⟩⟩
   .simp only[bD,NA,nO,zG]
   .simp only[OSk.ro]at p;subst p;simpa using v
   .cases u with
    |none=>
     simp only[Blk.dim,LF];rw[<-h5,<-h4]
    |some n=>
     simp only[Blk.dim,LF,cM];rw[h5,h4,<-Nat.mul_min_mul_right]
   .have W:=JF X.toStill (h6 t hcs);have h8:t.length=l.length*s.w:=by rw[<-W.length,gH]
    cases u with
    |none=>
     simp only[Blk.vals,LF];rw[cN (by rw[gH];omega)];exact W
    |some n=>
     simp only[Blk.vals,LF];have h9:((fO s (l.take n)).length)=min (n*s.w) t.length:=by rw[mI,cM,gH,h8]
     rw[h9,mI,<-List.take_take,List.take_length];exact W.take (n*s.w)
 .cases h
def GO {S:ai}{N:Nat}: ∀{os:List OSk} {js:List Nat} {st f:DSt},IH S N os js st=O f->Sub st f
 |[],[],st,f,h=>by cases h;exact Sub.refl _
 |[],_::_,st,f,h=>by cases h
 |_::_,[],st,f,h=>by cases h
 |o::os,j::js,st,f,h=>by
  simp only[IH]at h;have⟨p,g,n⟩:=ah h;exact(HD g).trans (GO n)
def qy {S:ai}{N:Nat}: ∀{os:List OSk} {i:Nat} {st f:DSt},uC S N os i st=O f->Sub st f
 |[],i,st,f,h=>by
  simp only[uC]at h;cases g:aB i (dt st.m) with
  |false=>rw[g]at h;cases h
  |true=>rw[g]at h;cases h;exact Sub.refl _
 |o::os,i,st,f,h=>by
  simp only[uC]at h;split at h
  .obtain⟨q,n,p⟩:=ah h;exact(HD n).trans (qy p)
  .cases h
inductive AB (c ct:Ctx):List OSk->List Nat->List Blk->Prop where
 |nil:AB c ct [] [] []
 |cons {o:OSk} {j:Nat} {b:Blk} {os:List OSk} {js:List Nat} {bs:List Blk}:vK c ct o (O ⟨j,Y⟩) b->AB c ct os js bs->AB c ct (o::os) (j::js) (b::bs)
inductive wx (c ct:Ctx):List OSk->List (Option Src)->List Blk->Prop where
 |nil:wx c ct [] [] []
 |cons {o:OSk} {x:Option Src} {b:Blk} {os:List OSk} {xs:List (Option Src)} {bs:List Blk}:vK c ct o x b->wx c ct os xs bs->wx c ct (o::os) (x::xs) (b::bs)
def LH {N:Nat}{f:Nat->Nat}{stf:DSt}(u:Rel c)(v:Tell c ct N f stf): ∀{os:List OSk} {js:List Nat} {st g:DSt},IH c.S N os js st=O g->Sub g stf->
  ∃q,g.ls=st.ls++q/\∀rest,∃bs,DB f os (q++rest)=O (bs,rest)/\AB c ct os js bs
 |[],[],st,g,h,p=>by cases h;exact⟨[],V2,λrest=>⟨[],by simp[DB], .nil⟩⟩
 |[],_::_,st,g,h,p=>by cases h
 |_::_,[],st,g,h,p=>by cases h
 |o::os,j::js,st,g,h,p=>by
  simp only[IH]at h;have⟨J,I,t⟩:=ah h;have⟨r,w,A⟩:=RD u v I ((GO t).trans p);have⟨n,B,C⟩:=LH u v t p;refine⟨r++n,by rw[B,w,aD],λrest=> ?_⟩;have⟨K,D,E⟩:=A (n++rest);have⟨L,F,H⟩:=C rest;exact⟨K::L,by simp only[DB,aD,D,zG,F], .cons E H⟩
def JA {N:Nat}{f:Nat->Nat}{stf:DSt}(B:Rel c)(C:Tell c ct N f stf): ∀{os:List OSk} {i:Nat} {st g:DSt},uC c.S N os i st=O g->Sub g stf->
  ∃q,g.ls=st.ls++q/\i+dt os=dt g.m/\∀rest,∃bs,DB f os (q++rest)=O (bs,rest)/\wx c ct os (g.m.drop i) bs
 |[],i,st,g,h,w=>by
  simp only[uC]at h;cases v:aB i (dt st.m) with
  |false=>rw[v]at h;cases h
  |true=>
   rw[v]at h;cases h
   have:=bB v;subst this;exact⟨[],V2,V2,λrest=>⟨[],by simp[DB],by rw[List.drop_length];exact .nil⟩⟩
 |o::os,i,st,g,h,w=>by
  simp only[uC]at h;split at h
  .rename_i x P;have⟨Q,A,u⟩:=ah h;have⟨r,E,F⟩:=RD B C A ((qy u).trans w);have⟨p,H,t,I⟩:=JA B C u w;refine⟨r++p,by rw[H,E,aD],by rw[<-t];simp;omega,λrest=> ?_⟩;have⟨W,J,K⟩:=F (p++rest);have⟨X,L,M⟩:=I rest;refine⟨W::X,by simp only[DB,aD,J,zG,L], ?_⟩;have⟨t1,U⟩:=(HD A).m;have⟨t3,V⟩:=(qy u).m
   have n:g.m[i]?=O x:=by
    rw[<-xu,V,U];exact HU (HU P)
   have D:i<dt g.m:=by
    rcases cK i (dt g.m) with h|h
    .exact h
    .rw[cL h]at n;cases n
   rw[List.drop_eq_getElem_cons D];rw[List.getElem?_eq_getElem D]at n;injection n with n
   rw[n];exact .cons K M
  .cases h
def IJ {f:Nat->Nat}(p:Rel c)(q:Tell c ct N f st)(h:ny c.S N fx sk vals=O st)(Q:F2 (VRel c) vals as):
  ∃vs fs bs,mN f sk st.ls=O (vs,fs,bs)/\F2 (VRel ct) vs as/\AB c ct sk.fix fx fs/\wx c ct sk.free st.m bs:=by
 unfold ny at h;obtain⟨V,P,h⟩:=ah h;obtain⟨W,w,h⟩:=ah h;obtain⟨g,n,h⟩:=ah h
 have:g=st:=by
  cases A:(Gt (fx++oX g.m)&&C1 (fx++kg sk.free g.m) g.lent)with
  |false=>rw[A]at h;cases h
  |true=>rw[A]at h;injection h
 subst this;have⟨U,C,F⟩:=wL p q _ _ _ _ _ P ((GO w).trans (qy n)) Q;have⟨B,D,H⟩:=LH p q w (qy n);have⟨t,E,X,I⟩:=JA p q n (Sub.refl _);have⟨vs,J,K⟩:=F (B++t);have⟨fs,L,M⟩:=H t;have⟨bs,u,v⟩:=I [];refine⟨vs,fs,bs, ?_,K,M,by rw[List.drop_zero]at v;exact v⟩;have r:g.ls=U++(B++t):=by rw[E,D,C];simp
 rw[List.append_nil]at u;simp only[mN,r,J,zG,L,u]
def qz {S:ai}(h:ny S N fx sk vals=O st):Gt (fx++oX st.m)=Za/\C1 (fx++kg sk.free st.m) st.lent=Za:=by
 unfold ny at h;obtain⟨n,q,h⟩:=ah h;obtain⟨p,r,h⟩:=ah h;obtain⟨f,t,h⟩:=ah h;cases g:(Gt (fx++oX f.m)&&C1 (fx++kg sk.free f.m) f.lent)with
 |false=>rw[g]at h;cases h
 |true=>
  rw[g]at h;cases h
  rwa [cB]at g
def AO : ∀{n:List Sh} {ls:List Leaf} {t:Ad n},Q0 n ls=O t->KG n t=ls
 |[],ls,t,h=>by
  cases ls with
  |nil=>rfl
  |cons=>simp[Q0]at h
 |[s],ls,t,h=>by
  cases ls with
  |nil=>simp[Q0]at h
  |cons x ls=>
   cases ls with
   |nil=>
    simp only[Q0]at h;have⟨f,g⟩:=mt h;have⟨u,v⟩:=x;simp only at f;subst f;subst g;rfl
   |cons=>simp[Q0]at h
 |s::u::r,ls,t,h=>by
  cases ls with
  |nil=>simp[Q0]at h
  |cons x ls=>
   simp only[Q0]at h;obtain⟨a,g,h⟩:=ah h;obtain⟨b,p,h⟩:=ah h;cases h;have⟨f,q⟩:=mt g;have⟨w,v⟩:=x;simp only at f;subst f;subst q;simp only[KG];rw[AO p]
end
end
section
open Bool renaming and_eq_true -> cD
open List renaming getElem?_eq_getElem -> aB, all_eq_true -> aD, getElem?_eq_none -> bD, replicate -> cB, mem_cons_of_mem -> cK, mem_cons_self -> cL, mem_of_getElem? -> cM, nodup_cons -> cN
open Nat renaming lt_or_ge -> bB, le_add_right -> cO, lt_of_lt_of_le -> cP
def Ch (c:Ctx):Option Src->Option Nat
 |none=>Y
 |some x=>c.μ x.k
def AB.get : ∀{os:List OSk} {js:List Nat} {bs:List Blk},AB c ct os js bs->dt js=dt bs/\(dt os)=dt bs/\∀(i j:Nat) (b:Blk),js[i]?=O j->bs[i]?=O b->∃o,os[i]?=O o/\vK c ct o (O ⟨j,Y⟩) b
 |_,_,_, .nil=>⟨rfl,rfl,λi j b h=>by simp at h⟩
 |_,_,_, .cons r t=>by
  have⟨n,p,q⟩:=t.get;refine⟨by simp[n],by simp[p],λi j b g f=> ?_⟩;cases i with
  |zero=>
   simp at g f;subst g;subst f;exact⟨_,rfl,r⟩
  |succ i=>
   simp at g f;have⟨o,u,v⟩:=q i j b g f;exact⟨o,by simpa using u,v⟩
def wx.get : ∀{os:List OSk} {n:List (Option Src)} {bs:List Blk},wx c ct os n bs->dt n=dt bs/\(dt os)=dt bs/\∀(i:Nat) (x:Option Src) (b:Blk),n[i]?=O x->bs[i]?=O b->∃o,os[i]?=O o/\vK c ct o x b
 |_,_,_, .nil=>⟨rfl,rfl,λi j b h=>by simp at h⟩
 |_,_,_, .cons t u=>by
  have⟨p,q,r⟩:=u.get;refine⟨by simp[p],by simp[q],λi j b g f=> ?_⟩;cases i with
  |zero=>
   simp at g f;subst g;subst f;exact⟨_,rfl,t⟩
  |succ i=>
   simp at g f;have⟨o,v,w⟩:=r i j b g f;exact⟨o,by simpa using v,w⟩
def vK.blkRel (hR:Rel c)(hZ:ct.Z=c.Z){x:Option Src}{p:Nat}(h:vK c ct o x b)(H:ae ct.S p=b)(M:b.dim≠Y->ct.μ p=Ch c x):KK ct p:=by
 intro A f;rw[H]at f;have g:ct.μ p=Ch c x:=M (by rw[f];simp);clear M;rcases h with⟨_,h⟩|⟨Q,I⟩
 .subst h;cases f
 .cases x with
  |none=>
   have⟨_,s,F⟩:=I;subst F;cases f;exact⟨nG s, .inl ⟨V2,by simpa[Ch]using g⟩⟩
  |some x=>
   have⟨k,w⟩:=x;have⟨F,d,U,u,V⟩:=I;simp only[Ch]at g;have⟨W,X⟩:=hR.blk k d U
   have r:A.1=d.1/\A.2<=d.2:=by
    cases w with
    |none=>
     simp only at u;rw[u]at f;cases f;exact⟨rfl,Nat.le_refl _⟩
    |some n=>
     simp only at u;rw[u]at f;cases f;exact⟨rfl,Nat.min_le_right _ _⟩
   refine⟨by rw[r.1];exact W, ?_⟩;rcases X with⟨J,q⟩|⟨P,y,v,t,J,q,B,C,D,E⟩
   .exact .inl ⟨V1,g.trans q⟩
   .have K:dt b.vals=A.2:=CW f;refine .inr ⟨P,y,v.take (dt b.vals),v.drop (dt b.vals)++t,g.trans J,by rw[hZ];exact q,by rw[r.1];exact B,λL=> ?_,by rw[<-List.append_assoc,List.take_append_drop];exact D, ?_⟩
    .rw[H,Q]at L;exact C (F L)
    .rw[H];exact V v E
def Vo (f:Nat->Nat): ∀n,∃K,∀j,j<n->f j<K
 |0=>⟨0,λj h=>by omega⟩
 |n+1=>by
  have⟨K,h⟩:=Vo f n;refine⟨max K (f n+1),λj g=> ?_⟩;rcases bB j n with h1|h1
  .have:=h j h1;omega
  .have:j=n:=by omega
   subst this;omega
def E9 {n:Nat}:ae (cB n Blk.dead) k= .dead:=by
 induction n generalizing k with
 |zero=>rfl
 |succ n f=>
  cases k with
  |zero=>rfl
  |succ k=>exact f
def N3 {f:Nat->Nat}(u:Rel c)(h:ny c.S N fx sk vals=O st)(w:F2 (VRel c) vals as):
  ∃n vs fs bs,mN f sk st.ls=O (vs,fs,bs)/\AB c n sk.fix fx fs/\wx c n sk.free st.m bs:=by
 have⟨K,t⟩:=Vo f (N+dt st.m)
 have v:Tell c ⟨λ_=>Y,cB K .dead,c.Z,λ_=>False⟩ N f st:=by
  have r: ∀b,¬(⟨λ_=>Y,cB K .dead,c.Z,λ_=>False⟩:Ctx).mut b:=by
   rintro b (⟨k,g,_⟩|h)
   .simp only[E9]at g;cases g
   .exact h
  refine⟨⟨rfl,λb _ _ _=>r b⟩,λj x A=>⟨?_,λB q=> ?_⟩,λk _ _ b _=>r b⟩
  .simp only[List.length_replicate];refine t j ?_;rcases A with⟨g,_⟩|⟨g,p⟩
   .omega
   .rw[xu]at p;rcases bB (j-N) (dt st.m) with h3|h3
    .omega
    .rw[bD h3]at p;cases p
  .simp only[E9]at q;cases q
 have⟨vs,fs,bs,g,_,p,h3⟩:=IJ u v h w;exact⟨_,vs,fs,bs,g,p,h3⟩
def ke :ld k l=Za↔k∈l:=by
 induction l with
 |nil=>simp[ld]
 |cons a l f=>
  simp only[ld,List.mem_cons];cases h:Nat.beq a k with
  |true=>
   have:=Nat.eq_of_beq_eq_true h;simp[this]
  |false=>
   have:a≠k:=by rintro rfl;rw[Nat.beq_refl]at h;cases h
   rw[zD,f];simp[Ne.symm this]
def qw :Gt l=Za->l.Nodup:=by
 induction l with
 |nil=>intro _;exact List.nodup_nil
 |cons a l n=>
  intro h;simp only[Gt]at h;cases f:ld a l with
  |true=>rw[f]at h;cases h
  |false=>
   rw[f]at h;refine List.nodup_cons.2 ⟨λg=> ?_,n h⟩;rw[ke.2 g]at f;cases f
def LV {w:List Nat}(h:C1 w l=Za)(g:k∈w):k∉l:=by
 intro f;simp only[C1,aD]at h;have:=h k g;rw[ke.2 f]at this;cases this
def zP {x:Src}(h:m[i]?=O (O x)):x.k∈oX m:=by
 induction m generalizing i with
 |nil=>simp at h
 |cons a m f=>
  cases i with
  |zero=>
   simp at h;subst h;exact cL
  |succ i=>
   simp at h;have:=f h;cases a with
   |none=>exact this
   |some a=>exact cK _ this
def HM (f:(oX m).Nodup){x y:Src}(h:m[i]?=O (O x))(g:m[j]?=O (O y))(e:x.k=y.k):i=j:=by
 induction m generalizing i j with
 |nil=>simp at h
 |cons a m q=>
  cases i with
  |zero=>
   simp at h;subst h;cases j with
   |zero=>rfl
   |succ j=>
    simp at g;have n:=zP g;simp only[oX,cN]at f;rw[e]at f;exact(f.1 n).elim
  |succ i=>
   simp at h;cases j with
   |zero=>
    simp at g;subst g;have n:=zP h;simp only[oX,cN]at f;rw[<-e]at f;exact(f.1 n).elim
   |succ j=>
    simp at g
    have p:(oX m).Nodup:=by
     cases a with
     |none=>exact f
     |some a=>exact(List.nodup_cons.1 f).2
    rw[q p h g]
def In {os:List OSk}{x:Src}(h:m[i]?=O (O x))(f:os[i]?=O o)(g:o.ro=Zb):x.k∈kg os m:=by
 induction m generalizing os i with
 |nil=>simp at h
 |cons a m n=>
  cases os with
  |nil=>simp at f
  |cons p os=>
   cases i with
   |zero=>
    simp at h f;subst h;subst f;simp only[kg,g,zD];exact cL
   |succ i=>
    simp at h f;have:=n h f;cases a with
    |none=>exact this
    |some a=>
     simp only[kg];cases p.ro with
     |true=>exact this
     |false=>exact cK _ this
def aO7 (h:b.may=Za)(g:b.dim≠Y)(f:b.frozen=Za):False:=by
 cases b with
 |dead=>exact g rfl
 |cells n z l=>simp only[Blk.may,Blk.frozen]at h f;rw[f]at h;cases h
 |arr s z l=>simp only[Blk.may,Blk.frozen]at h f;rw[f]at h;cases h
def VF (h:sk.noRo=Za):sk.fxRo=Za:=by
 unfold rc.noRo at h;rw[cD]at h;exact h.1
structure GT (c c' ct:Ctx)(N:Nat)(f:Nat->Nat)(fx:List Nat)(sk:rc)(st:DSt)(fs bs:List Blk):Prop where
 Z:ct.Z=c'.Z
 fb:ct.fb=c.fb
 len:dt ct.S=dt c.S+dt bs
 oth: ∀k,k<dt c.S->(∀j,j∈fx->f j≠k)->ae ct.S k=ae c.S k∨ae ct.S k=(ae c.S k).freeze∨(ae ct.S k= .dead/\(ae c.S k).frozen=Zb)
 fix: ∀(i j:Nat) (b:Blk),fx[i]?=O j->fs[i]?=O b->ae ct.S (f j)=b
 fixlt: ∀j,j∈fx->f j<dt c.S
 free: ∀(i:Nat) (b:Blk),bs[i]?=O b->ae ct.S (dt c.S+i)=b
 fN: ∀i,f (N+i)=dt c.S+i
 μo: ∀k,k<dt c.S->ct.μ k=c.μ k
 μn: ∀(i:Nat) (x:Option Src),st.m[i]?=O x->ct.μ (dt c.S+i)=Ch c' x
 un: ∀b y,c.Z.m b=O y->¬c.own b->c'.Z.m b=O y
 ow: ∀b y,c.Z.m b=O y->¬c.own b->¬c'.own b
 n:c.Z.n<=c'.Z.n
 oun: ∀k,k<dt c.S->(∀j,j∈fx->f j≠k)->(ae ct.S k).dim≠Y->∀b y,c.μ k=O b->c.Z.m b=O y->c'.Z.m b=O y
 odis: ∀k,k<dt c.S->(∀j,j∈fx->f j≠k)->(ae ct.S k).dim≠Y->∀s,(s∈fx∨s∈oX st.m)->(ae c'.S s).frozen=Zb->∀b,c'.μ s=O b->c.μ k≠O b
 wr: ∀j,j∈fx->(ae c'.S j).dim≠Y->(ae c.S (f j)).dim=(ae c'.S j).dim/\c'.μ j=c.μ (f j)/\∀b y,c.μ (f j)=O b->c.Z.m b=O y->∃y',c'.Z.m b=O y'/\(dt y'.cells)=dt y.cells
 wrz: ∀j,j∈fx->(ae c.S (f j)).may=Za
 finj: ∀j j',j∈fx->j'∈fx->f j=f j'->j=j'
 fbk: ∀k b,(ae c'.S k).dim≠Y->c'.μ k=O b->¬c.fb b
 lk: ∀j,j<N->j∉fx->Lk c' ct (O ⟨j,Y⟩) (f j)
 onm: ∀k,k<dt c.S->(∀j,j∈fx->f j≠k)->(ae ct.S k).frozen=Zb->∀b y,c.μ k=O b->c'.Z.m b=O y->c'.mut b
 olent: ∀k,k<dt c.S->(∀j,j∈fx->f j≠k)->(ae ct.S k).frozen=Zb->∀s,s∈st.lent->(ae c'.S s).dim≠Y->∀b,c'.μ s=O b->c.μ k≠O b
 fbm: ∀b,c.fb b->c'.mut b
 fxN: ∀j,j∈fx->j<N
 noro:sk.fxRo=Za
 roz:sk.noRo=Za∨∀k,k<dt c.S->(∀j,j∈fx->f j≠k)->(ae ct.S k).dim≠Y->(ae ct.S k).frozen=Za
def GT.all {f:Nat->Nat}(g:GT c c' ct N f fx sk st fs bs)(hR:Rel c)(K:Rel c')(hd:ny c'.S N fx sk vals=O st)
  (he:mN f sk st.ls=O (vs,fs,bs)) (hf:F2 (VRel c') vals as):Le c ct/\Rel ct/\F2 (VRel ct) vs as:=by
 have⟨ct0,vs0,fs0,bs0,p1,p2,p3⟩:=N3 (f:=f) K hd hf;rw[he]at p1;injection p1 with p1
 injection p1 with P p1
 injection p1 with Q q3
 subst P;subst Q;subst q3;have⟨ap1,ap2⟩:=qz hd;have hnd:=qw ap1;rw[List.nodup_append]at hnd;have⟨nd1,nd2,nd3⟩:=hnd;have⟨x1,x2,x3⟩:=p2.get;have⟨y1,y2,y3⟩:=p3.get;have hro:=g.noro;unfold rc.fxRo at hro;rw[aD]at hro
 have nro: ∀(i:Nat) (o:OSk),sk.fix[i]?=O o->o.ro=Zb:=by
  intro i o h;simpa using hro o (cM h)
 have nro2: ∀(i:Nat) (o:OSk),sk.noRo=Za->sk.free[i]?=O o->o.ro=Zb:=by
  intro i o U h;unfold rc.noRo at U;rw[cD,aD,aD]at U;simpa using U.2 o (cM h)
 have X: ∀j,j∈fx->∃(i:Nat) (b:Blk) (o:OSk),fx[i]?=O j/\fs[i]?=O b/\sk.fix[i]?=O o/\ae ct.S (f j)=b/\vK c' ct0 o (O ⟨j,Y⟩) b:=by
  intro j u;have⟨i,D,e⟩:=List.mem_iff_getElem.1 u;have h1:fx[i]?=O j:=by rw[aB D,e]
  have q:i<dt fs:=by rw[<-x1];exact D
  have⟨o,r,t⟩:=x3 i j _ h1 (aB q);exact⟨i,fs[i],o,h1,aB q,r,g.fix i j _ h1 (aB q),t⟩
 have C: ∀i,i<dt bs->∃(b:Blk) (x:Option Src) (o:OSk),st.m[i]?=O x/\bs[i]?=O b/\sk.free[i]?=O o/\ae ct.S (dt c.S+i)=b/\ct.μ (dt c.S+i)=Ch c' x/\vK c' ct0 o x b:=by
  intro i D;have q:i<dt st.m:=by rw[y1];exact D
  have⟨o,r,t⟩:=y3 i _ _ (aB q) (aB D);exact⟨bs[i],st.m[i],o,aB q,aB D,r,g.free i _ (aB D),g.μn i _ (aB q),t⟩
 have E: ∀k,(ae ct.S k).dim≠Y->(∃j,j∈fx/\f j=k)∨(k<dt c.S/\(∀j,j∈fx->f j≠k))∨(∃i,i<dt bs/\k=dt c.S+i):=by
  intro k A;have hl:=mw A;rw[g.len]at hl;by_cases h1:k<dt c.S
  .by_cases q: ∃j,j∈fx/\f j=k
   .exact .inl q
   .exact .inr (.inl ⟨h1,λj u e=>q ⟨j,u,e⟩⟩)
  .exact .inr (.inr ⟨k-dt c.S,V1,V1⟩)
 have I: ∀j,j∈fx->∀d,(ae ct.S (f j)).dim=O d->(ae c'.S j).dim=O d/\(ae c'.S j).frozen=Zb/\(ae c.S (f j)).dim=O d/\c'.μ j=c.μ (f j):=by
  intro j u d p;have⟨i,b,o,h1,q,r,t,w⟩:=X j u;rw[t]at p;rcases w with⟨_,w⟩|⟨w,F,d0,h7,h8,h9⟩
  .subst w;cases p
  .simp only at h8;rw[h8]at p;cases p;have⟨w1,w2,_⟩:=g.wr j u (by rw[h7];simp);exact⟨h7,F (nro i o r),by rw[w1,h7],w2⟩
 have found: ∀i,i<dt bs->∀d,(ae ct.S (dt c.S+i)).dim=O d->(∃x,st.m[i]?=O (O x)/\((ae ct.S (dt c.S+i)).frozen=Zb∨sk.noRo=Za->(ae c'.S x.k).frozen=Zb)/\(ae c'.S x.k).dim≠Y/\ct.μ (dt c.S+i)=c'.μ x.k)∨ct.μ (dt c.S+i)=Y:=by
  intro i D d p;have⟨b,x,o,h1,q,r,t,w,F⟩:=C i D;rw[t]at p;rcases F with⟨_,F⟩|⟨F,h7⟩
  .subst F;cases p
  .cases x with
   |none=>exact .inr w
   |some x=>
    have⟨k,cut⟩:=x;obtain⟨h7,d2,h8,_⟩:=h7;refine .inl ⟨_,h1,λhz=>h7 ?_,by rw[h8];simp,w⟩;rcases hz with hz|hz
    .rw[t,F]at hz;exact hz
    .exact nro2 i o hz r
 have B: ∀k b,(ae ct.S k).dim≠Y->ct.μ k=O b->(k<dt c.S/\(∀j,j∈fx->f j≠k)/\c.μ k=O b)∨
   ∃s,(s∈fx∨s∈oX st.m)/\((ae ct.S k).frozen=Zb∨sk.noRo=Za->(ae c'.S s).frozen=Zb)/\(ae c'.S s).dim≠Y/\c'.μ s=O b/\((s∈fx/\k=f s)∨∃i x,st.m[i]?=O (O x)/\x.k=s/\k=dt c.S+i):=by
  intro k b A J;cases W:(ae ct.S k).dim with
  |none=>exact(A W).elim
  |some d=>
   rcases E k A with⟨j,u,rfl⟩|⟨h1,q⟩|⟨i,D,rfl⟩
   .obtain⟨h1,q,r,t⟩:=I j u d W;exact .inr ⟨j, .inl u,λ_=>q,by rw[h1];simp,by rw[t,<-g.μo _ (g.fixlt j u)];exact J, .inl ⟨u,rfl⟩⟩
   .exact .inl ⟨h1,q,by rw[<-g.μo k h1];exact J⟩
   .rcases found i D d W with⟨x,h1,q,h2',r⟩|h1
    .exact .inr ⟨x.k, .inr (zP h1),q,h2',by rw[<-r];exact J, .inr ⟨i,x,h1,rfl,rfl⟩⟩
    .rw[h1]at J;cases J
 have v: ∀k,k<dt c.S->(∀j,j∈fx->f j≠k)->(ae ct.S k).dim≠Y->(ae ct.S k=ae c.S k∨ae ct.S k=(ae c.S k).freeze):=by
  intro k h1 q r;rcases g.oth k h1 q with h|h|⟨h,_⟩
  .exact .inl h
  .exact .inr h
  .rw[h]at r;exact(r rfl).elim
 have M: ∀k,k<dt c.S->(∀j,j∈fx->f j≠k)->(ae ct.S k).frozen=Zb->ae ct.S k=ae c.S k:=by
  intro k h1 q r;rcases v k h1 q (mH r)with h|h
  .exact h
  .rw[h,kH]at r;cases r
 have hle:Le c ct:=by
  refine⟨by rw[g.len];exact cO _ _,λk d A p=>⟨?_,g.μo k A⟩,λk hz H=> ?_,λk d b y A p J hy=> ?_,λb y hy U=>by rw[g.Z];exact g.un b y hy U,λb y hy U=> ?_,by rw[g.Z];exact g.n,g.fb⟩
  .rcases E k bo with⟨j,u,rfl⟩|⟨h1,q⟩|⟨i,D,rfl⟩
   .exact(I j u d p).2.2.1
   .rcases v k h1 q bo with h|h
    .rw[<-h];exact p
    .rw[h,fS]at p;exact p
   .omega
  .have A:=mw H;by_cases q: ∃j,j∈fx/\f j=k
   .obtain⟨j,u,rfl⟩:=q;exact(aO7 (g.wrz j u) H hz).elim
   .rcases g.oth k A (λj u e=>q ⟨j,u,e⟩)with h|h|⟨_,h⟩
    .exact h
    .rw[h,B1 hz]
    .rw[h]at hz;cases hz
  .rw[g.Z];rcases E k bo with⟨j,u,rfl⟩|⟨h1,q⟩|⟨i,D,rfl⟩
   .obtain⟨h1,q,r,t⟩:=I j u d p;exact(g.wr j u (by rw[h1];simp)).2.2 b y J hy
   .exact⟨y,g.oun k h1 q bo b y J hy,rfl⟩
   .omega
  .rintro⟨k,h1,q⟩;rcases B k b (mH h1) q with⟨r,t,w⟩|⟨s,r,t,_,w,_⟩
   .exact U ⟨k,by rw[<-M k r t h1];exact h1,w⟩
   .exact g.ow b y hy U ⟨s,t (.inl h1),w⟩
 have hT:Tell c' ct N f st:=by
  have hsp: ∀k b,(ae ct.S k).frozen=Zb->ct.μ k=O b->(k<dt c.S/\(∀j,j∈fx->f j≠k)/\c.μ k=O b)∨∃s,(s∈fx∨s∈kg sk.free st.m)/\(ae c'.S s).frozen=Zb/\c'.μ s=O b:=by
   intro k b h1 q;rcases B k b (mH h1) q with h|⟨s,r,t,_,w,F⟩
   .exact .inl h
   .refine .inr ⟨s, ?_,t (.inl h1),w⟩;rcases F with⟨F,_⟩|⟨i,x,F,h7,h8⟩
    .exact .inl F
    .refine .inr ?_
     have D:i<dt bs:=by
      rw[<-y1];rcases bB i (dt st.m) with h|h
      .exact h
      .rw[bD h]at F;cases F
     have⟨b',x',o,P,Q,q3,q4,q5,V⟩:=C i D;rw[<-h7];refine In F q3 ?_;rcases V with⟨V,_⟩|⟨V,_⟩
     .rw[V];rfl
     .rw[<-V,<-q4,<-h8];exact h1
  refine⟨⟨g.Z,λb y hy U=> ?_⟩,λj x hl=> ?_,λs hs hsd b J=> ?_⟩
  .rintro(⟨k,h1,q⟩|h)
   .rcases hsp k b h1 q with⟨r,t,w⟩|⟨s,r,t,w⟩
    .exact U (g.onm k r t h1 b y w hy)
    .exact U (.inl ⟨s,t,w⟩)
   .rw[g.fb]at h;exact U (g.fbm b h)
  .rcases hl with⟨h1,rfl⟩|⟨h1,q⟩
   .by_cases u:j∈fx
    .refine⟨by rw[g.len];exact cP (g.fixlt j u) (cO _ _),λd' p=> ?_⟩;have⟨P,Q,q3,q4⟩:=I j u d' p;exact⟨d',P,rfl,by rw[g.μo _ (g.fixlt j u),q4],rfl⟩
    .exact g.lk j h1 u
   .rw[xu]at q
    have D:j-N<dt bs:=by
     rw[<-y1];rcases bB (j-N) (dt st.m) with h|h
     .exact h
     .rw[bD h]at q;cases q
    have hfj:f j=dt c.S+(j-N):=by rw[<-g.fN];congr 1;omega
    rw[hfj];refine⟨by rw[g.len];omega,λd' p=> ?_⟩;have⟨b,x',o,P,Q,q3,q4,q5,V⟩:=C (j-N) D;rw[q]at P;cases P;rw[q4]at p;rcases V with⟨_,V⟩|⟨V,q7⟩
    .subst V;cases p
    .cases x with
     |none=>
      have⟨_,s,q8⟩:=q7;subst q8;cases p;exact⟨V2,q5⟩
     |some x=>
      have⟨k,cut⟩:=x;have⟨q8,d,q9,q10,q11⟩:=q7;refine⟨d,q9, ?_⟩;cases cut with
      |none=>
       simp only at q10;rw[q10]at p;cases p;exact⟨rfl,q5,rfl⟩
      |some n=>
       simp only at q10;rw[q10]at p;cases p;exact⟨rfl,q5,rfl⟩
  .rintro(⟨k,h1,q⟩|h)
   .rcases hsp k b h1 q with⟨r,t,w⟩|⟨s',r,t,w⟩
    .exact g.olent k r t h1 s hs hsd b J w
    .have:=K.inj s' s b t hsd w J;subst this;exact LV ap2 (List.mem_append.2 r) hs
   .rw[g.fb]at h;exact g.fbk s b hsd J h
 have⟨vs1,fs1,bs1,r1,r2,r3,r4⟩:=IJ K hT hd hf;rw[he]at r1;injection r1 with r1
 injection r1 with e1 r1
 injection r1 with e2 e3
 subst e1;subst e2;subst e3;have⟨_,_,x4⟩:=r3.get;have⟨_,_,y4⟩:=r4.get;refine⟨hle,⟨by rw[g.Z];exact K.ok,λk k' b A L J hm'=> ?_,λk=> ?_,λk b A J hb=> ?_,λb hb=> ?_⟩,r2⟩
 .rcases B k b (mH A) J with⟨h1,q,r⟩|⟨s,h1,q,_,r,t⟩
  .rcases B k' b L hm' with⟨g1,g2,g3⟩|⟨s',g1,g2,_,g3,g4⟩
   .refine hR.inj k k' b (by rw[<-M k h1 q A];exact A) ?_ r g3;rcases v k' g1 g2 L with h|h
    .rw[<-h];exact L
    .rw[h,fS]at L;exact L
   .rcases g.roz with U|hz
    .exact(g.odis k h1 q (mH A) s' g1 (g2 (.inr U)) b g3 r).elim
    .rw[hz k h1 q (mH A)]at A;cases A
  .rcases B k' b L hm' with⟨g1,g2,g3⟩|⟨s',g1,_,g2,g3,g4⟩
   .exact(g.odis k' g1 g2 L s h1 (q (.inl A)) b r g3).elim
   .have:=K.inj s s' b (q (.inl A)) g2 r g3;subst this;rcases t with⟨t,w⟩|⟨i,x,t,w,F⟩
    .rcases g4 with⟨g4,g5⟩|⟨i',x',g4,g5,g6⟩
     .rw[w,g5]
     .subst g5;exact(nd3 _ t _ (zP g4) rfl).elim
    .rcases g4 with⟨g4,g5⟩|⟨i',x',g4,g5,g6⟩
     .subst w;exact(nd3 _ g4 _ (zP t) rfl).elim
     .rw[F,g6,HM nd2 t g4 (w.trans g5.symm)]
 .by_cases H:(ae ct.S k).dim=Y
  .intro d p;rw[H]at p;cases p
  .rcases E k H with⟨j,u,rfl⟩|⟨h1,q⟩|⟨i,D,rfl⟩
   .obtain⟨i,b,o,P,Q,q3,q4,q5⟩:=X j u;have⟨o',V,q7⟩:=x4 i j b P Q;refine q7.blkRel K g.Z q4 λhb=> ?_
    cases W:(ae ct.S (f j)).dim with
    |none=>exact(H W).elim
    |some d=>
     have⟨_,_,_,q8⟩:=I j u d W;rw[g.μo _ (g.fixlt j u),<-q8];rfl
   .intro d p;have r:=v k h1 q H
    have hdc:(ae c.S k).dim=O d:=by
     rcases r with h|h
     .rw[<-h];exact p
     .rw[h,fS]at p;exact p
    have hvc:(ae ct.S k).vals=(ae c.S k).vals:=by
     rcases r with h|h
     .rw[h]
     .rw[h,JP]
    have⟨P,Q⟩:=hR.blk k d hdc;refine⟨P, ?_⟩;rcases Q with⟨Q,q3⟩|⟨b,y,cs,rest,Q,q3,q4,q5,V,q7⟩
    .exact .inl ⟨Q,(g.μo k h1).trans q3⟩
    .refine .inr ⟨b,y,cs,rest,(g.μo k h1).trans Q,by rw[g.Z];exact g.oun k h1 q H b y Q q3,q4,λhz=> ?_,V,by rw[hvc];exact VRel.frames hle q7⟩;rw[M k h1 q hz]at hz;exact q5 hz
   .obtain⟨b,x,o,P,Q,q3,q4,q5,V⟩:=C i D;have⟨o',q7,q8⟩:=y4 i x b P Q;exact q8.blkRel K g.Z q4 λ_=>q5
 .rw[g.fb]at hb;rcases B k b A J with⟨h1,q,r⟩|⟨s,h1,_,q,r,_⟩
  .refine hR.fbk k b ?_ r hb;rcases v k h1 q A with h|h
   .rw[<-h];exact A
   .rw[h,fS]at A;exact A
  .exact g.fbk s b q r hb
 .rw[g.fb]at hb;rw[g.Z];exact cP (hR.fbl b hb) g.n
end
section
open Bool renaming or_eq_false_iff -> aB
open List renaming cons_append -> bB, length_append -> bD, mem_of_getElem? -> cB, nodup_append -> cD
open Nat renaming zero_add -> aD, add_sub_cancel_left -> cK
def mG {fx mov:List Nat}{fz:Bool}: ∀{S:ai} {i:Nat},dt (jT fx mov fz i S)=dt S
 |[],_=>rfl
 |_::r,i=>by simp[jT,mG (S:=r)]
def mF {fx mov:List Nat}{fz:Bool}: ∀{S:ai} {i k:Nat},k<dt S->ae (jT fx mov fz i S) k=cond (ld (i+k) mov) (cond (ae S k).frozen (ae S k) .dead) (cond (ld (i+k) fx) (ae S k) (cond fz (ae S k).freeze (ae S k)))
 |[],_,_,h=>by simp at h
 |b::r,i,0,_=>rfl
 |b::r,i,k+1,h=>by
  have:=mF (fx:=fx) (mov:=mov) (fz:=fz) (S:=r) (i:=i+1) (k:=k) V9;rw[show i+1+k=i+(k+1)by omega]at this;exact this
def kf : ∀{js:List Nat} {bs:List Blk} {S S':ai},wW js bs S=O S'->dt js=dt bs/\(dt S')=dt S/\(∀k,k∉js->ae S' k=ae S k)/\
  (js.Nodup->∀(i j:Nat) (b:Blk),js[i]?=O j->bs[i]?=O b->j<dt S->ae S' j=b)
 |[],[],S,S',h=>by
  cases h
  exact⟨rfl,rfl,λ_ _=>rfl,λ_ i j b h=>by simp at h⟩
 |[],_::_,S,S',h=>by cases h
 |_::_,[],S,S',h=>by cases h
 |j::js,b::bs,S,S',h=>by
  simp only[wW]at h;have⟨u,v,p,w⟩:=kf h;refine⟨by simp[u],by rw[v,Fc],λk q=> ?_,λn i A t g f r=> ?_⟩
  .rw[p k (λe=>q (List.mem_cons_of_mem _ e))];exact aA7 (λe=>q (by rw[e];exact List.mem_cons_self))
  .rw[List.nodup_cons]at n;cases i with
   |zero=>
    simp at g f;subst g;subst f;rw[p j n.1];exact aA6 r
   |succ i=>
    simp at g f;exact w n.2 i A t g f (by rw[Fc];exact r)
def wR : ∀{l:List Blk} {i:Nat} {b:Blk},l[i]?=O b->ae l i=b
 |[],i,b,h=>by simp at h
 |a::l,0,b,h=>by simpa[ae]using h
 |a::l,i+1,b,h=>wR (l:=l) V9
structure Within (c c1:Ctx)(fx mov:List Nat):Prop where
 le:Le c c1
 fr: ∀k,k<dt c.S->k∉fx->(k∉mov∨(ae c.S k).frozen=Za)->ae c1.S k=(ae c.S k).freeze
 un: ∀k,k<dt c.S->k∉fx->(k∉mov∨(ae c.S k).frozen=Za)->(ae c.S k).dim≠Y->∀b y,c.μ k=O b->c.Z.m b=O y->c1.Z.m b=O y
def mv {S:ai}(h:Kj S fx=Za)(n:j∈fx):j<dt S/\(ae S j).may=Za:=by
 simp only[Kj,List.all_eq_true,Bool.and_eq_true]at h;have⟨f,g⟩:=h j n;exact⟨Nat.le_of_ble_eq_true f,g⟩
def jU (h:k∉l):ld k l=Zb:=by
 cases f:ld k l with
 |false=>rfl
 |true=>exact(h (ke.1 f)).elim
def yl {fz:Bool}{S:ai}(p:k<dt S)(n:k∉fx)(f:(ae (jT fx mov fz 0 S) k).dim≠Y):(k∉mov∨(ae S k).frozen=Za)/\ae (jT fx mov fz 0 S) k=cond fz (ae S k).freeze (ae S k):=by
 rw[mF p,aD,jU n]at f⊢;by_cases g:k∈mov
 .rw[ke.2 g]at f⊢;cases h:(ae S k).frozen with
  |false=>rw[h]at f;exact(f rfl).elim
  |true=>exact⟨.inr rfl,by cases fz<;>simp[B1 h]⟩
 .rw[jU g];exact⟨.inl g,rfl⟩
def aE7 {c1:Ctx}(hR:Rel c)(M:Rel c')(hw:Within c c1 fx mov)(hR1:Rel c1)(P:Le c1 c')
  (E:Kj c.S fx=Za) (hro:sk.fxRo=Za) (hd:ny c'.S (dt c.S) fx sk vals=O st) (he:mN id sk st.ls=O (vs,fs,bs)) (hf:F2 (VRel c') vals as) (hS:wW fx fs (jT fx mov Za 0 c.S)=O S'):
  ∃ct:Ctx,ct.Z=c'.Z/\ct.S=S'++bs/\ct.fb=c.fb/\(∀k,k<dt c.S->ct.μ k=c.μ k)/\Le c ct/\Rel ct/\F2 (VRel ct) vs as/\
   (∀k,k<dt c.S->k∉fx->(ae ct.S k).dim≠Y->(k∉mov∨(ae c.S k).frozen=Za)/\∀b y,c.μ k=O b->c.Z.m b=O y->ct.Z.m b=O y):=by
 have⟨s1,s2,s3,s4⟩:=kf hS;rw[mG]at s2 s4;have⟨ap1,_⟩:=qz hd;have hnd:=qw ap1;rw[cD]at hnd;have⟨nd1,_,_⟩:=hnd;have t:=hw.le.trans P;have W:c'.fb=c.fb:=t.fb
 let ct:Ctx:=⟨λi=>if i<dt c.S then c.μ i else match st.m[i-dt c.S]? with
  |some x=>Ch c' x
  |none=>Y,S'++bs,c'.Z,c.fb⟩
 have J: ∀k,k<dt c.S->ae ct.S k=ae S' k:=λk h=>nD (by rw[s2];exact h)
 have K: ∀k,k<dt c.S->k∉fx->ae ct.S k=ae (jT fx mov Za 0 c.S) k:=λk h q=>by rw[J k h,s3 k q]
 have p: ∀k,k<dt c.S->k∉fx->(ae ct.S k).dim≠Y->(k∉mov∨(ae c.S k).frozen=Za)/\ae ct.S k=(ae c.S k).freeze/\ae c'.S k=(ae c.S k).freeze/\c'.μ k=c.μ k/\(ae c.S k).dim≠Y:=by
  intro k h q f;rw[K k h q]at f⊢;have⟨B,v⟩:=yl h q f;have C:=hw.fr k h q B;rw[v]at f;simp only[zC]at f v;rw[fS]at f
  have F:ae c'.S k=(ae c.S k).freeze:=by
   rw[P.fz k (by rw[C,kH]) (by rw[C,fS];exact f),C]
  refine⟨B,v,F, ?_,f⟩;cases r:(ae c.S k).dim with
  |none=>exact(f r).elim
  |some d=>exact(t.al k d h (by rw[F,fS];exact r)).2
 have L: ∀k,k<dt c.S->k∉fx->(ae ct.S k).dim≠Y->∀b y,c.μ k=O b->c.Z.m b=O y->c'.Z.m b=O y:=by
  intro k h q f b y u U;have⟨B,v,C,F,I⟩:=p k h q f;have h6:=hw.un k h q B I b y u U;have h7:=hw.fr k h q B
  have X:c1.μ k=O b:=by
   cases r:(ae c.S k).dim with
   |none=>exact(I r).elim
   |some d=>rw[(hw.le.al k d h (by rw[h7,fS];exact r)).2];exact u
  have h8: ¬c1.mut b:=hR1.fz_mut (by rw[h7,kH]) (by rw[h7,fS];exact I) X;exact P.un b y h6 λe=>h8 (.inl e)
 have g:GT c c' ct (dt c.S) id fx sk st fs bs:=by
  refine⟨rfl,rfl,by simp[ct,s2],λk h q=> ?_,λi j b hi V=> ?_,λj w=>(mv E w).1,λi b V=> ?_,λ_=>rfl,λk h=>zE h,λi x hx=> ?_,t.un,t.ow,t.n,λk h q f b y u U=> ?_,λk h q f s hs A b u e=> ?_,λj w f=> ?_,λj w=>(mv E w).2,
   λ_ _ _ _ e=>e,λk b f u=> ?_,λj w q=> ?_,λk h q A b y u U=> ?_,λk h q A s hs hsd b u e=> ?_,λb V=> ?_,λj w=>(mv E w).1,hro, .inr λk h q f=>by rw[(p k h (λe=>q k e rfl) f).2.1,kH]⟩
  .have Q:k∉fx:=λe=>q k e rfl
   rw[K k h Q];by_cases f:(ae (jT fx mov Za 0 c.S) k).dim=Y
   .rw[mF h,aD,jU Q]at f⊢;by_cases u:k∈mov
    .rw[ke.2 u]at f⊢;cases A:(ae c.S k).frozen with
     |false=>exact .inr (.inr ⟨rfl,rfl⟩)
     |true=>exact .inl rfl
    .rw[jU u];exact .inr (.inl rfl)
   .exact .inr (.inl (yl h Q f).2)
  .have w:=cB hi;have D:=(mv E w).1;show ae ct.S j=b;rw[J j D];exact s4 nd1 i j b hi V D
  .show ae (S'++bs) (dt c.S+i)=b;rw[<-s2,th];exact wR V
  .show(if dt c.S+i<dt c.S then _ else _)=_;rw[Zh,cK,hx]
  .exact L k h (λe=>q k e rfl) f b y u U
  .obtain⟨B,v,C,F,I⟩:=p k h (λe=>q k e rfl) f;have:=M.inj s k b A (by rw[C,fS];exact I) u (F.trans e);subst this;rw[C,kH]at A;cases A
  .have D:=(mv E w).1;cases r:(ae c'.S j).dim with
   |none=>exact(f r).elim
   |some d=>
    have⟨B,v⟩:=t.al j d D r;exact⟨B,v,λb y u U=>t.ln j d b y D r u U⟩
  .rw[<-W];exact M.fbk k b f u
  .refine⟨by simp only[id,ct,bD,s2];omega,λd' H=> ?_⟩;have⟨B,v,C,F,I⟩:=p j w q (by rw[show id j=j from rfl]at H;rw[H];simp);rw[show id j=j from rfl,v]at H;refine⟨d',by rw[C];exact H,rfl, ?_,rfl⟩;show(if j<dt c.S then c.μ j else _)=_;rw[zE w,F]
  .obtain⟨B,v,C,F,I⟩:=p k h (λe=>q k e rfl) (mH A);rw[v,kH]at A;cases A
  .obtain⟨B,v,C,F,I⟩:=p k h (λe=>q k e rfl) (mH A);rw[v,kH]at A;cases A
  .exact .inr (by rw[W];exact V)
 have⟨r1,r2,r3⟩:=g.all hR M hd he hf;exact⟨ct,rfl,rfl,rfl,λk h=>zE h,r1,r2,r3,λk h q f=>⟨(p k h q f).1,L k h q f⟩⟩
end
section
open Bool renaming or_eq_false_iff -> aB
open List renaming cons_append -> bB, length_append -> bD, mem_of_getElem? -> cB, nodup_append -> cD
open Nat renaming zero_add -> aD, add_sub_cancel_left -> cK
def Xj (K:Rel c)
  (A:Kj c.S fx=Za) (P:sk.fxRo=Za) (U:ny c.S (dt c.S) fx sk vals=O st) (he:mN id sk st.ls=O (vs,fs,bs)) (hf:F2 (VRel c) vals as) (hS:wW fx fs (jT fx (oX st.m) Za 0 c.S)=O S'):
  ∃ct:Ctx,ct.Z=c.Z/\ct.S=S'++bs/\ct.fb=c.fb/\(∀k,k<dt c.S->ct.μ k=c.μ k)/\Le c ct/\Rel ct/\F2 (VRel ct) vs as:=by
 have⟨s1,I,s3,W⟩:=kf hS;rw[mG]at I W;have⟨M,_⟩:=qz U;have H:=qw M;rw[cD]at H;have⟨Q,_,_⟩:=H
 let ct:Ctx:=⟨λi=>if i<dt c.S then c.μ i else match st.m[i-dt c.S]? with
  |some x=>Ch c x
  |none=>Y,S'++bs,c.Z,c.fb⟩
 have B: ∀k,k<dt c.S->ae ct.S k=ae S' k:=λk n=>nD (by rw[I];exact n)
 have C: ∀k,k<dt c.S->k∉fx->ae ct.S k=ae (jT fx (oX st.m) Za 0 c.S) k:=λk n q=>by rw[B k n,s3 k q]
 have p: ∀k,k<dt c.S->k∉fx->(ae ct.S k).dim≠Y->(k∉oX st.m∨(ae c.S k).frozen=Za)/\ae ct.S k=(ae c.S k).freeze/\(ae c.S k).dim≠Y:=by
  intro k n q f;rw[C k n q]at f⊢;have⟨h1,u⟩:=yl n q f;rw[u]at f;simp only[zC]at f u;rw[fS]at f;exact⟨h1,u,f⟩
 have g:GT c c ct (dt c.S) id fx sk st fs bs:=by
  refine⟨rfl,rfl,by simp[ct,I],λk n q=> ?_,λi j b V E=> ?_,λj t=>(mv A t).1,λi b E=> ?_,λ_=>rfl,λk n=>zE n,λi x hx=> ?_,λ_ _ h _=>h,λ_ _ _ h=>h,Nat.le_refl _,λk n q f b y w L=>L,λk n q f s hs r b w e=> ?_,λj t f=>⟨rfl,rfl,λb y _ L=>⟨y,L,rfl⟩⟩,λj t=>(mv A t).2,
   λ_ _ _ _ e=>e,λk b f w=>K.fbk k b f w,λj t q=> ?_,λk n q r b y w L=> ?_,λk n q r s hs hsd b w e=> ?_,λb E=> .inr E,λj t=>(mv A t).1,P, .inr λk n q f=>by rw[(p k n (λe=>q k e rfl) f).2.1,kH]⟩
  .have D:k∉fx:=λe=>q k e rfl
   rw[C k n D];by_cases f:(ae (jT fx (oX st.m) Za 0 c.S) k).dim=Y
   .rw[mF n,aD,jU D]at f⊢;by_cases w:k∈oX st.m
    .rw[ke.2 w]at f⊢;cases r:(ae c.S k).frozen with
     |false=>exact .inr (.inr ⟨rfl,rfl⟩)
     |true=>exact .inl rfl
    .rw[jU w];exact .inr (.inl rfl)
   .exact .inr (.inl (yl n D f).2)
  .have t:=cB V;have F:=(mv A t).1;show ae ct.S j=b;rw[B j F];exact W Q i j b V E F
  .show ae (S'++bs) (dt c.S+i)=b;rw[<-I,th];exact wR E
  .show(if dt c.S+i<dt c.S then _ else _)=_;rw[Zh,cK,hx]
  .obtain⟨h1,u,J⟩:=p k n (λe=>q k e rfl) f;have:=K.inj s k b r J w e;subst this;rcases hs with hs|hs
   .exact q s hs rfl
   .rcases h1 with h1|h1
    .exact h1 hs
    .rw[h1]at r;cases r
  .refine⟨by simp only[id,ct,bD,I];omega,λX v=> ?_⟩;have⟨h1,u,J⟩:=p j t q (by rw[show id j=j from rfl]at v;rw[v];simp);rw[show id j=j from rfl,u,fS]at v;refine⟨X,v,rfl, ?_,rfl⟩;show(if j<dt c.S then c.μ j else _)=_;rw[zE t]
  .obtain⟨h1,u,J⟩:=p k n (λe=>q k e rfl) (mH r);rw[u,kH]at r;cases r
  .obtain⟨h1,u,J⟩:=p k n (λe=>q k e rfl) (mH r);rw[u,kH]at r;cases r
 have⟨r1,r2,r3⟩:=g.all K K U he hf;exact⟨ct,rfl,rfl,rfl,λk n=>zE n,r1,r2,r3⟩
def OR {c1:Ctx}(f:Le c c1)(t:wW fx fs (jT fx mov Za 0 c.S)=O S')(r:c1.S=S'++bs)
  (h: ∀k,k<dt c.S->k∉fx->(k∉mov∨(ae c.S k).frozen=Za)->(ae c.S k).dim≠Y->∀b y,c.μ k=O b->c.Z.m b=O y->c1.Z.m b=O y):Within c c1 fx mov:=by
 have⟨v,q,u,w⟩:=kf t;rw[mG]at q;refine⟨f,λk n p g=> ?_,h⟩;rw[r,nD (by rw[q];exact n),u k p,mF n,aD,jU p];rcases g with g|hz
 .rw[jU g];rfl
 .cases ld k mov with
  |false=>rfl
  |true=>rw[hz];simp[B1 hz]
section
variable {ctf ct:Ctx}
def VRel.thaw (t:ct.μ=ctf.μ)(w:ct.Z=ctf.Z)(r:dt ct.S=dt ctf.S)(q: ∀k,(ae ct.S k).dim=(ae ctf.S k).dim): ∀{v:VV} {a:Value},VRel ctf v a->alV v=Zb->VRel ct v a
 |_,_, .undef a,_=> .undef a
 |_,_, .bool b,_=> .bool b
 |_,_, .int k n,_=> .int k n
 |_,_, .str A,_=> .str A
 |_,_, .nilp,_=> .nilp
 |_,_, .nils,_=> .nils
 |_,_, .nilf,_=> .nilf
 |_,_, .ptr p f g,_=> .ptr ZD f λd h=>by rw[q]at h;rw[t];exact g d h
 |_,_, .it p f A g,_=> .it ZD f A λd h=>by rw[q]at h;rw[t];exact g d h
 |_,_, .bld p f g,_=> .bld ZD f λd h=>by rw[q]at h;rw[t];exact g d h
 |_,_, .pix p f C g,_=> .pix ZD f C λd h=>by rw[q]at h;rw[t];exact g d h
 |_,_, .pel p f g,_=> .pel ZD f λd h=>by rw[q]at h;rw[t];exact g d h
 |_,_, .pin _ _ _ _,h=>by cases h
 |_,_, .lstn _,h=>by cases h
 |_,_, .tgtn _,h=>by cases h
 |_,_, .tgt _ _ _ _ _,h=>by cases h
 |_,_, .lst _ _ _ _ _ _ _,h=>by cases h
 |_,_, .full p f g,_=> .full ZD f λd h=>by
  rw[q]at h;have⟨n,B,u⟩:=g d h;refine⟨n,B, ?_⟩;unfold G9 at u⊢;rw[t,w];exact u
 |_,_, .part p f g,_=> .part ZD f λd h=>by
  rw[q]at h;have u:=g d h;unfold G9 at u⊢;rw[t,w];exact u
 |_,_, .fn f g,h=>by
  simp only[alV,aB]at h;exact .fn (go f h.1) (go g h.2)
 |_,_, .agg f,h=>by
  simp only[alV]at h;exact .agg (go f h)
 |_,_, .tup f,h=>by
  simp only[alV]at h;exact .tup (go f h)
where
 go: ∀{l:List VV} {m:List Value},F2 (VRel ctf) l m->NR l=Zb->F2 (VRel ct) l m
  |_,_, .nil,_=> .nil
  |_,_, .cons f g,h=>by
   simp only[NR,aB]at h;exact .cons (VRel.thaw t w r q f h.1) (go g h.2)
def G6 : ∀{s:Sh} (x:El s),s.al=Zb->NR (dy s x)=Zb
 | .int _,_,_=>rfl
 | .bool,_,_=>rfl
 | .str,_,_=>rfl
 | .list _,_,h=>by cases h
 | .pair a b,x,h=>by
  simp only[Sh.al,aB]at h;have f:=G6 x.1 h.1;have g:=G6 x.2 h.2;simp only[dy];revert f;generalize dy a x.1=l;intro f;induction l with
  |nil=>exact g
  |cons v l n=>
   simp only[NR,aB,bB]at f⊢;exact⟨f.1,n f.2⟩
def ar2 {l m:List VV}(f:NR l=Zb)(g:NR m=Zb):NR (l++m)=Zb:=by
 induction l with
 |nil=>exact g
 |cons v l h=>
  simp only[NR,aB,bB]at f⊢;exact⟨f.1,h f.2⟩
def YQ (h:alB b=Zb):NR b.vals=Zb:=by
 cases b with
 |dead=>rfl
 |cells g z l=>exact h
 |arr s z l=>
  simp only[Blk.vals];induction l with
  |nil=>rfl
  |cons x l f=>rw[gz];exact ar2 (G6 x h) (f h)
def thaw {c:Ctx}{S2:ai}{vs:List VV}{as:List Value}(hR:Rel c)(g:Le c ctf)(r:Rel ctf)(hf:F2 (VRel ctf) vs as)(hal:NR vs=Zb)(A:dt S2=dt ctf.S)(W: ∀k,k<dt c.S->ctf.μ k=c.μ k)
  (Q: ∀k,(ae S2 k=ae ctf.S k/\((ae ctf.S k).dim≠Y->((ae ctf.S k).frozen=Zb/\alB (ae ctf.S k)=Zb)∨(k<dt c.S/\ae ctf.S k=ae c.S k/\∀b y,c.μ k=O b->c.Z.m b=O y->ctf.Z.m b=O y)))∨
   (k<dt c.S/\ae S2 k=ae c.S k/\ae ctf.S k=(ae c.S k).freeze/\((ae c.S k).dim≠Y->∀b y,c.μ k=O b->c.Z.m b=O y->ctf.Z.m b=O y))):
  Le c ⟨ctf.μ,S2,ctf.Z,ctf.fb⟩/\Rel ⟨ctf.μ,S2,ctf.Z,ctf.fb⟩/\F2 (VRel ⟨ctf.μ,S2,ctf.Z,ctf.fb⟩) vs as:=by
 have J: ∀k,(ae S2 k).dim=(ae ctf.S k).dim:=by
  intro k;rcases Q k with⟨h,_⟩|⟨_,q,f,_⟩
  .rw[h]
  .rw[q,f,fS]
 have F:Le c ⟨ctf.μ,S2,ctf.Z,ctf.fb⟩:=by
  refine⟨by rw[A];exact g.len,λk d L h=>g.al k d L (by rw[<-J];exact h),λk V t=> ?_,λk d b y L h=>g.ln k d b y L (by rw[<-J];exact h),g.un,λb y hy hn=> ?_,g.n,g.fb⟩
  .rcases Q k with⟨h,_⟩|⟨_,q,f,_⟩
   .rw[h];exact g.fz k V t
   .exact q
  .rintro⟨k,q,f⟩;rcases Q k with⟨h,_⟩|⟨B,P,h5,_⟩
   .exact g.ow b y hy hn ⟨k,by rw[<-h];exact q,f⟩
   .exact hn ⟨k,by rw[<-P];exact q,by rw[<-W k B];exact f⟩
 have hth: ∀{v:VV} {a:Value},VRel ctf v a->alV v=Zb->VRel ⟨ctf.μ,S2,ctf.Z,ctf.fb⟩ v a:=λq f=>VRel.thaw (ctf:=ctf) (ct:=⟨ctf.μ,S2,ctf.Z,ctf.fb⟩) rfl rfl A J q f
 have H: ∀{l:List VV} {m:List Value},F2 (VRel ctf) l m->NR l=Zb->F2 (VRel ⟨ctf.μ,S2,ctf.Z,ctf.fb⟩) l m:=λq f=>VRel.thaw.go (ctf:=ctf) (ct:=⟨ctf.μ,S2,ctf.Z,ctf.fb⟩) rfl rfl A J q f
 refine⟨F,⟨r.ok,λk E b V t U D=> ?_,λk=> ?_,λk b t U=>r.fbk k b (by rw[<-J];exact t) U,r.fbl⟩,H hf hal⟩
 .have w:(ae ctf.S E).dim≠Y:=by rw[<-J];exact t
  rcases Q k with⟨h,_⟩|⟨B,P,h5,_⟩
  .exact r.inj k E b (by rw[<-h];exact V) w U D
  .rw[P]at V;rw[W k B]at U
   have I:(E<dt c.S/\(ae c.S E).dim≠Y)∨(ae ctf.S E).frozen=Zb:=by
    rcases Q E with⟨g1,C⟩|⟨g1,C,g3,_⟩
    .rcases C w with⟨C,_⟩|⟨C,g3,_⟩
     .exact .inr C
     .exact .inl ⟨C,by rw[<-g3];exact w⟩
    .exact .inl ⟨g1,by rw[<-C];exact t⟩
   rcases I with⟨g1,C⟩|g1
   .rw[W E g1]at D;exact hR.inj k E b V C U D
   .exact(r.inj E k b g1 (by rw[h5,fS];exact mH V) D (by rw[W k B];exact U)).symm
 .intro d K
  have old:k<dt c.S->ae S2 k=ae c.S k->(∀b y,c.μ k=O b->c.Z.m b=O y->ctf.Z.m b=O y)->1<=d.1/\
   ((d.2=0/\ctf.μ k=Y)∨∃b y M p,ctf.μ k=O b/\ctf.Z.m b=O y/\y.es=d.1/\((ae S2 k).frozen=Zb->y.own=Za)/\y.cells=M++p/\F2 (VRel ⟨ctf.μ,S2,ctf.Z,ctf.fb⟩) (ae S2 k).vals M):=by
   intro q f B;have⟨q1,u⟩:=hR.blk k d (by rw[<-f];exact K);refine⟨q1, ?_⟩;rcases u with⟨u,q3⟩|⟨b,y,M,p,u,q3,q4,q5,q6,q7⟩
   .exact .inl ⟨u,(W k q).trans q3⟩
   .exact .inr ⟨b,y,M,p,(W k q).trans u,B b y u q3,q4,by rw[f];exact q5,q6,by rw[f];exact VRel.frames F q7⟩
  rcases Q k with⟨h,h'⟩|⟨B,P,h5,h6⟩
  .have X:(ae ctf.S k).dim=O d:=by rw[<-J];exact K
   rcases h' (by rw[X];simp)with⟨q,f⟩|⟨q,f,B⟩
   .obtain⟨q1,u⟩:=r.blk k d X;refine⟨q1, ?_⟩;rcases u with u|⟨b,y,M,p,u,q3,q4,q5,q6,q7⟩
    .exact .inl u
    .exact .inr ⟨b,y,M,p,u,q3,q4,by rw[h];exact q5,q6,by rw[h];exact H q7 (YQ f)⟩
   .exact old q (h.trans f) B
  .exact old B P (h6 (by rw[<-P,K];simp))
end
end
section
open List renaming getElem?_eq_getElem -> aB, nodup_nil -> aD, getElem?_eq_none -> bB, mem_cons_self -> bD
def Ow : ∀{m:List (Option Src)},Ov m=Za->∀(i:Nat) (x:Option Src),m[i]?=O x->∃k,x=O ⟨k,Y⟩
 |[],_,i,x,h=>by simp at h
 |none::_,h,_,_,_=>by cases h
 |some ⟨k,O n⟩::_,h,_,_,_=>by cases h
 |some ⟨k,Y⟩::r,h,0,x,f=>by simp at f;exact⟨k,f.symm⟩
 |some ⟨k,Y⟩::r,h,i+1,x,f=>Ow (m:=r) h i x V7
def IN : ∀{os:List OSk} {i j:Nat},j∈uH os i↔∃p o,os[p]?=O o/\o.ro=Zb/\j=i+p
 |[],i,j=>by simp[uH]
 |o::os,i,j=>by
  simp only[uH];have r:= @IN os (i+1) j;constructor
  .intro h;cases q:o.ro with
   |true=>
    rw[q,zC]at h;have⟨p,n,f,g,t⟩:=r.1 h;exact⟨p+1,n,V7,g,V1⟩
   |false=>
    rw[q,zD]at h;rcases List.mem_cons.1 h with h|h
    .exact⟨0,o,rfl,q,V1⟩
    .obtain⟨p,n,f,g,t⟩:=r.1 h;exact⟨p+1,n,V7,g,V1⟩
  .rintro⟨p,n,f,g,t⟩;cases p with
   |zero=>
    simp at f;subst f;rw[g,zD];exact List.mem_cons.2 (.inl V1)
   |succ p=>
    have:=r.2 ⟨p,n,V7,g,V1⟩;cases o.ro with
    |true=>exact this
    |false=>exact List.mem_cons_of_mem _ this
def Oa : ∀{os:List OSk} {m:List (Option Src)} {i:Nat} {f:Nat->Nat},dt os=dt m->(∀(p:Nat) (x:Option Src),m[p]?=O x->∃k,x=O ⟨k,Y⟩/\f (i+p)=k)->(uH os i).map f=kg os m
 |[],[],i,f,_,_=>rfl
 |[],_::_,_,_,h,_=>by simp at h
 |_::_,[],_,_,h,_=>by simp at h
 |o::os,x::m,i,f,h,n=>by
  have⟨k,r,g⟩:=n 0 x rfl;subst r
  have q:= @Oa os m (i+1) f V9 λp y v=>by
   have⟨w,t,u⟩:=n (p+1) y (by simpa using v);exact⟨w,t,by rw[<-u];congr 1;omega⟩
  simp only[uH,kg];cases o.ro with
  |true=>exact q
  |false=>
   simp only[zD,List.map_cons,q];rw[Nat.add_zero]at g;rw[g]
def Fu : ∀{os:List OSk} {m:List (Option Src)} {k:Nat},k∈kg os m->∃(i:Nat) (o:OSk) (x:Src),m[i]?=O (O x)/\os[i]?=O o/\o.ro=Zb/\x.k=k
 |[],[],k,h=>by simp[kg]at h
 |[],_::_,k,h=>by simp[kg]at h
 |_::_,[],k,h=>by simp[kg]at h
 |o::os,Y::m,k,h=>by
  have⟨i,q,x,f,g,n,p⟩:=Fu (os:=os) (m:=m) h;exact⟨i+1,q,x,V7,Z3,n,p⟩
 |o::os,O x::m,k,h=>by
  simp only[kg]at h;cases r:o.ro with
  |true=>
   rw[r,zC]at h;have⟨i,q,t,f,g,n,p⟩:=Fu (os:=os) (m:=m) h;exact⟨i+1,q,t,V7,Z3,n,p⟩
  |false=>
   rw[r,zD]at h;rcases List.mem_cons.1 h with h|h
   .exact⟨0,o,x,rfl,rfl,r,h.symm⟩
   .obtain⟨i,q,t,f,g,n,p⟩:=Fu (os:=os) (m:=m) h;exact⟨i+1,q,t,V7,Z3,n,p⟩
def L8 : ∀{m:List (Option Src)} {k:Nat},k∈oX m->∃(i:Nat) (x:Src),m[i]?=O (O x)/\x.k=k
 |[],k,h=>by simp[oX]at h
 |none::m,k,h=>by
  have⟨i,x,f,g⟩:=L8 (m:=m) h;exact⟨i+1,x,V7,g⟩
 |some x::m,k,h=>by
  rcases List.mem_cons.1 h with h|h
  .exact⟨0,x,rfl,h.symm⟩
  .obtain⟨i,n,f,g⟩:=L8 (m:=m) h;exact⟨i+1,n,V7,g⟩
def vJ : ∀{os:List OSk} {m:List (Option Src)},(oX m).Nodup->(kg os m).Nodup
 |[],[],_=>aD
 |[],_::_,_=>aD
 |_::_,[],_=>aD
 |o::os,Y::m,h=>vJ (os:=os) (m:=m) h
 |o::os,O x::m,h=>by
  have f:=List.nodup_cons.1 h;have g:=vJ (os:=os) f.2;simp only[kg];cases o.ro with
  |true=>exact g
  |false=>
   refine List.nodup_cons.2 ⟨λn=>f.1 ?_,g⟩;have⟨i,r,t,p,_,_,q⟩:=Fu n;rw[<-q];exact zP p
def Qz {S:ai}{N:Nat}: ∀{os:List OSk} {i:Nat} {st n:DSt},uC S N os i st=O n->∀(p:Nat) (o:OSk) (x:Src),os[p]?=O o->o.ro=Za->n.m[i+p]?=O (O x)->x.k∈n.lent
 |[],i,st,n,h,p,o,x,t,_,_=>by simp at t
 |o'::os,i,st,n,h,p,o,x,t,q,u=>by
  simp only[uC]at h;split at h
  .rename_i y F;have⟨H,g,w⟩:=ah h;cases p with
   |succ p=>exact Qz w p o x (by simpa using t) q (by rw[<-u];congr 1;omega)
   |zero=>
    simp at t;subst t;have⟨P,I⟩:=(HD g).m;have⟨Q,J⟩:=(qy w).m
    have B:n.m[i]?=O y:=by
     rw[<-xu,J,I];exact HU (HU F)
    rw[Nat.add_zero,B]at u;cases u;refine(qy w).lent _ ?_;unfold TR at g;split at g
    .cases q
    .rename_i f;cases f;split at g
     .rename_i D ro l k _ v E K M;simp only[OSk.ro]at q;subst q;cases r:(Nat.beq D v&&(Za|| !E))with
      |false=>rw[r]at g;cases g
      |true=>
       rw[r,zC]at g;exact(uD _ _ _ _ g).lent _ bD
     .cases g
    .rename_i f;cases f
    .rename_i f;cases f;rename_i ro s C _ _;simp only[OSk.ro]at q;subst q;cases r:(Za|| !(ae S _).frozen)with
     |false=>rw[r]at g;cases g
     |true=>
      rw[r,zC]at g;have⟨l,L,A⟩:=ah g;cases A;exact bD
    .cases g
  .cases h
def kZ (c:Ctx)(st:DSt)(bs:List Blk):Ctx:=⟨λi=>match st.m[i]? with
 |some x=>Ch c x
 |none=>Y,bs,c.Z,λb=>c.mut b/\¬∃k,(k∈oX st.m∨k∈st.lent)/\(ae c.S k).dim≠Y/\c.μ k=O b⟩
structure Entered (c c0:Ctx)(objs:List OSk)(st:DSt)(bs:List Blk):Prop where
 rel:Rel c0
 sub: ∀i,(ae c0.S i).dim≠Y->∃x,st.m[i]?=O x/\c0.μ i=Ch c x/\∀y,x=O y->(ae c.S y.k).dim≠Y/\(y.cut=Y->(ae c0.S i).dim=(ae c.S y.k).dim)/\((ae c0.S i).frozen=Zb->(ae c.S y.k).frozen=Zb)
 own: ∀b,c0.own b->c.own b
 fz: ∀(i:Nat) (o:OSk),objs[i]?=O o->o.ro=Za->(ae c0.S i).frozen=Za/\(ae c0.S i).dim≠Y
 len:dt bs=dt objs/\(dt st.m)=dt objs
def enter (I:Rel c)(h0:sk.fix=[])(hd:ny c.S 0 [] sk vals=O st)(he:mN id sk st.ls=O (vs,fs,bs))(hf:F2 (VRel c) vals as):
  Entered c (kZ c st bs) sk.free st bs/\F2 (VRel (kZ c st bs)) vs as:=by
 have⟨ct0,vs0,fs0,bs0,P,p2,p3⟩:=N3 (f:=id) I hd hf;rw[he]at P;injection P with P
 injection P with q1 P
 injection P with q2 q3
 subst q1;subst q2;subst q3;have⟨ap1,U⟩:=qz hd;have W:=qw ap1;rw[List.nil_append]at W U;have⟨y1,y2,y3⟩:=p3.get
 have L: ∀i,(ae bs i).dim≠Y->∃(x:Option Src) (o:OSk),st.m[i]?=O x/\sk.free[i]?=O o/\vK c ct0 o x (ae bs i):=by
  intro i J;have v:=mw J;have E:=aB v;have u:i<dt st.m:=by rw[y1];exact v
  have⟨o,p,r⟩:=y3 i _ _ (aB u) E;rw[wR E];exact⟨_,o,aB u,p,r⟩
 have w: ∀i x,st.m[i]?=O x->(kZ c st bs).μ i=Ch c x:=by
  intro i x hx
  show(match st.m[i]? with
   |some x=>Ch c x
   |none=>Y)=_
  rw[hx]
 have K: ∀i,(ae bs i).frozen=Zb->∀b,(kZ c st bs).μ i=O b->∃x,st.m[i]?=O (O x)/\(ae c.S x.k).frozen=Zb/\c.μ x.k=O b/\x.k∈kg sk.free st.m:=by
  intro i B b u;have⟨x,o,p,r,q⟩:=L i (mH B);rw[w i x p]at u;rcases q with⟨_,q⟩|⟨q,t⟩
  .rw[q]at B;cases B
  .cases x with
   |none=>cases u
   |some x=>
    have⟨k,D⟩:=x;rw[q]at B;exact⟨_,p,t.1 B,u,In p r B⟩
 have M: ∀i,(ae bs i).dim≠Y->∀b,(kZ c st bs).μ i=O b->∃x,st.m[i]?=O (O x)/\(ae c.S x.k).dim≠Y/\c.μ x.k=O b:=by
  intro i B b u;have⟨x,o,p,r,q⟩:=L i B;rw[w i x p]at u;rcases q with⟨_,q⟩|⟨q,t⟩
  .rw[q]at B;exact(B rfl).elim
  .cases x with
   |none=>cases u
   |some x=>
    have⟨k,D⟩:=x;have⟨_,d,A,_⟩:=t;exact⟨_,p,by rw[A];simp,u⟩
 have hT:Tell c (kZ c st bs) 0 id st:=by
  refine⟨⟨rfl,λb y hy hn=> ?_⟩,λj x hl=> ?_,λs hs X b u=> ?_⟩
  .rintro(⟨i,p,r⟩|h)
   .obtain⟨x,_,q,t,_⟩:=K i p b r;exact hn (.inl ⟨x.k,q,t⟩)
   .exact hn h.1
  .rcases hl with⟨p,_⟩|⟨_,r⟩
   .omega
   .rw[Nat.sub_zero,xu]at r
    have v:j<dt bs:=by
     rw[<-y1];rcases Nat.lt_or_ge j (dt st.m) with h|h
     .exact h
     .rw[bB h]at r;cases r
    refine⟨v,λd' F=> ?_⟩;have⟨x',o,p,q,t⟩:=L j (by rw[show(ae bs j).dim=O d' from F];simp);rw[r]at p;cases p;have g:(ae bs j).dim=O d':=F;rcases t with⟨_,t⟩|⟨t,A⟩
    .rw[t]at g;cases g
    .cases x with
     |none=>
      have⟨_,s,H⟩:=A;rw[H]at g;cases g;exact⟨V2,w j _ r⟩
     |some x=>
      have⟨k,D⟩:=x;have⟨_,d,H,h7,_⟩:=A;refine⟨d,H, ?_⟩;cases D with
      |none=>
       simp only at h7;rw[h7]at g;cases g;exact⟨rfl,w j _ r,rfl⟩
      |some n=>
       simp only at h7;rw[h7]at g;cases g;exact⟨rfl,w j _ r,rfl⟩
  .rintro(⟨i,p,r⟩|h)
   .obtain⟨x,_,q,t,A⟩:=K i p b r;have:=I.inj x.k s b q X t u;rw[this]at A;exact LV U A hs
   .exact h.2 ⟨s, .inr hs,X,u⟩
 have⟨vs1,fs1,bs1,Q,r2,r3,r4⟩:=IJ I hT hd hf;rw[he]at Q;injection Q with Q
 injection Q with e1 Q
 injection Q with e2 e3
 subst e1;subst e2;subst e3;have⟨_,_,y4⟩:=r4.get;refine⟨⟨⟨I.ok,λi i' b B C u hm'=> ?_,λi=> ?_,λi b C u E=> ?_,λb E=> ?_⟩,λi J=> ?_,λb E=> ?_,λi o ho hr=> ?_,⟨y2.symm,by rw[y1,y2]⟩⟩,r2⟩
 .obtain⟨x,p,r,q,_⟩:=K i B b u;have⟨x',t,A,H⟩:=M i' C b hm';exact HM W p t (I.inj _ _ b r A q H)
 .by_cases C:(ae bs i).dim=Y
  .intro d F;rw[show(ae (kZ c st bs).S i).dim=Y from C]at F;cases F
  .have v:=mw C;have E:=aB v;have u:i<dt st.m:=by rw[y1];exact v
   have⟨o,p,r⟩:=y4 i _ _ (aB u) E;exact r.blkRel (ct:=kZ c st bs) I rfl (wR E) λ_=>w i _ (aB u)
 .obtain⟨x',t,A,H⟩:=M i C b u;exact E.2 ⟨x'.k, .inl (zP t),A,H⟩
 .rcases E.1 with⟨k,p,r⟩|h
  .cases V:(ae c.S k).dim with
   |none=>exact(mH p V).elim
   |some d=>
    have⟨y,_,_,hy,_⟩:=I.block V r;exact I.ok b y hy
  .exact I.fbl b h
 .obtain⟨x,o,p,r,q⟩:=L i J;refine⟨x,p,w i x p,λy hy=> ?_⟩;subst hy;rcases q with⟨_,q⟩|⟨q,t,d,A,H,_⟩
  .rw[show ae (kZ c st bs).S i=ae bs i from rfl,q]at J;exact(J rfl).elim
  .refine⟨by rw[A];simp,λhc=> ?_,λB=>t (by rw[<-q];exact B)⟩;rw[hc]at H;rw[A];exact H
 .obtain⟨i,p,r⟩:=E;have⟨x,_,q,t,_⟩:=K i p b r;exact⟨x.k,q,t⟩
 .have J:i<dt bs:=by
   rw[<-y2];rcases Nat.lt_or_ge i (dt sk.free) with h|h
   .exact h
   .rw[bB h]at ho;cases ho
  have u:i<dt st.m:=by rw[y1];exact J
  have⟨o',p,r⟩:=y3 i _ _ (aB u) (aB J);rw[ho]at p;cases p;rw[show ae (kZ c st bs).S i=ae bs i from rfl,wR (aB J)];rcases r with⟨r,_⟩|⟨r,q⟩
  .subst r;cases hr
  .refine⟨r.trans hr, ?_⟩;cases hx:st.m[i]with
   |none=>rw[hx]at q;obtain⟨q,_⟩:=q;rw[q]at hr;cases hr
   |some x=>
    have⟨k,D⟩:=x;rw[hx]at q;have⟨_,d,_,t,_⟩:=q;cases D with
    |none=>simp only at t;rw[t];simp
    |some n=>simp only at t;rw[t];simp
end
section
open List renaming getElem?_eq_getElem -> aB, getElem?_eq_none -> aD
open Nat renaming lt_or_ge -> bB, add_sub_cancel_left -> bD
def Od : ∀{l:List Nat} {S:ai} {k:Nat},k∈l->(ae (DE l S) k).frozen=Za
 |[],S,k,h=>by simp at h
 |a::l,S,k,h=>by
  simp only[DE];by_cases f:k∈l
  .exact Od f
  .have:k=a:=by
    rcases List.mem_cons.1 h with h|h
    .exact h
    .exact(f h).elim
   subst this;rcases(vD l (mx S k (ae S k).freeze)).2 k with h1|h1
   .rw[h1,yG];split
    .exact kH
    .rename_i g;have: ¬k<dt S:=λe=>g ⟨rfl,e⟩
     rw[wS V1];rfl
   .rw[h1];exact kH
def XH {c0:Ctx}{f:List OSk}{bs0:List Blk}{Sf:ai}(hR:Rel c)(h0:c0=kZ c st bs0)(hE:Entered c c0 f st bs0)(A:Le c0 c')(hR':Rel c')
  (hcut:Ov st.m=Za) (hok:Kj c.S (kg f st.m)=Za) (hnd:(oX st.m).Nodup) (hlent: ∀(i:Nat) (o:OSk) (x:Src),f[i]?=O o->o.ro=Za->st.m[i]?=O (O x)->x.k∈st.lent)
  (hro:sk.noRo=Za) (hd:ny c'.S (dt f) (uH f 0) sk vals=O st') (he:mN (xn st.m (dt f) (dt c.S)) sk st'.ls=O (vs,fs,bs)) (hf:F2 (VRel c') vals as) (hS:wW (kg f st.m) fs (DE st.lent c.S)=O Sf):
  ∃ct:Ctx,ct.Z=c'.Z/\ct.S=Sf++bs/\ct.fb=c.fb/\(∀k,k<dt c.S->ct.μ k=c.μ k)/\Le c ct/\Rel ct/\F2 (VRel ct) vs as/\
   (∀k,k<dt c.S->k∉kg f st.m->(ae c.S k).dim≠Y->∀b y,c.μ k=O b->c.Z.m b=O y->ct.Z.m b=O y):=by
 have L:c0.Z=c.Z:=by rw[h0];rfl
 have J: ∀b,c0.fb b↔(c.mut b/\¬∃k,(k∈oX st.m∨k∈st.lent)/\(ae c.S k).dim≠Y/\c.μ k=O b):=by rw[h0];exact λb=>Iff.rfl
 have hS0:c0.S=bs0:=by rw[h0];rfl
 have I:c'.fb=c0.fb:=A.fb;have⟨l1,l2⟩:=hE.len;have⟨s1,s2,s3,s4⟩:=kf hS;rw[(vD st.lent c.S).1]at s2 s4;have hfz:=vD st.lent c.S
 have pos: ∀i,i<dt f->∃k,st.m[i]?=O (O ⟨k,Y⟩)/\xn st.m (dt f) (dt c.S) i=k:=by
  intro i hi;have w:i<dt st.m:=by omega
  have⟨k,q⟩:=Ow hcut i _ (aB w);have h1:st.m[i]?=O (O ⟨k,Y⟩):=by rw[aB w,q]
  refine⟨k,h1, ?_⟩;unfold xn;rw[show Nat.blt i (dt f)=Za from Nat.ble_eq_true_of_le hi,zC,xu,h1]
 have U:(uH f 0).map (xn st.m (dt f) (dt c.S))=kg f st.m:=by
  refine Oa l2.symm λp x hx=> ?_
  have hp:p<dt f:=by
   rw[<-l2];rcases bB p (dt st.m) with h|h
   .exact h
   .rw[aD h]at hx;cases hx
  have⟨k,h1,t⟩:=pos p hp;rw[hx]at h1;injection h1 with h1
  exact⟨k,h1,by rw[Nat.zero_add];exact t⟩
 have D: ∀j,j∈uH f 0->j<dt f/\∃o,f[j]?=O o/\o.ro=Zb:=by
  intro j B;have⟨p,o,h1,t,u⟩:=IN.1 B;rw[Nat.zero_add]at u;subst u;refine⟨?_,o,h1,t⟩;rcases bB j (dt f) with h|h
  .exact h
  .rw[aD h]at h1;cases h1
 have fxw: ∀j,j∈uH f 0->xn st.m (dt f) (dt c.S) j∈kg f st.m:=λj B=>by rw[<-U];exact List.mem_map_of_mem B
 have wfx: ∀k,k∈kg f st.m->∃j,j∈uH f 0/\xn st.m (dt f) (dt c.S) j=k:=λk q=>by rw[<-U]at q;have⟨j,h1,t⟩:=List.mem_map.1 q;exact⟨j,h1,t⟩
 have F: ∀k,(∀j,j∈uH f 0->xn st.m (dt f) (dt c.S) j≠k)->k∉kg f st.m:=λk q h=>by have⟨j,h1,t⟩:=wfx k h;exact q j h1 t
 let ct:Ctx:=⟨λi=>if i<dt c.S then c.μ i else match st'.m[i-dt c.S]? with
  |some x=>Ch c' x
  |none=>Y,Sf++bs,c'.Z,c.fb⟩
 have hget: ∀k,k<dt c.S->ae ct.S k=ae Sf k:=λk q=>nD (by rw[s2];exact q)
 have W: ∀k,k<dt c.S->k∉kg f st.m->ae ct.S k=ae (DE st.lent c.S) k:=λk q v=>by rw[hget k q,s3 k v]
 have own0: ∀b,c0.own b->∃k,k∈kg f st.m/\(ae c.S k).frozen=Zb/\c.μ k=O b:=by
  rintro b ⟨i,h1,t⟩;have⟨x,u,E,H⟩:=hE.sub i (mH h1);rw[E]at t;cases x with
  |none=>cases t
  |some x=>
   have⟨h6,_,h8⟩:=H x rfl
   have hi:i<dt f:=by
    rw[<-l2];rcases bB i (dt st.m) with h|h
    .exact h
    .rw[aD h]at u;cases u
   have ho:f[i]?=O f[i]:=aB hi;refine⟨x.k,In u ho ?_,h8 h1,t⟩;cases hr:(f[i]).ro with
   |false=>rfl
   |true=>rw[(hE.fz i _ ho hr).1]at h1;cases h1
 have nown: ∀k,k∉kg f st.m->(ae c.S k).dim≠Y->∀b,c.μ k=O b->¬c0.own b:=by
  intro k q r b w h;have⟨P,h1,t,u⟩:=own0 b h;have:=hR.inj P k b t r u w;subst this;exact q h1
 have hun: ∀k,k<dt c.S->k∉kg f st.m->(ae c.S k).dim≠Y->∀b y,c.μ k=O b->c.Z.m b=O y->c'.Z.m b=O y:=λk _ q r b y w K=>A.un b y ZU (nown k q r b w)
 have C: ∀k b,(ae c.S k).dim≠Y->c.μ k=O b->∃y,c.Z.m b=O y:=by
  intro k b r w;cases M:(ae c.S k).dim with
  |none=>exact(r M).elim
  |some d=>
   have⟨y,_,_,K,_⟩:=hR.block M w;exact⟨y,K⟩
 have Q: ∀k,k<dt c.S->k∉kg f st.m->(ae ct.S k).dim=(ae c.S k).dim:=λk q v=>by rw[W k q v];exact hfz.dim k
 have notin: ∀k,k<dt c.S->k∉kg f st.m->(ae ct.S k).frozen=Zb->∀b,c.μ k=O b->(ae c.S k).frozen=Zb/\¬∃P,(P∈oX st.m∨P∈st.lent)/\(ae c.S P).dim≠Y/\c.μ P=O b:=by
  intro k q v hz b w;rw[W k q v]at hz;have hz':(ae c.S k).frozen=Zb:=by rw[<-hfz.fz hz];exact hz
  refine⟨hz', ?_⟩;rintro⟨P,h1,t,u⟩;have:=hR.inj k P b hz' t w u;subst this;have hnl:k∉st.lent:=λe=>by rw[Od e]at hz;cases hz
  rcases h1 with h1|h1
  .obtain⟨i,x,E,H⟩:=L8 h1
   have hi:i<dt f:=by
    rw[<-l2];rcases bB i (dt st.m) with h|h
    .exact h
    .rw[aD h]at E;cases E
   have ho:f[i]?=O f[i]:=aB hi;cases hr:(f[i]).ro with
   |true=>exact hnl (by rw[<-H];exact hlent i _ x ho hr E)
   |false=>exact v (by rw[<-H];exact In E ho hr)
  .exact hnl h1
 have g:GT c c' ct (dt f) (xn st.m (dt f) (dt c.S)) (uH f 0) sk st' fs bs:=by
  refine⟨rfl,rfl,by simp[ct,s2],λk q v=> ?_,λi j b hi V=> ?_,λj B=>(mv hok (fxw j B)).1,λi b V=> ?_,λi=> ?_,λk q=>zE q,λi x hx=> ?_,λb y K v=>A.un b y ZU λe=>v (hE.own b e),λb y K v=>A.ow b y ZU λe=>v (hE.own b e),by rw[<-L];exact A.n,λk q v r b y w K=> ?_,λk q v r s hs hz b w e=> ?_,λj B r=> ?_,λj B=>(mv hok (fxw j B)).2,
   λj j' B hj' e=> ?_,λk b r w V=> ?_,λj B v=> ?_,λk q v hz b y w K=> ?_,λk q v hz s hs hsd b w e=> ?_,λb V=> ?_,λj B=>(D j B).1,VF hro, .inl hro⟩
  .rw[W k q (F k v)];rcases hfz.2 k with h|h
   .exact .inl h
   .exact .inr (.inl h)
  .have B:=List.mem_of_getElem? hi;have hw:=fxw j B;have hlt:=(mv hok hw).1;show ae ct.S _=b;rw[hget _ hlt];refine s4 (vJ hnd) i _ b ?_ V hlt;rw[<-U,List.getElem?_map,hi];rfl
  .show ae (Sf++bs) (dt c.S+i)=b;rw[<-s2,th];exact wR V
  .unfold xn
   have:Nat.blt (dt f+i) (dt f)=Zb:=by
    cases V:Nat.blt (dt f+i) (dt f) with
    |false=>rfl
    |true=>have:=Nat.le_of_ble_eq_true V;omega
   rw[this,zD,bD]
  .show(if dt c.S+i<dt c.S then _ else _)=_;rw[Zh,bD,hx]
  .exact hun k q (F k v) (by rw[<-Q k q (F k v)];exact r) b y w K
  .have hdm':(ae c.S k).dim≠Y:=by rw[<-Q k q (F k v)];exact r
   have⟨y,K⟩:=C k b hdm' e;exact A.ow b y ZU (nown k (F k v) hdm' b e) ⟨s,hz,w⟩
  .obtain⟨k,h1,t⟩:=pos j (D j B).1;have hj0:j<dt c0.S:=by rw[hS0,l1];exact(D j B).1
   cases M:(ae c'.S j).dim with
   |none=>exact(r M).elim
   |some d=>
    have⟨u,E⟩:=A.al j d hj0 M;have⟨x,H,h6,h7⟩:=hE.sub j (by rw[u];simp);rw[h1]at H;cases H;have⟨h8,h9,_⟩:=h7 _ rfl;rw[t];refine⟨by rw[<-h9 rfl,u],E.trans h6,λb y w K=>A.ln j d b y hj0 M (h6.trans w) ZU⟩
  .obtain⟨k,h1,t⟩:=pos j (D j B).1;have⟨P,u,E⟩:=pos j' (D j' hj').1;rw[t,E]at e;subst e;exact HM hnd h1 u rfl
  .have h1:=hR'.fbk k b r w;rw[I,J]at h1;refine h1 ⟨.inr V, ?_⟩;rintro⟨P,_,u,E⟩;exact hR.fbk P b u E V
  .obtain⟨k,h1,t⟩:=pos j B;have ho:f[j]?=O f[j]:=aB B
   have hr:(f[j]).ro=Za:=by
    cases hr:(f[j]).ro with
    |true=>rfl
    |false=>exact(v (IN.2 ⟨j,_,ho,hr,V1⟩)).elim
   have⟨u,E⟩:=hE.fz j _ ho hr;have⟨x,H,h6,h7⟩:=hE.sub j E;rw[h1]at H;cases H;have⟨h8,h9,_⟩:=h7 _ rfl;simp only at h8 h9;have hkl:k<dt c.S:=mw h8
   have hkw:k∉kg f st.m:=by
    intro q;have⟨i,o,x,g1,g2,g3,g4⟩:=Fu q;have:=HM hnd g1 h1 g4;subst this;rw[ho]at g2;injection g2 with g2
    rw[g2,g3]at hr;cases hr
   have hj0:j<dt c0.S:=by rw[hS0,l1];exact B
   have X:=A.fz j u E;rw[t];refine⟨by simp only[ct,List.length_append,s2];omega,λd' hd'=> ?_⟩;rw[Q k hkl hkw]at hd';refine⟨d',by rw[X,h9 trivial];exact hd',rfl, ?_,rfl⟩;show(if k<dt c.S then c.μ k else _)=_;rw[zE hkl,(A.al j d' hj0 (by rw[X,h9 trivial];exact hd')).2,h6];rfl
  .obtain⟨h1,t⟩:=notin k q (F k v) hz b w;exact .inr (by rw[I,J];exact⟨.inl ⟨k,h1,w⟩,t⟩)
  .obtain⟨h1,t⟩:=notin k q (F k v) hz b e;have u:=hR'.fbk s b hsd w;rw[I,J]at u;exact u ⟨.inl ⟨k,h1,e⟩,t⟩
  .refine .inr ?_;rw[I,J];refine⟨.inr V, ?_⟩;rintro⟨P,_,u,E⟩;exact hR.fbk P b u E V
 have⟨r1,r2,r3⟩:=g.all hR hR' hd he hf;exact⟨ct,rfl,rfl,rfl,λk q=>zE q,r1,r2,r3,hun⟩
end
end Go.V
