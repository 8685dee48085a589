/- A part of the proof. No condition. -/
import Derived.Test.YtknphpcjacoaeaaGreatA5
set_option linter.unusedVariables false
set_option linter.unusedSimpArgs false
set_option linter.unusedSectionVars false
namespace Go.V
open Go.Ab
open Option renaming some->O,none->Y
open Bool renaming true->Za,false->Zb
open Decidable renaming decide->Zc
variable {a:Value}{N j k:Nat}{s:Sh}{x z:Operand}{st stf:DSt}{op:AOp}{blk:Blk}{Z:Hp}
section
open Bool renaming and_eq_true -> bB
open List renaming length_append -> cD, length_take -> dB, take_of_length_le -> dD, replicate -> gD, length_drop -> iB, length_nil -> iC, drop_zero -> iE, replicate_succ -> iF, append_assoc -> iG, flatten_cons -> iH, take_take -> iI, drop_eq_nil_of_le -> iP, getD_eq_getElem?_getD -> iQ, length_cons -> iR, take_append_of_le_length -> iS
open Nat renaming beq -> aB, eq_of_beq_eq_true -> aD, le_refl -> bD, zero_add -> cB, add_mul -> eD, le_of_ble_eq_true -> fB, eq_of_mul_eq_mul_right -> fD, mul_le_mul_right -> gB, ble -> iA, min_eq_left -> iD, eq_zero_or_pos -> iJ, min_le_left -> iK, mul_div_cancel -> iL, mul_one -> iM, mul_pos -> iN, zero_mul -> iO, le_of_mul_le_mul_right -> iT, mul_le_mul_left -> iU
open Option renaming getD_some -> iV
section
variable {β:Type} {T:mE} {c:Ctx} {e:dk} {ea:cm} {k:VV->ak->Option β} {y:β} {d:List Nat}
theorem Fi : ∀{z:List Value} {s:Sh},ND z=O s->F2 (VRel c) (du s (yy s)) z
 |[],s,h=>by simp[ND]at h
 |v::r,s,h=>by
  unfold ND at h;split at h
  .rename_i b;injection b with f g
   subst f;subst g;injection h with h;subst h
   exact .cons (.int _ _) .nil
  .rename_i b;injection b with f g
   subst f;subst g;injection h with h;subst h
   exact .cons (.bool _) .nil
  .rename_i b;injection b with f g
   subst f;subst g;obtain⟨m,l,i⟩:=ah h;injection i with i;subst i
   exact .cons (.int _ _) (Fi l)
  .rename_i b;injection b with f g
   subst f;subst g;obtain⟨m,l,i⟩:=ah h;injection i with i;subst i
   exact .cons (.bool _) (Fi l)
  .cases h
theorem vV {s:Sh}{x:El s}: ∀n,ib s (gD n x)=(gD n (du s x)).flatten
 |0=>rfl
 |n+1=>by rw[iF,jc,vV n,iF,iH]
theorem Su (z:List Value)(m n:Nat):eo z (m+n)=eo z m++eo z n:=by
 simp only[eo];rw[<-List.replicate_append_replicate,List.flatten_append]
theorem Sv (z:List Value)(n:Nat):(eo z n).length=n*z.length:=by
 simp[eo,List.length_flatten,List.map_replicate]
theorem aJ9 (g:Rel c)(F:ba c e ea){es bytes:Nat}{z:List Value}{l m:Operand}(h:av2 c.S es bytes z (ev e l) (ev e m) k=O y):cc T (.makeSlice es bytes z l m) ea c.Z (ng c d k y):=by
 have I:=cd F l;have J:=cd F m;unfold av2 at h;split at h
 .rename_i W a X b s M P U;rw[M]at I;rw[P]at J;obtain⟨H,Q⟩:=aw h;simp only[bB]at H;obtain⟨⟨⟨⟨r,t⟩,u⟩,C⟩,D⟩:=H;have r:=aD r;have t:=of_decide_eq_true t;have u:=of_decide_eq_true u;have C:=of_decide_eq_true C;have D:=fB D;have K:=Fi (c:=c) U;have B:z.length=s.w:=by rw[<-K.length,er]
  have E:b<=bytes*b:=by
   have:(1:Int)*b<=bytes*b:=Int.mul_le_mul_of_nonneg_right (by omega) (by omega);omega
  refine ck (v:= .slice (O ⟨c.Z.n,0,Y⟩) a.toNat b.toNat) (Z':=c.Z.add ⟨eo z b.toNat,Za,es⟩) ?_ ?_
  .simp only[AOp.run,I.int_inv,J.int_inv];rw[zE ⟨t,u,by omega,by omega⟩]
  .have o:eo z b.toNat=eo z a.toNat++eo z (b.toNat-a.toNat):=by rw[<-Su];congr 1;omega
   have p:F2 (VRel c) (ib s (gD a.toNat (yy s))) (eo z a.toNat):=by
    rw[vV];clear o;generalize a.toNat=n;induction n with
    |zero=>exact .nil
    |succ n L=>
     simp only[eo,iF,iH]at L⊢;exact K.append L
   have A:Moves c Y (O c.Z.n) (.arr s Zb (gD a.toNat (yy s))) (c.Z.add ⟨eo z b.toNat,Za,es⟩):=by
    refine⟨(λb h _ E=>by injection h with h;subst h;exact Nat.lt_irrefl _ (g.fbl _ E)),(λ_ h=>by cases h),λq x f=> ?_,Nat.le_succ _,λi x f _=> ?_,(s.w,(gD a.toNat (yy s)).length*s.w),rfl,qU s, .inr ⟨c.Z.n,⟨eo z b.toNat,Za,es⟩,eo z a.toNat,eo z (b.toNat-a.toNat),rfl,zE rfl,r,λ_=>rfl,o,p, .inl λw V=> ?_⟩⟩
    .simp only[Hp.add]at f⊢;split at f
     .omega
     .have:=g.ok q x f;omega
    .have:=g.ok i x f;simp only[Hp.add];rw[Zh];exact f
    .have:=g.ok _ _ V;omega
   refine ng.new (kill:=Y) g A (λ_ h=>by cases h) (C6 (dm:=(s.w,(gD a.toNat (yy s)).length*s.w)) (n:=a.toNat) (m:=b.toNat) (yb:=⟨eo z b.toNat,Za,es⟩) rfl (by simp) (by omega) (zE rfl) ?_) Q;rw[Sv,B];exact bD _
 .cases h
def More.cellsOf :More->List VV
 | .cells l=>l
 | .lst s l=>ib s l
theorem P5 {x:Ab.Blk}{o n m:Nat}(h:o+n<=x.cells.length)(b:m<=n):uK x o m=O (((x.cells.drop o).take n).take m):=by
 unfold uK;rw[Zg,iI,iD b]
theorem Jp (E:Rel c){q o n es:Nat}{dm:Nat×Nat}(f:(ae c.S q).dim=O dm)(F:dm.1=es)(H:KH c q o n dm a):
  ∃g,JH a=O n/\(∀m,m<=n->c.Z.slice es a m=O (g.take (m*es)))/\g.length=n*es/\F2 (VRel c) (((ae c.S q).vals.drop (o*es)).take (n*es)) g:=by
 subst F;rcases H with⟨rfl,rfl,rfl,w,P⟩|⟨b,J,x,rfl,w,C,K,A,L⟩
 .refine⟨[],rfl,λm h=> ?_,by simp,by simp;exact .nil⟩;have:m=0:=by omega
  subst this;simp[Hp.slice]
 .obtain⟨Q,r,B,p,_,_,u,v⟩:=E.block f w;rw[A]at p;injection p with p
  subst p;have M:=v.length
  have I:(ae c.S q).vals.length=dm.2:=by
   generalize ae c.S q=blk at f;cases blk with
   |dead=>cases f
   |cells es z l=>injection f with f;subst f;rfl
   |arr s z l=>injection f with f;subst f;exact jh
  rw[eD]at C;have D:((r.drop (o*dm.1)).take (n*dm.1)).length=n*dm.1:=by rw[dB,iB];omega
  refine⟨(r.drop (o*dm.1)).take (n*dm.1),rfl,λm h=> ?_,D,(v.drop _).take _⟩;have t:m*dm.1<=n*dm.1:=gB _ h;by_cases i:m=0
  .subst i;simp[Hp.slice]
  simp only[Hp.slice,A,zF i];rw[P5 (n:=n*dm.1) (by rw[u,cD];omega) t,u,List.drop_append_of_le_length (by omega),iS (l₁:=r.drop (o*dm.1)) (by rw[iB];omega)]
theorem Fa (P:Rel c){es:Nat}{v:VV}{m:More}(h:MF c.S es v=O m)(M:VRel c v a):
  ∃n r,JH a=O n/\(∀i,i<=n->c.Z.slice es a i=O (r.take (i*es)))/\r.length=n*es/\F2 (VRel c) m.cellsOf r/\(∀s l,m= .lst s l->es=s.w/\n=l.length):=by
 cases v<;>simp only[MF]at h<;>try(cases h;done)
 case nils=>
  injection h with h;subst h
  cases M;refine⟨0,[],rfl,λi I=> ?_,by simp, .nil,λs l h=>by cases h⟩;have:i=0:=by omega
  subst this;simp[Hp.slice]
 case str l=>
  cases g:aB es 1 with
  |false=>rw[g]at h;cases h
  |true=>
   rw[g]at h;have g:=aD g;subst g;injection h with h;subst h
   obtain⟨s,rfl,rfl⟩:=M.str_inv;refine⟨s.size,s.data.toList.map λb=> .int .u8 b.toNat,rfl,λi I=> ?_,by simp, ?_,λJ l h=> ?_⟩
   .simp only[Hp.slice,if_true,iM];simp[ByteArray.data_extract,Array.toList_extract,List.extract_eq_take_drop,List.map_take]
   .simp only[More.cellsOf,nF,ib];generalize s.data.toList=l;induction l with
    |nil=>exact .nil
    |cons b l X=>exact .cons (.int _ _) X
   .injection h with u t
    subst u;cases t;exact⟨rfl,(DV s).symm⟩
 case lst s l=>
  cases g:aB es s.w with
  |false=>rw[g]at h;cases h
  |true=>
   rw[g]at h;have g:=aD g;subst g;injection h with h;subst h
   refine⟨l.length, ?_⟩;rcases M.listAt with⟨qq,rfl,rfl,U⟩|⟨b,p,cp,x,rfl,u,t,E,D,C⟩
   .refine⟨[],rfl,λi I=> ?_,by simp, .nil,λJ l h=>by injection h with u t;subst u;cases t;exact⟨rfl,rfl⟩⟩;have:i=0:=by simp at I;exact I
    subst this;cases qq with
    |none=>simp[Hp.slice]
    |some z=>
     have:=U z rfl;obtain⟨zb,zo,zs⟩:=z;simp only at this;subst this;simp[Hp.slice]
   .refine⟨(x.cells.drop p).take (l.length*s.w),rfl,λi I=> ?_,by rw[<-C.length,jh],C,λJ Q h=>by injection h with u t;subst u;cases t;exact⟨rfl,rfl⟩⟩;by_cases L:i=0
    .subst L;simp[Hp.slice]
    simp only[Hp.slice,u,zF L];exact P5 D (gB _ I)
 case full q=>
  cases M with
  |full W _ K=>
   cases A:ae c.S q with
   |dead=>rw[A]at h;cases h
   |arr s z l=>
    rw[A]at h;cases g:aB es s.w with
    |false=>simp only[g]at h;cases h
    |true=>
     simp only[g]at h;have g:=aD g;subst g;injection h with h;subst h
     have f:(ae c.S q).dim=O (s.w,l.length*s.w):=by rw[A];rfl
     obtain⟨n,u,t⟩:=K _ f;have:n=l.length:=fD (qU s) u;subst this;obtain⟨r,E,D,C,B⟩:=Jp P f rfl t;rw[A,iO,iE,dD (by simp[Blk.vals,jh])]at B;exact⟨_,r,E,D,C,B,λJ Q h=>by injection h with u t;subst u;cases t;exact⟨rfl,rfl⟩⟩
   |cells F z l=>
    rw[A]at h;cases g:(aB es F&&iA 1 es)with
    |false=>simp only[g]at h;cases h
    |true=>
     simp only[g]at h;rw[bB]at g;have H:=aD g.1;subst H;injection h with h;subst h
     have f:(ae c.S q).dim=O (es,l.length):=by rw[A];rfl
     obtain⟨n,u,t⟩:=K _ f;obtain⟨r,E,D,C,B⟩:=Jp P f rfl t;simp only at u;rw[A,iO,iE,u,dD (by exact bD _)]at B;exact⟨_,r,E,D,C,B,λJ Q h=>by cases h⟩
 case part q o n=>
  cases M with
  |part W _ K=>
   cases A:ae c.S q with
   |dead=>rw[A]at h;cases h
   |arr s z l=>
    rw[A]at h;cases g:aB es s.w with
    |false=>simp only[g]at h;cases h
    |true=>
     simp only[g]at h;have g:=aD g;subst g;injection h with h;subst h
     have f:(ae c.S q).dim=O (s.w,l.length*s.w):=by rw[A];rfl
     have t:=K _ f;obtain⟨r,E,D,C,B⟩:=Jp P f rfl t;rw[A]at B;simp only[Blk.vals]at B;rw[<-CW,<-oG]at B
     have V:n=((l.drop o).take n).length:=by
      have:=B.length;rw[jh,C]at this;exact(fD (qU s) this).symm
     exact⟨_,r,E,D,C,B,λJ Q h=>by injection h with u t;subst u;cases t;exact⟨rfl,V⟩⟩
   |cells F z l=>
    rw[A]at h;cases g:(aB es F&&iA 1 es)with
    |false=>simp only[g]at h;cases h
    |true=>
     simp only[g]at h;rw[bB]at g;have H:=aD g.1;subst H;injection h with h;subst h
     have f:(ae c.S q).dim=O (es,l.length):=by rw[A];rfl
     have t:=K _ f;obtain⟨r,E,D,C,B⟩:=Jp P f rfl t;rw[A]at B;exact⟨_,r,E,D,C,B,λJ Q h=>by cases h⟩
def Base.cellsOf :Base->List VV
 | .none=>[]
 | .cells _ l=>l
 | .arr s l=>ib s l
structure BaseAt (c:Ctx)(es sl:Nat)(base:Base)(kill:Option Nat)(a:Value):Prop where
 no:kill=Y->a= .slice Y 0 0/\sl=0/\base= .none
 yes: ∀q,kill=O q->∃dm,(ae c.S q).dim=O dm/\dm.1=es/\(ae c.S q).frozen=Zb/\KH c q 0 sl dm a/\base.cellsOf=(ae c.S q).vals.take (sl*es)
 es: ∀e l,base= .cells e l->e=es/\1<=es
theorem Gg {dm:Nat×Nat}(h:blk.dim=O dm):blk.vals.length=dm.2:=by
 cases blk with
 |dead=>cases h
 |cells b z l=>injection h with h;subst h;rfl
 |arr s z l=>injection h with h;subst h;exact jh
theorem af1 {es:Nat}{v:VV}{p:Base}{kill:Option Nat}(L:Rel c)(h:EC c.S es v=O (p,kill))(C:VRel c v a): ∃sl,BaseAt c es sl p kill a/\p.cellsOf.length=sl*es/\(∀s l,p= .arr s l->es=s.w/\sl=l.length):=by
 cases v<;>try(cases h;done)
 case nils=>
  simp only[EC]at h;injection h with h
  injection h with i g
  subst i;subst g;cases C;exact⟨0,⟨λ_=>⟨rfl,rfl,rfl⟩,(λq h=>by cases h),(λe l h=>by cases h)⟩,by simp[Base.cellsOf],λs l h=>by cases h⟩
 case full q=>
  simp only[EC]at h;cases C with
  |full J _ B=>
   cases o:ae c.S q with
   |dead=>rw[o]at h;cases h
   |arr s z l=>
    rw[o]at h;cases z with
    |true=>cases h
    |false=>
     simp only at h;cases m:aB es s.w with
     |false=>rw[m]at h;cases h
     |true=>
      rw[m]at h;have m:=aD m;subst m;injection h with h
      injection h with i g
      subst i;subst g;have f:(ae c.S q).dim=O (s.w,l.length*s.w):=by rw[o];rfl
      obtain⟨n,i,g⟩:=B _ f;have:n=l.length:=fD (qU s) i;subst this;refine⟨l.length,⟨(λh=>by cases h),λE h=> ?_,(λe l h=>by cases h)⟩,jh,λF D h=>by injection h with i g;subst i;cases g;exact⟨rfl,rfl⟩⟩;injection h with h
      subst h;refine⟨_,f,rfl,by rw[o];rfl,g, ?_⟩;rw[o];exact(dD (by rw[show(Base.arr s l).cellsOf=ib s l from rfl,jh];exact bD _)).symm
   |cells t z l=>
    rw[o]at h;cases z with
    |true=>cases h
    |false=>
     simp only at h;cases m:(aB es t&&iA 1 es)with
     |false=>rw[m]at h;cases h
     |true=>
      rw[m]at h;rw[bB]at m;have A:=aD m.1;subst A;injection h with h
      injection h with i g
      subst i;subst g;have f:(ae c.S q).dim=O (es,l.length):=by rw[o];rfl
      obtain⟨n,i,g⟩:=B _ f;simp only at i;refine⟨n,⟨(λh=>by cases h),λE h=> ?_,λe l h=>by injection h with i g;exact⟨i.symm,fB m.2⟩⟩,i.symm,λF D h=>by cases h⟩;injection h with h
      subst h;refine⟨_,f,rfl,by rw[o];rfl,g, ?_⟩;rw[o,i];exact(dD (bD _)).symm
 case part q H n=>
  cases H with
  |succ H=>cases h
  |zero=>
   simp only[EC]at h;cases C with
   |part J _ B=>
    cases o:ae c.S q with
    |dead=>rw[o]at h;cases h
    |arr s z l=>
     rw[o]at h;cases z with
     |true=>cases h
     |false=>
      simp only at h;cases m:aB es s.w with
      |false=>rw[m]at h;cases h
      |true=>
       rw[m]at h;have m:=aD m;subst m;injection h with h
       injection h with i g
       subst i;subst g;have f:(ae c.S q).dim=O (s.w,l.length*s.w):=by rw[o];rfl
       have g:=B _ f
       have K:n<=l.length:=by
        rcases g with⟨_,_,u,_,_⟩|⟨b,I,x,_,_,u,_⟩
        .omega
        .rw[cB]at u;exact iT u (qU s)
       have r:(l.take n).length=n:=by rw[dB];omega
       refine⟨n,⟨(λh=>by cases h),λE h=> ?_,(λe l h=>by cases h)⟩,by simp only[Base.cellsOf];rw[jh,r],λF D h=>by injection h with i g;subst i;cases g;exact⟨rfl,r.symm⟩⟩;injection h with h
       subst h;refine⟨_,f,rfl,by rw[o];rfl,g, ?_⟩;rw[o];exact oG
    |cells t z l=>
     rw[o]at h;cases z with
     |true=>cases h
     |false=>
      simp only at h;cases m:(aB es t&&iA 1 es)with
      |false=>rw[m]at h;cases h
      |true=>
       rw[m]at h;rw[bB]at m;have A:=aD m.1;subst A;injection h with h
       injection h with i g
       subst i;subst g;have f:(ae c.S q).dim=O (es,l.length):=by rw[o];rfl
       have g:=B _ f
       have K:n*es<=l.length:=by
        rcases g with⟨_,_,u,_,_⟩|⟨b,I,x,_,_,u,_⟩
        .subst u;simp
        .rwa [cB]at u
       refine⟨n,⟨(λh=>by cases h),λE h=> ?_,λe l h=>by injection h with i g;exact⟨i.symm,fB m.2⟩⟩,by simp only[Base.cellsOf];rw[dB];omega,λF D h=>by cases h⟩;injection h with h
       subst h;exact⟨_,f,rfl,by rw[o];rfl,g,by rw[o];rfl⟩
theorem aA1 {vs cs:List Value}(h:cs.length=vs.length):oI cs 0 vs=vs:=by
 induction vs generalizing cs with
 |nil=>simp only[oI];exact List.length_eq_zero_iff.1 h
 |cons v vs g=>
  cases cs with
  |nil=>simp at h
  |cons a cs=>
   have f:cs.length=vs.length:=by simpa using h
   show oI ((a::cs).set 0 v) (0+1) vs=_;have b:=De vs [v] cs 0;simp only[iR,iC,List.singleton_append,cB]at b;rw[List.set_cons_zero,b,g f]
theorem UI {vs cs:List Value}{p:Nat}(h:p+vs.length<=cs.length):oI cs p vs=cs.take p++(vs++cs.drop (p+vs.length)):=by
 have:=Qv (vs:=vs) (cs:=cs) (p:=p) (o:=0) (w:=vs.length) (by omega) h;rw[Nat.add_zero,aA1 (by rw[dB,iB];omega)]at this;exact this
theorem Tx {x z:Ab.Blk}{b i:Nat}(h:((Z.set b Y).add x).m i=O z):i=Z.n∨(i≠b/\Z.m i=O z):=by
 by_cases l:i=Z.n
 .exact .inl l
 .refine .inr ?_;have o:((Z.set b Y).add x).m i=(Z.set b Y).m i:=zF l;rw[o]at h;by_cases f:i=b
  .have g:(Z.set b Y).m i=Y:=zE f;rw[g]at h;cases h
  .have g:(Z.set b Y).m i=Z.m i:=zF f;exact⟨f,g▸h⟩
theorem Vi {x:Ab.Blk}{b i:Nat}(f:i≠Z.n)(h:i≠b):((Z.set b Y).add x).m i=Z.m i:=by
 have g:((Z.set b Y).add x).m i=(Z.set b Y).m i:=zF f;have l:(Z.set b Y).m i=Z.m i:=zF h;exact g.trans l
structure Grown (c:Ctx)(base more:List VV)(es n:Nat)(blk:Blk):Prop where
 dim:blk.dim=O (es,n*es)
 fz:blk.frozen=Zb
 rel: ∀bs ms,F2 (VRel c) base bs->F2 (VRel c) more ms->F2 (VRel c) blk.vals (bs++ms)
theorem wM {c1:Ctx}{es bytes sl n:Nat}{C:Base}{kill:Option Nat}{W:List VV}{s:Operand}{all:List Value}(u:Rel c1)(hS:yA c.S c1.S)(hμ:c1.μ=c.μ)(F:c1.Z=c.Z)(hle:Le c c1)(hcalm:zX d c c1)
  (w:1<=es) (hb:BaseAt c es sl C kill (ea.ev s)) (J: ∀q,kill=O q->(ae c1.S q).frozen=Zb)
  (B: ∀a sl' sc,ea.ev s= .slice a sl' sc->op.run ea c.Z=qM es bytes c.Z a sl' sc n all) (h3:all.length=n*es) (h4:F2 (VRel c1) W all) (h5:all.all one=Za) (A:Grown c1 C.cellsOf W es (sl+n) blk)
  (hf:ip (sl+n) bytes=Za) (hd: ∀q,kill=O q->q∈d) (hk:k (.full c1.S.length) (vx c1.S kill++[blk])=O y):cc T op ea c.Z (ng c d k y):=by
 have o:(sl+n)*bytes<=140737488355328/\sl+n<=9223372036854775807:=by
  unfold ip at hf;rw[bB]at hf;have g1:=of_decide_eq_true hf.1;have g2:=fB hf.2;refine⟨g1, ?_⟩;have:(sl+n)*1<=(sl+n)*bytes:=iU _ g2;omega
 have hnew:all=[]->n=0:=by
  intro h;subst h;simp only[iC]at h3;rcases iJ n with h|h
  .exact h
  .have:=iN h w;omega
 have t: ∀{v:Value} {Z':Hp} {b1:Option Nat},Moves c1 kill b1 blk Z'->VRel ⟨Bs c1 b1,vx c1.S kill++[blk],Z',c1.fb⟩ (.full c1.S.length) v->ng c d k y v Z':=by
  intro v Z' b1 hm hv;exact⟨_,_,rfl,hle.trans (hm.le u),hm.rel u,hcalm.trans (hm.calm u hd) hle,hv,hk⟩
 cases kill with
 |none=>
  obtain⟨L,e2,e3⟩:=hb.no rfl;subst e2;subst e3;by_cases U:n=0
  .subst U;have:all=[]:=by simpa using h3
   subst this;have p:Moves c1 Y Y blk c1.Z:=⟨(λ_ h=>by cases h),(λ_ h=>by cases h),u.ok,bD _,λ_ _ h _=>h,_,A.dim,w, .inl ⟨rfl,by simp⟩⟩;refine ck (v:= .slice Y 0 0) (Z':=c.Z) ?_ ?_
   .rw[B _ _ _ L];unfold qM;rw[zE (by simp)];simp
   .rw[<-F];refine t p (.full (by simp[vx]) rfl λd' g=> ?_);simp only[oj,if_true]at g;rw[A.dim]at g;injection g with g
    subst g;exact⟨0,by simp, .inl ⟨rfl,rfl,rfl,by simp[Bs],by simp⟩⟩
  .have p:=ae4 u (blk:=blk) (x:=⟨all,Za,es⟩) A.dim w rfl rfl (by have:=A.rel [] all .nil h4;simpa using this);refine ck (v:= .slice (O ⟨c.Z.n,0,Y⟩) n n) (Z':=c.Z.add ⟨all,Za,es⟩) ?_ ?_
   .rw[B _ _ _ L];unfold qM;rw[Zh,zE ⟨o.1,o.2,h5⟩];simp
   .rw[<-F];refine t p (C6 (yb:=⟨all,Za,es⟩) A.dim (by simp) (bD _) (zE rfl) ?_);show n*es<=all.length;omega
 |some q=>
  obtain⟨f,g1,g2,g3,g4,g5⟩:=hb.yes q rfl;subst g2;have H:(ae c1.S q).dim=O f:=by rw[hS.dim];exact g1
  have Q:(ae c1.S q).vals=(ae c.S q).vals:=hS.vals q;rcases g4 with⟨L,_,e2,e3,e4⟩|⟨b,cp,yb,L,e3,e4,e5,e6,e7⟩
  .subst e2;have hbase:C.cellsOf=[]:=by rw[g5];simp
   by_cases U:n=0
   .subst U;have:all=[]:=by simpa using h3
    subst this;have p:Moves c1 (O q) Y blk c1.Z:=⟨(λ_ h=>by cases h),(λ_ h=>by injection h with h;subst h;exact J q rfl),u.ok,bD _,λ_ _ h _=>h,_,A.dim,w, .inl ⟨rfl,by simp⟩⟩;refine ck (v:= .slice Y 0 0) (Z':=c.Z) ?_ ?_
    .rw[B _ _ _ L];unfold qM;rw[zE (by simp)];simp
    .rw[<-F];refine t p (.full (by simp[Cd]) rfl λd' g=> ?_);simp only[oj,if_true]at g;rw[A.dim]at g;injection g with g
     subst g;exact⟨0,by simp, .inl ⟨rfl,rfl,rfl,by simp[Bs],by simp⟩⟩
   .have p:Moves c1 (O q) (O c1.Z.n) blk (c1.Z.add ⟨all,Za,f.1⟩):=by
     have M:=ae4 u (blk:=blk) (x:=⟨all,Za,f.1⟩) A.dim w rfl rfl (by have:=A.rel [] all (by rw[hbase];exact .nil) h4;simpa using this);refine⟨M.fr,(λ_ h=>by injection h with h;subst h;exact J q rfl),M.ok,M.n,λi z r _=>M.old i z r (λ⟨_,h,_⟩=>by cases h), ?_⟩;obtain⟨dd,k1,k2,k3⟩:=M.one;refine⟨dd,k1,k2, ?_⟩;rcases k3 with k3|⟨b',y',E,X,k3,k4,k5,k6,k7,k8,k9⟩
     .exact .inl k3
     .refine .inr ⟨b',y',E,X,k3,k4,k5,k6,k7,k8, .inl ?_⟩;rcases k9 with k9|⟨_,k9,_⟩
      .exact k9
      .cases k9
    refine ck (v:= .slice (O ⟨c.Z.n,0,Y⟩) n n) (Z':=c.Z.add ⟨all,Za,f.1⟩) ?_ ?_
    .rw[B _ _ _ L];unfold qM;rw[Zh,zE ⟨o.1,o.2,h5⟩];simp
    .rw[<-F];refine t p (C6 (yb:=⟨all,Za,f.1⟩) A.dim (by simp) (bD _) (zE rfl) ?_);show n*f.1<=all.length;omega
  .rw[iO]at L;rw[cB]at e4 e7;have P:c1.μ q=O b:=by rw[hμ];exact e3
   obtain⟨yb',E,X,f1,f2,f3,f4,f5⟩:=u.block H P;rw[F]at f1;rw[e6]at f1;injection f1 with f1
   subst f1;have K:=f3 (J q rfl);have hcl:E.length=f.2:=by rw[<-f5.length];exact Gg H
   have hbs:F2 (VRel c1) C.cellsOf (E.take (sl*f.1)):=by rw[g5,<-Q];exact f5.take _
   have V:=A.rel _ _ hbs h4;have D:yb.cells.take (sl*f.1)=E.take (sl*f.1):=by rw[f4,iS (by omega)]
   have hcp:sl*f.1<=cp*f.1:=gB _ e5;by_cases l:sl+n<=cp
   .have hroom':sl*f.1+n*f.1<=cp*f.1:=by rw[<-eD];exact gB _ l
    have hset:oI yb.cells (sl*f.1) all=E.take (sl*f.1)++(all++yb.cells.drop (sl*f.1+all.length)):=by rw[UI (by omega),D]
    have mk: ∀Z':Hp,Z'.Ok->Z'.n=c1.Z.n->(∀i,i≠b->Z'.m i=c1.Z.m i)->Z'.m b=O ⟨oI yb.cells (sl*f.1) all,Za,yb.es⟩->Moves c1 (O q) (O b) blk Z':=by
     intro Z' ho U hm hb';refine⟨(λb' h r _=>by injection h with h;subst h;exact r _ (by rw[F];exact e6)),(λ_ h=>by injection h with h;subst h;exact J q rfl),ho,by omega,λi z r hK=> ?_,(f.1,(sl+n)*f.1),A.dim,w, .inr ⟨b,_,E.take (sl*f.1)++all,yb.cells.drop (sl*f.1+all.length),rfl,hb',f2,λ_=>rfl,by show oI _ _ _=_;rw[hset,iG],V, .inr ⟨q,rfl,P⟩⟩⟩;have:i≠b:=by rintro rfl;exact hK ⟨q,rfl,P⟩
     rw[hm i this];exact r
    have I: ∀Z':Hp,Z'.m b=O ⟨oI yb.cells (sl*f.1) all,Za,yb.es⟩->VRel ⟨Bs c1 (O b),vx c1.S (O q)++[blk],Z',c1.fb⟩ (.full c1.S.length) (.slice (O ⟨b,0,Y⟩) (sl+n) cp):=by
     intro Z' hb';refine C6 A.dim rfl l hb' ?_;show cp*f.1<=(oI yb.cells (sl*f.1) all).length;rw[Fh];exact e7
    by_cases U:all=[]
    .have hself:yb=⟨oI yb.cells (sl*f.1) all,Za,yb.es⟩:=by
      subst U;cases yb;simp only[oI]at*;simp[K]
     refine ck (v:= .slice (O ⟨b,0,Y⟩) (sl+n) cp) (Z':=c.Z) ?_ ?_
     .rw[B _ _ _ L];unfold qM;rw[zE l];simp[U]
     .rw[<-F];have e6':c1.Z.m b=O ⟨oI yb.cells (sl*f.1) all,Za,yb.es⟩:=by rw[<-hself,F];exact e6
      exact t (mk c1.Z u.ok rfl (λ_ _=>rfl) e6') (I _ e6')
    .refine ck (v:= .slice (O ⟨b,0,Y⟩) (sl+n) cp) (Z':=c.Z.set b (O ⟨oI yb.cells (sl*f.1) all,Za,yb.es⟩)) ?_ ?_
     .rw[B _ _ _ L];unfold qM;rw[zE l];simp only[U,if_false,e6,cB];rw[Jv K (by omega) h5]
     .rw[<-F];refine t (mk _ (λi z r=> ?_) rfl (λi hi=>by simp[Hp.set,hi]) (by simp[Hp.set])) (I _ (by simp[Hp.set]));simp only[Hp.set]at r;split at r
      .rename_i e;subst e;exact u.ok _ _ (by rw[F];exact e6)
      .exact u.ok _ _ r
   .have p:Moves c1 (O q) (O c1.Z.n) blk ((c1.Z.set b Y).add ⟨E.take (sl*f.1)++all,Za,f.1⟩):=by
     refine⟨(λb h _ hb=>by injection h with h;subst h;exact Nat.lt_irrefl _ (u.fbl _ hb)),(λ_ h=>by injection h with h;subst h;exact J q rfl),λi z r=> ?_,Nat.le_succ _,λi z r hK=> ?_,(f.1,(sl+n)*f.1),A.dim,w, .inr ⟨c1.Z.n,_,E.take (sl*f.1)++all,[],rfl,zE rfl,rfl,λ_=>rfl,by simp,V, .inl λz r=> ?_⟩⟩
     .show i<c1.Z.n+1;rcases Tx r with M|⟨_,M⟩
      .omega
      .have:=u.ok i z M;omega
     .have M:i≠b:=by rintro rfl;exact hK ⟨q,rfl,P⟩
      have h9:=u.ok i z r;rw[Vi (by omega) M];exact r
     .have:=u.ok _ _ r;omega
    refine ck (v:= .slice (O ⟨c.Z.n,0,Y⟩) (sl+n) (sl+n)) (Z':=(c.Z.set b Y).add ⟨E.take (sl*f.1)++all,Za,f.1⟩) ?_ ?_
    .rw[B _ _ _ L];unfold qM;rw[zF l,zE ⟨o.1,o.2,h5⟩];simp only[e6];rw[zE ⟨K,f2⟩]
     have:uK yb 0 (sl*f.1)=O (E.take (sl*f.1)):=by
      unfold uK;rw[Zg,iE,D]
     rw[this]
    .rw[<-F];refine t p (C6 (yb:=⟨E.take (sl*f.1)++all,Za,f.1⟩) A.dim rfl (bD _) (zE rfl) ?_);show(sl+n)*f.1<=(E.take (sl*f.1)++all).length;rw[cD,dB,eD];omega
theorem M1 {S:ak}{cs:List VV}{l:List (El s)}{c1:Ctx}(b:Rel c1)(f:c1.S=S)(h:ac9 S s cs=O l):cs.length=l.length*s.w/\∀as,F2 (VRel c1) cs as->F2 (VRel c1) (ib s l) as:=by
 subst f;exact Mk (og b s) _ _ _ h
theorem O0 (hR:Rel c)(he:ba c e ea){es bytes:Nat}{s:Operand}{mo:Option More}(hd: ∀q,CR (ev e s)=O q->q∈d)(h:Of c.S es bytes (EC c.S es (ev e s)) mo k=O y)
  (hm: ∀m,mo=O m->∃n all,(∀a sl' sc,ea.ev s= .slice a sl' sc->op.run ea c.Z=qM es bytes c.Z a sl' sc n all)/\all.length=n*es/\F2 (VRel c) m.cellsOf all/\(∀s l,m= .lst s l->es=s.w/\n=l.length)):cc T op ea c.Z (ng c d k y):=by
 have hs:=cd he s;unfold Of at h;cases f:EC c.S es (ev e s)with
 |none=>rw[f]at h;cases h
 |some p=>
  obtain⟨V,o⟩:=p;cases mo with
  |none=>rw[f]at h;cases V<;>cases h
  |some m=>
   obtain⟨sl,Q,u,hba⟩:=af1 hR f hs;obtain⟨n,all,C,P,t,h5⟩:=hm m rfl
   have B: ∀q,o=O q->q∈d:=by
    intro q hq;refine hd q ?_;subst hq;cases hv:ev e s<;>rw[hv]at f<;>try(cases f;done)
    case full b=>
     simp only[EC]at f;split at f
     .rename_i s' l hbb;cases v:aB es s'.w with
      |false=>rw[v]at f;cases f
      |true=>rw[v]at f;simp only[zC,Option.some.injEq,Prod.mk.injEq]at f;rw[<-f.2];rfl
     .rename_i X l hbb;cases v:(aB es X&&iA 1 es)with
      |false=>rw[v]at f;cases f
      |true=>rw[v]at f;simp only[zC,Option.some.injEq,Prod.mk.injEq]at f;rw[<-f.2];rfl
     .cases f
    case part b lo m=>
     cases lo with
     |succ lo=>cases f
     |zero=>
      simp only[EC]at f;split at f
      .rename_i s' l hbb;cases v:aB es s'.w with
       |false=>rw[v]at f;cases f
       |true=>rw[v]at f;simp only[zC,Option.some.injEq,Prod.mk.injEq]at f;rw[<-f.2];rfl
      .rename_i X l hbb;cases v:(aB es X&&iA 1 es)with
       |false=>rw[v]at f;cases f
       |true=>rw[v]at f;simp only[zC,Option.some.injEq,Prod.mk.injEq]at f;rw[<-f.2];rfl
      .cases f
   have U: ∀q,o=O q->(ae c.S q).frozen=Zb:=by
    intro q hq;obtain⟨_,_,_,h,_⟩:=Q.yes q hq;exact h
   rw[f]at h;have i: ∀(c1:Ctx) (l:List VV),F2 (VRel c1) l all->sV l=Za->all.all one=Za:=λc1 l h1 h2=>oE h1 h2
   cases V with
   |arr s' l=>
    obtain⟨g1,H⟩:=hba s' l rfl;subst g1;cases m with
    |lst s2 l'=>
     simp only at h;obtain⟨l2,k1,k2⟩:=ah h;obtain⟨ee,k3⟩:=pM k1;cases ee;subst k3;obtain⟨r,M⟩:=aw k2;obtain⟨_,D⟩:=h5 _ _ rfl;refine wM hR (yA.refl _) rfl rfl (Le.refl c) (zX.refl d c) (qU _) Q U C P t (i c _ t (wP _ _)) ⟨?_,rfl,λbs ms E F=> ?_⟩ (by rw[H,D];exact r) B M
     .simp only[Blk.dim,cD,H,D]
     .simp only[Blk.vals];rw[Cc];exact E.append F
    |cells A=>
     simp only at h;split at h
     .rename_i s3 l3 K;obtain⟨l2,k1,k2⟩:=ah h;obtain⟨r,M⟩:=aw k2;have g:=Je c.S A;have J:Rel ⟨c.μ,KJ c.S A,c.Z,c.fb⟩:=g.rel hR;obtain⟨D,k7⟩:=M1 J rfl k1;have I:F2 (VRel ⟨c.μ,KJ c.S A,c.Z,c.fb⟩) A all:=VRel.frames g.le t
      have k8:n=l2.length:=by
       have:=t.length;simp only[More.cellsOf]at this;rw[D,P]at this;exact(fD (qU _) this).symm
      have L: ∀q,o=O q->(ae (KJ c.S A) q).frozen=Zb:=by
       intro q hq;subst hq;simp only[iV]at K;rw[K];rfl
      refine wM (c1:=⟨c.μ,KJ c.S A,c.Z,c.fb⟩) J g rfl rfl g.le (g.calm d) (qU _) Q L C P I (i _ _ (k7 _ I) (wP _ _)) ⟨?_,rfl,λbs ms E F=> ?_⟩ (by rw[H,k8];exact r) B M
      .simp only[Blk.dim,cD,H,k8]
      .simp only[Blk.vals];rw[Cc];exact E.append (k7 _ F)
     .cases h
   |cells es0 l=>
    obtain⟨g1,H⟩:=Q.es _ _ rfl;subst g1;cases m with
    |lst s2 l'=>
     simp only at h;obtain⟨w1,w2⟩:=h5 _ _ rfl;subst w1;split at h
     .rename_i s3 l3 K;obtain⟨l1,k1,k2⟩:=ah h;obtain⟨r,M⟩:=aw k2;have g:=Je c.S l;have J:Rel ⟨c.μ,KJ c.S l,c.Z,c.fb⟩:=g.rel hR;obtain⟨D,k7⟩:=M1 J rfl k1;have I:F2 (VRel ⟨c.μ,KJ c.S l,c.Z,c.fb⟩) (ib s2 l') all:=VRel.frames g.le t
      have k8:sl=l1.length:=by
       simp only[Base.cellsOf]at u;rw[D]at u;exact(fD (qU _) u).symm
      have L: ∀q,o=O q->(ae (KJ c.S l) q).frozen=Zb:=by
       intro q hq;subst hq;simp only[iV]at K;rw[K];rfl
      refine wM (c1:=⟨c.μ,KJ c.S l,c.Z,c.fb⟩) J g rfl rfl g.le (g.calm d) (qU _) Q L C P I (i _ _ I (wP _ _)) ⟨?_,rfl,λbs ms E F=> ?_⟩ (by rw[w2,k8];exact r) B M
      .simp only[Blk.dim,cD,w2,k8]
      .simp only[Blk.vals];rw[Cc];exact(k7 _ E).append F
     .cases h
    |cells A=>
     simp only at h;obtain⟨r,M⟩:=aw h;rw[bB]at r;simp only[Base.cellsOf]at u;simp only[More.cellsOf]at t;have D:A.length=n*es0:=by rw[t.length];exact P
     refine wM (blk:= .cells es0 Zb (l++A)) hR (yA.refl _) rfl rfl (Le.refl c) (zX.refl d c) H Q U C P t (i c _ t r.2) ⟨?_,rfl,λbs ms E F=>F2.append (l:=l) E F⟩ ?_ B M
     .simp only[Blk.dim,cD,u,D,eD]
     .have:(l.length+A.length) / es0=sl+n:=by rw[u,D,<-eD,iL _ H]
      rw[<-this];exact r.1
   |none=>
    have hsl:o=Y->sl=0:=λv=>(Q.no v).2.1
    have W: ∀(q:Nat),1<=es->sl=0:=by
     intro _ v;simp only[Base.cellsOf,iC]at u;rcases iJ sl with h|h
     .exact h
     .have:=iN h v;omega
    cases m with
    |lst s2 l'=>
     simp only at h;obtain⟨w1,w2⟩:=h5 _ _ rfl;subst w1;have hz:=W 0 (qU _);subst hz;obtain⟨r,M⟩:=aw h;refine wM hR (yA.refl _) rfl rfl (Le.refl c) (zX.refl d c) (qU _) Q U C P t (i c _ t (wP _ _)) ⟨?_,rfl,λbs ms E F=> ?_⟩ (by rw[w2];exact r) B M
     .simp only[Blk.dim,cD,w2,iC]
     .cases E;exact F
    |cells A=>
     simp only at h;obtain⟨r,M⟩:=aw h;rw[bB,bB]at r;have H:=fB r.1.2;have hz:=W 0 H;subst hz;simp only[More.cellsOf]at t;have D:A.length=n*es:=by rw[t.length];exact P
     refine wM (blk:= .cells es Zb A) hR (yA.refl _) rfl rfl (Le.refl c) (zX.refl d c) H Q U C P t (i c _ t r.2) ⟨?_,rfl,λbs ms E F=>by cases E;exact F⟩ ?_ B M
     .simp only[Blk.dim,D,cB]
     .have:A.length / es=0+n:=by rw[D,iL _ H,cB]
      rw[<-this];exact r.1.1
theorem am6 {l:List (El s)}{bytes n:Nat}{all:List Value}(F:VRel c (.tgt s l) a)(J:all.length=n*s.w)(I:1<=n)(i:all.all one=Za)(m:ip (l.length+n) bytes=Za):
  ∃p t g,a= .slice p l.length t/\F2 (VRel c) (ib s l) g/\qM s.w bytes c.Z p l.length t n all=O (.slice (O ⟨c.Z.n,0,Y⟩) (l.length+n) (l.length+n),c.Z.add ⟨g++all,Za,s.w⟩):=by
 have f:(l.length+n)*bytes<=140737488355328/\l.length+n<=9223372036854775807:=by
  unfold ip at m;rw[bB]at m;have v:=of_decide_eq_true m.1;have A:=fB m.2;refine⟨v, ?_⟩;have:(l.length+n)*1<=(l.length+n)*bytes:=iU _ A;omega
 cases F with
 |tgtn E=>
  simp only[iC,cB]at f⊢;rcases E with rfl|⟨b,o,rfl⟩
  .refine⟨Y,0,[],rfl, .nil, ?_⟩;unfold qM;rw[Zh,zE (by rw[cB];exact⟨f.1,f.2,i⟩)];simp
  .refine⟨_,0,[],rfl, .nil, ?_⟩;unfold qM;rw[Zh,zE (by rw[cB];exact⟨f.1,f.2,i⟩)];simp
 |tgt K H C B q=>
  rename_i b p u;by_cases r:l=[]
  .subst r;simp only[iC,cB]at f⊢;refine⟨_,0,[],rfl, .nil, ?_⟩;unfold qM;rw[Zh,zE (by rw[cB];exact⟨f.1,f.2,i⟩)];simp
  .have D:l.length≠0:=λh=>r (List.eq_nil_of_length_eq_zero h)
   refine⟨_,_,_,rfl,q, ?_⟩;unfold qM;rw[Zh,zE ⟨f.1,f.2,i⟩];simp only[D,if_false,H,C,if_true]
   have:uK u p (l.length*s.w)=O ((u.cells.drop p).take (l.length*s.w)):=by
    unfold uK;rw[zE B]
   rw[this]
theorem QC {c1:Ctx}{bytes n:Nat}{l i:List (El s)}{H:Operand}{all:List Value}(t:Rel c1)(E:c1.Z=c.Z)(m:Le c c1)(f:zX d c c1)
  (Q:VRel c1 (.tgt s l) (ea.ev H)) (u: ∀a r A,ea.ev H= .slice a r A->op.run ea c.Z=qM s.w bytes c.Z a r A n all) (D:all.length=n*s.w) (M:F2 (VRel c1) (ib s i) all) (P:all.all one=Za) (F:n=i.length) (L:1<=n)
  (h:VJ c1.S bytes s Y l i k=O y):cc T op ea c.Z (ng c d k y):=by
 unfold VJ at h;obtain⟨C,K⟩:=aw h;rw[<-F]at C;obtain⟨p,A,b,I,B,J⟩:=am6 Q D L P C;have o:F2 (VRel c1) (ib s (l++i)) (b++all):=by rw[Cc];exact B.append M
 have g:=ae4 t (blk:= .arr s Zb (l++i)) (x:=⟨b++all,Za,s.w⟩) (d:=(s.w,(l++i).length*s.w)) rfl (qU s) rfl rfl o;refine ck (v:= .slice (O ⟨c.Z.n,0,Y⟩) (l.length+n) (l.length+n)) (Z':=c.Z.add ⟨b++all,Za,s.w⟩) ?_ ?_
 .rw[u _ _ _ I,<-E,J]
 .rw[<-E];refine⟨_,_,rfl,m.trans (g.le t),g.rel t,f.trans (g.calm t (λq h=>by cases h)) m, ?_,K⟩;refine C6 (yb:=⟨b++all,Za,s.w⟩) (dm:=(s.w,(l++i).length*s.w)) rfl (by simp[F]) (bD _) (zE rfl) ?_;show(l.length+n)*s.w<=(b++all).length;rw[cD,<-B.length,jh,D,eD];exact bD _
theorem aB4 (J:Rel c)(V:ba c e ea){es bytes:Nat}{l:List (El s)}{F:Operand}{E:Option More}(X:ev e F= .tgt s l)(h:YE c.S es bytes s l E k=O y)
  (W: ∀m,E=O m->∃n b,(∀a r P,ea.ev F= .slice a r P->op.run ea c.Z=qM es bytes c.Z a r P n b)/\b.length=n*es/\F2 (VRel c) m.cellsOf b/\(∀s l,m= .lst s l->es=s.w/\n=l.length)):cc T op ea c.Z (ng c d k y):=by
 have A:=cd V F;rw[X]at A;unfold YE at h;cases E with
 |none=>cases h
 |some m=>
  obtain⟨n,b,q,v,t,U⟩:=W m rfl;cases m with
  |lst s' l'=>
   simp only at h;obtain⟨M,B,C⟩:=ah h;obtain⟨Q,k3⟩:=pM B;cases Q;subst k3;obtain⟨g,D⟩:=aw C;rw[bB]at g;have H:=aD g.1;have I:=fB g.2;subst H;obtain⟨_,u⟩:=U _ _ rfl;exact QC J rfl (Le.refl c) (zX.refl d c) A q v t (oE t (wP _ _)) u (by rw[u];exact I) D
  |cells i=>
   simp only at h;obtain⟨M,B,C⟩:=ah h;obtain⟨g,D⟩:=aw C;rw[bB]at g;have H:=aD g.1;have I:=fB g.2;subst H;have f:=Je c.S i;have p:Rel ⟨c.μ,KJ c.S i,c.Z,c.fb⟩:=f.rel J;obtain⟨u,K⟩:=M1 p rfl B;have o:F2 (VRel ⟨c.μ,KJ c.S i,c.Z,c.fb⟩) i b:=VRel.frames f.le t
   have L:n=M.length:=by
    have:=t.length;simp only[More.cellsOf]at this;rw[u,v]at this;exact(fD (qU _) this).symm
   exact QC (c1:=⟨c.μ,KJ c.S i,c.Z,c.fb⟩) p rfl f.le (f.calm d) (A.frame f.le) q v (K _ o) (oE (K _ o) (wP _ _)) L (by rw[L];exact I) D
theorem WT (r:Rel c){v:VV}{S1:ak}{l:List (El s)}(h:QB c.S v=O (S1, .arr s l))(o:VRel c v a):yA c.S S1/\VRel ⟨c.μ,S1,c.Z,c.fb⟩ (.lst s l) a:=by
 unfold QB at h;split at h
 .simp only[Option.some.injEq,Prod.mk.injEq,Base.arr.injEq]at h;obtain⟨i,rfl,b⟩:=h;have b:=eq_of_heq b;subst i;subst b;exact⟨yA.refl _,o⟩
 .rename_i q;split at h
  .rename_i p z u m;simp only[Option.some.injEq,Prod.mk.injEq,Base.arr.injEq]at h;obtain⟨i,rfl,b⟩:=h;have b:=eq_of_heq b;subst i;subst b;have f:yA c.S (oW c.S q (ae c.S q).freeze):=yA.put;refine⟨f, ?_⟩;have g:=f.rel r;have t:q<c.S.length:=qu (by rw[m];simp[Blk.dim]);have n:ae (oW c.S q (ae c.S q).freeze) q= .arr p Za u:=by rw[ac4 t,m];rfl
   refine PO g (og g p) (v:= .full q) ?_ (o.frame f.le);show cond (ae (oW c.S q (ae c.S q).freeze) q).frozen _ _=_;rw[n];simp only[Blk.frozen,zC,Iu,n,BZ,rf]
  .cases h
 .cases h
theorem aG4 (g:Rel c)(i:ba c e ea)(l:ev e x= .nils)(h:k (.int .i64 0) c.S=O y):cc T (.capN x) ea c.Z (ng c d k y):=by
 have b:=cd i x;rw[l]at b;have f:ea.ev x= .slice Y 0 0:=by generalize ea.ev x=q at b;cases b;rfl
 refine ck (v:= .int .i64 0) (Z':=c.Z) ?_ (ng.same g (.int _ _) h);simp only[AOp.run,f]
theorem al4 (P:Rel c)(U:ba c e ea){E K:Operand}(h:UJ c.S (ev e x) (ev e E) (ev e K) k=O y):cc T (.sliceX x E K) ea c.Z (ng c d k y):=by
 have B:=cd U x;have I:=cd U E;have J:=cd U K;unfold UJ at h;split at h
 .rename_i kh f km zm eh em;rw[eh]at I;rw[em]at J;have q1:ea.ev E= .int kh f:=I.int_inv;have q2:ea.ev K= .int km zm:=J.int_inv;obtain⟨M,g⟩:=aw h;clear h;have M:=of_decide_eq_true M;subst M;have h:=g;clear g
  have run: ∀(p:Option Addr) (n C:Nat) (r:Value),ea.ev x= .slice p n C->0<=f->f<=C->(match p with
    |none=>O (Value.slice Y 0 0,c.Z)
    |some ⟨b,o,Y⟩=>O (.slice (O ⟨b,o,O 0⟩) f.toNat f.toNat,c.Z)
    |_=>Y)=O (r,c.Z)->(AOp.sliceX x E K).run ea c.Z=O (r,c.Z):=by
   intro p n C r hp W g hr;have b1:tj C 0 (O (.int km f))=O f.toNat:=zE ⟨W,g⟩;have b2:tj f.toNat 0 (O (.int kh f))=O f.toNat:=zE ⟨W,by omega⟩;simp only[AOp.run,hp,q1,q2,b1,b2,if_true];exact hr
  split at h
  .rename_i hx;rw[hx]at B;obtain⟨D,g⟩:=aw h;clear h;have h:=g;clear g;have D:=of_decide_eq_true D;subst D;have e1:ea.ev x= .slice Y 0 0:=by generalize ea.ev x=q at B;cases B;rfl
   exact ck (run _ _ _ (.slice Y 0 0) e1 (by simp) (by simp) rfl) (ng.same P .nils h)
  .split at h
   .rename_i S1 s l H;obtain⟨D,g⟩:=aw h;clear h;have h:=g;clear g;obtain⟨c1,c2,c3⟩:=zi D;obtain⟨t,L⟩:=WT P H B;have Q:=t.rel P;have u: ∀v:Value,VRel ⟨c.μ,S1,c.Z,c.fb⟩ (.tgt s (l.take f.toNat)) v->ng c d k y v c.Z:=λv B=>⟨_,⟨c.μ,S1,c.Z,c.fb⟩,rfl,t.le,Q,t.calm d,B,h⟩
    cases i:ea.ev x with
    |slice p n C=>
     rw[i]at L;cases L with
     |lstn hq=>
      have z0:f=0:=by simp at c3;omega
      subst z0;cases p with
      |none=>exact ck (run _ _ _ (.slice Y 0 0) i (by simp) (by simp) rfl) (u _ (.tgtn (.inl rfl)))
      |some A=>
       obtain⟨b,o,sp⟩:=A;have:sp=Y:=hq _ rfl;subst this;exact ck (run _ _ _ (.slice (O ⟨b,o,O 0⟩) 0 0) i (by simp) (by simp) rfl) (u _ (.tgtn (.inr ⟨_,_,rfl⟩)))
     |lst hn hy V g h2 h3 hf=>
      rename_i b o yb;refine ck (run _ _ _ (.slice (O ⟨b,o,O 0⟩) f.toNat f.toNat) i c2 (by omega) rfl) (u _ ?_);have m:(l.take f.toNat).length=f.toNat:=by rw[dB];omega
      have F:f.toNat*s.w<=n*s.w:=gB _ (by omega)
      have:=VRel.tgt (c:=⟨c.μ,S1,c.Z,c.fb⟩) (l:=l.take f.toNat) hn hy V (p:=o) (by rw[m];omega) (by
       rw[m,oG];have X:=hf.take (f.toNat*s.w);rw[iI,iD F]at X
       exact X)
      rw[m]at this;exact this
    |_=>rw[i]at L;cases L
   .cases h
 .cases h
theorem Xn (p:Rel c)(r:ba c e ea){es bytes:Nat}{s:Operand}(C: ∀q,CR (ev e s)=O q->q∈d)(h:O4 c.S es bytes (ev e s) (ev e x) k=O y)(g:TD c.S es bytes (ev e s) (ev e x) k=O y->cc T (.append es bytes s x) ea c.Z (ng c d k y)):cc T (.append es bytes s x) ea c.Z (ng c d k y):=by
 unfold O4 at h;split at h
 .rename_i D l o;refine aB4 p r o h λm i=> ?_
  obtain⟨n,f,t,u,v,w,A⟩:=Fa p i (cd r x);have b:=u n (bD _);rw[dD (by omega)]at b;refine⟨n,f,λa B E o=> ?_,v,w,A⟩;simp only[AOp.run,o,t,b]
 .exact g h
theorem ae7 (i:Rel c)(l:ba c e ea){es bytes:Nat}{s:Operand}(v: ∀q,CR (ev e s)=O q->q∈d)(h:TD c.S es bytes (ev e s) (ev e x) k=O y):cc T (.append es bytes s x) ea c.Z (ng c d k y):=by
 refine O0 i l v h λm g=> ?_
 obtain⟨n,f,o,p,r,t,u⟩:=Fa i g (cd l x);have b:=p n (bD _);rw[dD (by omega)]at b;refine⟨n,f,λa A B w=> ?_,r,t,u⟩;simp only[AOp.run,w,o,b]
theorem Xo (H:Rel c)(g:ba c e ea){es bytes:Nat}{z:List Value}{s:Operand}(I: ∀q,CR (ev e s)=O q->q∈d)(h:O5 c.S es bytes z (ev e s) (ev e x) k=O y):cc T (.appendZ es bytes z s x) ea c.Z (ng c d k y):=by
 have u:=cd g x;unfold O5 at h;split at h
 .rename_i M l J;rw[J]at u;obtain⟨f,h⟩:=aw h;unfold pR at f;rw[bB,bB]at f;have B:=of_decide_eq_true f.1;have C:=of_decide_eq_true f.2.1;have D:=of_decide_eq_true f.2.2;refine O0 H g I h λm b=> ?_
  unfold W7 at b;split at b
  .rename_i i K;cases p:aB es i.w with
   |false=>rw[p]at b;cases b
   |true=>
    rw[p]at b;simp only[zC,Option.some.injEq]at b;subst b;have g:=aD p;subst g;have v:=Fi (c:=c) K;have t:z.length=i.w:=by rw[<-v.length,er]
    refine⟨l.toNat,eo z l.toNat,λa L U r=> ?_,by rw[B9,t], ?_,λQ P E=> ?_⟩
    .simp only[AOp.run,r,u.int_inv];rw[zE ⟨B,C,D⟩]
    .show F2 (VRel c) (ib i (gD l.toNat (yy i))) (eo z l.toNat);rw[vV];generalize l.toNat=n;induction n with
     |zero=>exact .nil
     |succ n A=>
      simp only[eo,iF,iH]at A⊢;exact v.append A
    .injection E with F o
     subst F;have o:=eq_of_heq o;rw[<-o,List.length_replicate];exact⟨rfl,rfl⟩
  .cases b
 .cases h
theorem al7 {S:ak}{q:Nat}:oW S q (ae S q)=S:=by
 induction S generalizing q with
 |nil=>rfl
 |cons a r b=>
  cases q with
  |zero=>rfl
  |succ q=>simp only[oW,ae,b]
theorem aA2 {b:Nat}{x:Ab.Blk}(h:Z.m b=O x):Z.set b (O x)=Z:=by
 have:(λi=>if i=b then O x else Z.m i)=Z.m:=by
  funext i
  by_cases f:i=b
  .rw[zE f,f,h]
  .rw[zF f]
 show Hp.mk _ _=_;rw[this]
theorem ar3 {es n m b o p:Nat}{all:List Value}{x0:Ab.Blk}(t:ea.ev x= .slice (O ⟨b,o,Y⟩) n p)(q:JH (ea.ev z)=O m)(r:c.Z.slice es (ea.ev z) (min m n)=O all)(l:c.Z.m b=O x0)
  (f:x0.own=Za) (g:o+all.length<=x0.cells.length) (h:all.all one=Za):(AOp.copy es x z).run ea c.Z=O (.int .i64 (min m n:Nat),c.Z.set b (O ⟨oI x0.cells o all,Za,x0.es⟩)):=by
 simp only[AOp.run,t,q,r];by_cases i:all=[]
 .rw[zE i];subst i;have:(⟨oI x0.cells o [],Za,x0.es⟩:Ab.Blk)=x0:=by cases x0;simp only[oI]at*;simp[f]
  rw[this,aA2 l]
 .rw[zF i,l];simp only[Jv f g h]
theorem RG (h:Rel c){es q o n m:Nat}{dm:Nat×Nat}{all:List Value}(f:(ae c.S q).dim=O dm)(D:dm.1=es)(P:(ae c.S q).frozen=Zb)(hs:KH c q o n dm (ea.ev x))
  (K:JH (ea.ev z)=O m) (L:c.Z.slice es (ea.ev z) (min m n)=O all) (M:all.length=min m n*es) (W:all.all one=Za) (X:q∈d) (B:blk.dim=O dm) (C:blk.frozen=Zb) (l:dm.2=0->blk=ae c.S q)
  (p: ∀cs,F2 (VRel c) (ae c.S q).vals cs->F2 (VRel c) blk.vals (oI cs (o*es) all)) (E:k (.int .i64 (min m n:Nat)) (oW c.S q blk)=O y):cc T (.copy es x z) ea c.Z (ng c d k y):=by
 subst D;rcases hs with⟨A,t,H,Q,g⟩|⟨b,cp,w,A,t,H,Q,g,e6⟩
 .subst t;subst H;have:all=[]:=by simpa using M
  subst this;refine ck (v:= .int .i64 (min m 0:Nat)) (Z':=c.Z) ?_ (ng.same h (.int _ _) ?_)
  .simp only[AOp.run,A,K,L];simp
  .rw[l g,al7]at E;exact E
 .obtain⟨y0,cs,r,u,U,V,I,J⟩:=h.block f t;rw[g]at u;injection u with u
  subst u;have hl:=J.length;rw[Gg f]at hl
  have hle:o*dm.1+min m n*dm.1<=dm.2:=by
   have:(o+min m n)*dm.1<=(o+n)*dm.1:=gB _ (by omega);rw[eD]at this;omega
  have i:o*dm.1+all.length<=w.cells.length:=by rw[I,cD,M];omega
  have F:Writes c q b blk ⟨oI w.cells (o*dm.1) all,Za,w.es⟩:=⟨P,t,B.trans f.symm,C,w,oI cs (o*dm.1) all,r,dm,g,f,U,rfl,Fh _ _ _,by show oI _ _ _=_;rw[I,IG _ _ _ _ (by omega)],p cs J⟩;exact ck (ar3 A K L g (V P) i W) ⟨_,_,rfl,F.le h,F.rel h,F.calm h X, .int _ _,E⟩
theorem MI {B:IntKind}: ∀{cs r:List VV} {m ml:Zd} {j:Nat} {as g:List Value},Ly B m j cs=O r->F2 (VRel c) cs as->F2 (VRel c) (ml.map (VV.int B)) g->ml=(m.drop j).take cs.length->
  F2 (VRel c) r (g++as.drop g.length)
 |[],r,m,ml,j,as,g,h,t,o,f=>by
  simp only[Ly]at h;injection h with h;subst h
  cases t;simp at f;subst f;cases o;exact .nil
 |v::cs,r,m,ml,j,as,g,h,t,o,f=>by
  cases v<;>simp only[Ly]at h<;>try(cases h;done)
  rename_i H n;cases l:Zc (H=B)with
  |false=>rw[l]at h;cases h
  |true=>
   rw[l,zC]at h;have l:=of_decide_eq_true l;subst l;obtain⟨I,C,p⟩:=ah h;injection p with p
   subst p;cases t with
   |cons u i=>
    rename_i a as;have E:=u.int_inv;subst E;by_cases D:j<m.length
    .have q:m.drop j=m[j]::m.drop (j+1):=List.drop_eq_getElem_cons D;rw[q]at f;simp only[iR,List.take_succ_cons]at f;subst f;cases o with
     |cons w A=>
      rename_i b g;have F:=w.int_inv;subst F;have:=MI C i A rfl;rw[iQ,List.getElem?_eq_getElem D];exact .cons (.int _ _) this
    .have q:m.drop j=[]:=iP (by omega);rw[q]at f;simp only[List.take_nil]at f;subst f;cases o;have:=MI (ml:=[]) C i .nil (by rw[iP (by omega)];simp);rw[iQ,List.getElem?_eq_none (by omega)];exact .cons (.int _ _) this
theorem R9 {g:IntKind}{m:Zd}: ∀{cs r:List VV} {j:Nat},Ly g m j cs=O r->r.length=cs.length
 |[],r,j,h=>by injection h with h;subst h;rfl
 |v::cs,r,j,h=>by
  cases v<;>simp only[Ly]at h<;>try(cases h;done)
  rename_i l n;cases f:Zc (l=g)with
  |false=>rw[f]at h;cases h
  |true=>
   rw[f,zC]at h;obtain⟨o,i,b⟩:=ah h;injection b with b
   subst b;simp[R9 i]
theorem VU {b:IntKind}{m:Zd}:ib (.int b) m=m.map (VV.int b):=by
 induction m with
 |nil=>rfl
 |cons a m f=>rw[jc,f];rfl
theorem Mg {α:Type}{l m:List α}{o n:Nat}(h:o+n<=l.length):E3 l o n m=l.take o++(m.take (min m.length n)++l.drop (o+min m.length n)):=by
 unfold E3;rw[Nat.min_comm n m.length]
 congr 2
 by_cases b:n<=m.length
 .rw[Nat.min_eq_right b]
 .rw[iD (by omega),dD (by omega),dD (by omega)]
theorem aq2 {α:Type}{l m:List α}{o n:Nat}(h:o+n<=l.length):(E3 l o n m).length=l.length:=by
 rw[Mg h];simp only[cD,dB,iB];omega
theorem Vw (Q:Rel c){es q o n:Nat}{l A:List (El s)}{mc:List VV}{m:Nat}{g:List Value}(v:ae c.S q= .arr s Zb l)(I:KH c q o n (s.w,l.length*s.w) (ea.ev x))(V:es=s.w)
  (K:JH (ea.ev z)=O m) (L: ∀i,i<=m->c.Z.slice es (ea.ev z) i=O (g.take (i*es))) (M:g.length=m*es) (P:F2 (VRel c) (ib s A) g) (H:m=A.length) (U:q∈d)
  (E:k (.int .i64 (min A.length n:Nat)) (oW c.S q (.arr s Zb (E3 l o n A)))=O y):cc T (.copy es x z) ea c.Z (ng c d k y):=by
 subst V;have u:(ae c.S q).dim=O (s.w,l.length*s.w):=by rw[v];rfl
 have p:o+n<=l.length:=by
  rcases I with⟨_,e2,D,_,_⟩|⟨b,X,yb,_,_,D,_⟩
  .omega
  .exact iT D (qU s)
 have B:=L (min m n) (iK _ _)
 have t:(g.take (min m n*s.w)).length=min m n*s.w:=by
  rw[dB,M,iD];exact gB _ (iK _ _)
 have r:=P.take (min m n*s.w);rw[<-oG]at r;rw[<-H]at E;refine RG Q u rfl (by rw[v];rfl) I K B t (oE r (wP _ _)) U ?_ rfl (λJ=> ?_) (λcs f=> ?_) E
 .simp only[Blk.dim,aq2 p]
 .have:l.length=0:=by
   rcases iJ l.length with h|h
   .exact h
   .have:=iN h (qU s);simp only at J;omega
  rw[v,Mg p];rw[List.length_eq_zero_iff]at this;subst this;have W:n=0:=by simp at p;omega
  subst W;simp
 .rw[v]at f;simp only[Blk.vals]at f⊢;have C:=f.length;rw[jh]at C;have F:o*s.w+min m n*s.w<=l.length*s.w:=by rw[<-eD];exact gB _ (by omega)
  rw[UI (by rw[t];omega),Mg p,Cc,Cc,oG,CW,t,<-H,eD];exact(f.take _).append (r.append (f.drop _))
theorem aG9 (K:Rel c)(he:ba c e ea){es:Nat}(hd: ∀q,CR (ev e x)=O q->q∈d)(h:ar2 c.S es (ev e x) (ev e z) k=O y):cc T (.copy es x z) ea c.Z (ng c d k y):=by
 have hx:=cd he x;have hz:=cd he z;unfold ar2 at h
 have go: ∀(q o n:Nat) (P:Nat×Nat),(ae c.S q).dim=O P->q∈d->KH c q o n P (ea.ev x)->
   (match ae c.S q,MF c.S es (ev e z)with
   | .arr s Zb l,O (.lst s' l')=>(sW (.list s') (.list s) l').bind λI=>gd (aB es s.w) (k (.int .i64 (min I.length n:Nat)) (oW c.S q (.arr s Zb (E3 l o n I))))
   | .arr s Zb l,O (.cells J)=>(PI .u64 J).bind λm=>(sW (.list (.int .u64)) (.list s) m).bind λI=>gd (aB es s.w) (k (.int .i64 (min I.length n:Nat)) (oW c.S q (.arr s Zb (E3 l o n I))))
   | .cells 1 Zb l,O (.lst (.int kd) m)=>gd (aB es 1&&iA (o+n) l.length) (match Ly kd m 0 ((l.drop o).take n)with
    |some c'=>k (.int .i64 (min m.length n:Nat)) (oW c.S q (.cells 1 Zb (l.take o++c'++l.drop (o+n))))
    |none=>Y)
   |_,_=>Y)=O y->cc T (.copy es x z) ea c.Z (ng c d k y):=by
  intro q o n P b M hs h;split at h
  .rename_i s l s' l' f V;obtain⟨m,i,r,t,u,v,X⟩:=Fa K V hz;obtain⟨I,F,H⟩:=ah h;obtain⟨ee,k3⟩:=pM F;cases ee;subst k3;obtain⟨k4,k5⟩:=aw H;rw[f]at b;injection b with b
   subst b;exact Vw (mc:=[]) K f hs (aD k4) r t u v (X _ _ rfl).2 M k5
  .rename_i s l J f V;obtain⟨m,i,r,t,u,v,X⟩:=Fa K V hz;obtain⟨ml,k0,F⟩:=ah h;obtain⟨I,F,H⟩:=ah F;obtain⟨ee,k3⟩:=pM F;cases ee;subst k3;obtain⟨k4,k5⟩:=aw H;rw[f]at b;injection b with b
   subst b;have g:=My k0;simp only[More.cellsOf]at v;rw[g,<-VU]at v;have C:=aD k4
   have D:m=I.length:=by
    have:=v.length;rw[jh,u,C]at this;exact(fD (qU _) this).symm
   exact Vw (mc:=[]) K f hs C r t u v D M k5
  .rename_i l kd ml f V;obtain⟨m,i,r,t,u,v,X⟩:=Fa K V hz;obtain⟨F,H⟩:=aw h;rw[bB]at F;have C:=aD F.1;have hle:=fB F.2;subst C;split at H
   .rename_i c' E;have D:=(X _ _ rfl).2;rw[f]at b;injection b with b
    subst b;have h2':=t (min m n) (iK _ _);have L:(i.take (min m n*1)).length=min m n*1:=by rw[dB,u,iD];omega
    simp only[More.cellsOf]at v;have Q:F2 (VRel c) (ib (.int kd) (ml.take (min m n))) (i.take (min m n*1)):=by rw[oG];exact v.take (min m n*1)
    have hc':=R9 E;have U:((l.drop o).take n).length=n:=by rw[dB,iB];omega
    rw[<-D]at H;refine RG K (by rw[f];rfl) rfl (by rw[f];rfl) hs r h2' L (oE Q (wP _ _)) M ?_ rfl (λh0=> ?_) (λJ g=> ?_) H
    .simp only[Blk.dim,cD,dB,iB,hc']
     congr 2
     omega
    .simp only at h0;have:l=[]:=List.length_eq_zero_iff.1 h0;subst this;rw[f];simp at hle;have p:n=0:=by omega
     subst p;simp[Ly]at E;subst E;simp
    .rw[f]at g;simp only[Blk.vals]at g⊢;have hcl:=g.length;rw[UI (by rw[L];omega),iG,iM];refine(g.take _).append ?_;have h6:=MI (ml:=ml.take (min m n)) E ((g.drop o).take n) (by rw[<-VU];exact Q) (by rw[U,iE,D,Nat.min_comm,<-iI,dD (l:=ml) (bD _)])
     have h7:J.drop (o+(i.take (min m n*1)).length)=((J.drop o).take n).drop (i.take (min m n*1)).length++J.drop (o+n):=by
      rw[L,iM,List.drop_take,List.drop_drop]
      conv=>lhs;rw[<-List.take_append_drop (n-min m n) (J.drop (o+min m n))]
      rw[List.drop_drop]
      congr 2
      omega
     rw[h7,<-iG];exact h6.append (g.drop _)
   .cases H
  .cases h
 generalize ev e x=xv at*;cases xv<;>try(cases h;done)
 case full q=>
  simp only at h;cases hx with
  |full hk _ A=>
   split at h
   .rename_i n p;cases f:ae c.S q with
    |dead=>simp only[lenOf,f]at p;cases p
    |arr s z' l=>
     simp only[lenOf,f]at p;injection p with p
     have b:(ae c.S q).dim=O (s.w,l.length*s.w):=by rw[f];rfl
     obtain⟨W,r,t⟩:=A _ b;have:W=n:=by rw[<-p];exact fD (qU s) r
     subst this;exact go q 0 W _ b (hd q rfl) t h
    |cells es' z' l=>
     simp only[lenOf,f]at p;injection p with p
     have b:(ae c.S q).dim=O (es',l.length):=by rw[f];rfl
     obtain⟨W,r,t⟩:=A _ b;have u:=(K.blk q _ b).1
     have:W=n:=by
      simp only at r u;rw[<-p,<-r,iL _ u]
     subst this;exact go q 0 W _ b (hd q rfl) t h
   .cases h
 case part q o n=>
  simp only at h;cases hx with
  |part hk _ A=>
   cases B:(ae c.S q).dim with
   |none=>
    have:ae c.S q= .dead:=by
     generalize ae c.S q=blk at B;cases blk<;>first|rfl|(cases B;done)
    rw[this]at h;cases h
   |some P=>exact go q o n P B (hd q rfl) (A P B) h
end
end
section
section
variable {β:Type} {T:Ab.mE} {c:Ctx} {e:dk} {ea:cm} {d:List Nat} {k:VV->ak->Option β} {y:β}
theorem VRel.it_inv {q:Nat}{l:Zd}(h:VRel c (.it q l) a): ∃s,nF s=l/\∀d,(ae c.S q).dim=O d->∃b,c.μ q=O b/\a= .iface b (.string s):=by
 cases h with
 |it _ _ g f=>exact⟨_,g,f⟩
end
end
section
open Bool renaming and_eq_true -> cB
open List renaming append_assoc -> aD, singleton_append -> bD, mem_cons_of_mem -> cD, getElem?_eq_none -> dD, length_take -> eD, take_of_length_le -> fB
open Nat renaming beq -> aB, eq_of_beq_eq_true -> bB, lt_or_ge -> dB
structure Still (c ct:Ctx):Prop where
 Z:ct.Z=c.Z
 nm: ∀b y,c.Z.m b=O y->¬c.mut b->¬ct.mut b
section
variable {c ct:Ctx}
theorem vz (h:Still c ct): ∀(s:Sh) (x:El s) (as:List Value),F2 (VRel c) (du s x) as->F2 (VRel ct) (du s x) as
 | .int k,n,as,f=>by
  cases f with
  |cons g i=>cases i;cases g;exact .cons (.int _ _) .nil
 | .bool,b,as,f=>by
  cases f with
  |cons g i=>cases i;cases g;exact .cons (.bool _) .nil
 | .str,l,as,f=>by
  cases f with
  |cons g i=>cases i;cases g;exact .cons (.str (by assumption)) .nil
 | .list s,l,as,f=>by
  cases f with
  |cons g i=>
   cases i;refine .cons ?_ .nil;cases g with
   |lstn E=>exact .lstn E
   |lst B r A u v w m=>
    refine .lst (h.nm _ _ r B) (by rw[h.Z];exact r) A u v w ?_;clear r A v w B;subst u;revert m;rename_i b p D y;generalize (y.cells.drop _).take _=as;clear y D p b;intro m;induction l generalizing as with
    |nil=>cases m;exact .nil
    |cons x l F=>
     rw[jc]at m⊢;obtain⟨t,C,rfl,o,q⟩:=F2.app_left m;exact(vz h s x t o).append (F _ q)
 | .pair a b,x,as,f=>by
  simp only[du]at f⊢;obtain⟨t,C,rfl,o,q⟩:=F2.app_left f;exact(vz h a x.1 t o).append (vz h b x.2 C q)
theorem Ns (h:Still c ct){l:List (El s)}: ∀{as:List Value},F2 (VRel c) (ib s l) as->F2 (VRel ct) (ib s l) as:=by
 induction l with
 |nil=>intro as b;cases b;exact .nil
 |cons x l i=>
  intro as b;rw[jc]at b⊢;obtain⟨m,n,rfl,f,g⟩:=F2.app_left b;exact(vz h s x m f).append (i g)
theorem CC.still (h:Still c ct){l:List (El s)}(r:CC c s l a):CC ct s l a:=by
 rcases r with f|⟨b,p,g,y,f,i,m,n,o,q⟩
 .exact .inl f
 .exact .inr ⟨b,p,g,y,f,by rw[h.Z];exact i,m,n,o,Ns h q⟩
structure Sub (st st':DSt):Prop where
 m: ∃t,st'.m=st.m++t
 lent: ∀k∈st.lent,k∈st'.lent
theorem Sub.refl (st:DSt):Sub st st:=⟨⟨[],by simp⟩,λ_ h=>h⟩
theorem Sub.trans {a b d:DSt}(h:Sub a b)(k:Sub b d):Sub a d:=by
 obtain⟨t,f⟩:=h.m;obtain⟨u,g⟩:=k.m;exact⟨⟨t++u,by rw[g,f,aD]⟩,λi l=>k.lent i (h.lent i l)⟩
def HM (N:Nat)(m:List (Option Src))(j:Nat)(x:Option Src):Prop:=(j<N/\x=O ⟨j,Y⟩)∨(N<=j/\nth m (j-N)=O x)
theorem Lw {α:Type}{l t:List α}{i:Nat}{x:α}(h:nth l i=O x):nth (l++t) i=O x:=by
 rw[A7]at h⊢
 have b:i<l.length:=by
  rcases dB i l.length with h1|h1
  .exact h1
  .rw[dD h1]at h;cases h
 rw[List.getElem?_append_left b];exact h
theorem HM.sub {b:DSt}(l:Sub st b){x:Option Src}(h:HM N st.m j x):HM N b.m j x:=by
 rcases h with h|⟨f,g⟩
 .exact .inl h
 .obtain⟨t,i⟩:=l.m;exact .inr ⟨f,by rw[i];exact Lw g⟩
theorem DX {f:DSt}{x:Option Src}(h:st.link N j x=O f):HM N f.m j x/\f.ls=st.ls/\f.lent=st.lent/\Sub st f:=by
 unfold DSt.link at h;cases g:Nat.blt j N with
 |true=>
  rw[g,zC]at h;split at h
  .rename_i k;cases b:aB k j with
   |false=>rw[b]at h;cases h
   |true=>
    rw[b]at h;injection h with h
    subst h;have:=bB b;subst this;exact⟨.inl ⟨Nat.le_of_ble_eq_true g,rfl⟩,rfl,rfl,Sub.refl _⟩
  .cases h
 |false=>
  rw[g,zD]at h
  have i:N<=j:=by
   rcases dB j N with h1|h1
   .rw[show Nat.blt j N=Za from Nat.ble_eq_true_of_le h1]at g;cases g
   .exact h1
  split at h
  .rename_i k l;split at h
   .rename_i n;cases b:aB k n with
    |false=>rw[b]at h;cases h
    |true=>
     rw[b]at h;injection h with h
     subst h;have:=bB b;subst this;exact⟨.inr ⟨i,l⟩,rfl,rfl,Sub.refl _⟩
   .cases h
  .cases h
  .rename_i l;cases b:aB (j-N) st.m.length with
   |false=>rw[b]at h;cases h
   |true=>
    rw[b]at h;injection h with h
    subst h;have:=bB b;refine⟨.inr ⟨i, ?_⟩,rfl,rfl,⟨⟨[x],rfl⟩,λ_ h=>h⟩⟩;rw[A7,this];simp
def Lk (c ct:Ctx)(x:Option Src)(f:Nat):Prop:=f<ct.S.length/\∀b,(ae ct.S f).dim=O b->match x with
 |none=>b.2=0/\ct.μ f=Y
 |some ⟨k,g⟩=> ∃d,(ae c.S k).dim=O d/\b.1=d.1/\ct.μ f=c.μ k/\(match g with
  |none=>b.2=d.2
  |some n=>b.2=min (n*d.1) d.2)
structure Tell (c ct:Ctx)(N:Nat)(f:Nat->Nat)(stf:DSt):Prop extends Still c ct where
 lk: ∀j x,HM N stf.m j x->Lk c ct x (f j)
 lent: ∀k,k∈stf.lent->(ae c.S k).dim≠Y->∀b,c.μ k=O b->¬ct.mut b
theorem KH.tell {p n:Nat}{d:Nat×Nat}{d2':Nat}(u:ct.Z=c.Z)(o:ct.μ p=c.μ k)(i:d2'=n*d.1)(h:KH c k 0 n d a):KH ct p 0 n (d.1,d2') a:=by
 rcases h with⟨g,_,f,l,m⟩|⟨b,q,y,g,f,l,m,r,t⟩
 .exact .inl ⟨g,rfl,f,o.trans l,by rw[i,f];simp⟩
 .exact .inr ⟨b,q,y,g,o.trans f,by rw[i,Nat.zero_add];exact Nat.le_refl _,m,by rw[u];exact r,t⟩
theorem af9 {f:Nat->Nat}(D:Rel c)(m:Tell c ct N f stf){v:VV}{l:List (El s)}(h:aa2 c.S s v=O l)(F:VRel c v a)(E: ∀k,Mw v=O k->k∈stf.lent):VRel ct (.lst s l) a:=by
 obtain⟨o,A⟩:=au5 D h F;refine(o.still m.toStill).rel λb p n t e r=> ?_
 rcases A b p n t e r with i|⟨k,i,B,C⟩
 .rcases o with⟨q,g,_⟩|⟨H,I,u,y,g,w,_⟩
  .rw[g]at e;injection e with _ _ e
   exact(r e.symm).elim
  .rw[g]at e;injection e with e _ _
   injection e with e
   injection e with e
   subst e;exact m.nm _ _ w i
 .exact m.lent k (E k i) B b C
theorem RV {st:DSt}{v:VV}:(∀k,Mw v=O k->k∈(st.lend v).lent)/\(st.lend v).m=st.m/\(st.lend v).ls=st.ls/\(∀k∈st.lent,k∈(st.lend v).lent):=by
 cases v<;>refine⟨λk h=> ?_,rfl,rfl,λk h=> ?_⟩<;>first|(cases h;done)|(injection h with h;subst h;exact List.mem_cons_self)|exact cD _ h|exact h
mutual
theorem aH0 {S:ak}{N:Nat}: ∀(sk:Sk) (v:VV) (st st1:DSt),Mm S N sk v st=O st1->Sub st st1
 | .undef,v,st,st1,h=>by
  simp only[Mm]at h;injection h with h;subst h;exact Sub.refl _
 | .leaf s,v,st,st1,h=>by
  simp only[Mm]at h;split at h
  .rename_i k k' n;cases hk:Zc (k'=k)with
   |false=>rw[hk]at h;cases h
   |true=>rw[hk]at h;injection h with h;subst h;exact⟨⟨[],by simp[DSt.push]⟩,λ_ h=>h⟩
  .injection h with h;subst h;exact⟨⟨[],by simp[DSt.push]⟩,λ_ h=>h⟩
  .injection h with h;subst h;exact⟨⟨[],by simp[DSt.push]⟩,λ_ h=>h⟩
  .rename_i s;obtain⟨l,h1,h2⟩:=ah h;injection h2 with h2;subst h2
   obtain⟨_,h4,_,h6⟩:= @RV st v;exact⟨⟨[],by simp[DSt.push,h4]⟩,h6⟩
  .cases h
 | .cint k n,v,st,st1,h=>by
  cases v<;>simp only[Mm]at h<;>try(cases h;done)
  rename_i k' n';cases hk:(Zc (k'=k)&&Zc (n'=n))with
  |false=>rw[hk]at h;cases h
  |true=>rw[hk]at h;injection h with h;subst h;exact Sub.refl _
 | .nilp,v,st,st1,h=>by
  cases v<;>simp only[Mm]at h<;>try(cases h;done)
  injection h with h;subst h;exact Sub.refl _
 | .nils,v,st,st1,h=>by
  cases v<;>simp only[Mm]at h<;>try(cases h;done)
  injection h with h;subst h;exact Sub.refl _
 | .nilf,v,st,st1,h=>by
  cases v<;>simp only[Mm]at h<;>try(cases h;done)
  injection h with h;subst h;exact Sub.refl _
 | .ptr j o,v,st,st1,h=>by
  cases v<;>simp only[Mm]at h<;>try(cases h;done)
  rename_i k o';cases hk:aB o o' with
  |false=>rw[hk]at h;cases h
  |true=>rw[hk,zC]at h;exact(DX h).2.2.2
 | .full j,v,st,st1,h=>by
  simp only[Mm]at h;split at h
  .exact(DX h).2.2.2
  .exact(DX h).2.2.2
  .exact(DX h).2.2.2
  .cases h
 | .pin s o,v,st,st1,h=>by
  cases v<;>simp only[Mm]at h<;>try(cases h;done)
  rename_i s' x o';cases hk:aB o o' with
  |false=>rw[hk]at h;cases h
  |true=>
   rw[hk]at h;obtain⟨y,h1,h2⟩:=ah h;injection h2 with h2;subst h2;exact⟨⟨[],by simp[DSt.push]⟩,λ_ h=>h⟩
 | .fn g a b,v,st,st1,h=>by
  cases v<;>simp only[Mm]at h<;>try(cases h;done)
  rename_i g' a' b';cases hk:aB g g' with
  |false=>rw[hk]at h;cases h
  |true=>
   rw[hk]at h;obtain⟨st2,h1,h2⟩:=ah h;exact(yn a a' st st2 h1).trans (yn b b' st2 st1 h2)
 | .agg l,v,st,st1,h=>by
  cases v<;>simp only[Mm]at h<;>try(cases h;done)
  exact yn l _ st st1 h
 | .tup l,v,st,st1,h=>by
  cases v<;>simp only[Mm]at h<;>try(cases h;done)
  exact yn l _ st st1 h
theorem yn {S:ak}{N:Nat}: ∀(l:List Sk) (vs:List VV) (st st1:DSt),Kj S N l vs st=O st1->Sub st st1
 |[],vs,st,st1,h=>by
  cases vs<;>simp only[Kj]at h<;>try(cases h;done)
  injection h with h;subst h;exact Sub.refl _
 |k::r,vs,st,st1,h=>by
  cases vs with
  |nil=>simp only[Kj]at h;cases h
  |cons v vs=>
   simp only[Kj]at h;obtain⟨st2,h1,h2⟩:=ah h;exact(aH0 k v st st2 h1).trans (yn r vs st2 st1 h2)
end
theorem ah0 {f:Nat->Nat}(o:Tell c ct N f stf)(w:HM N stf.m j (O ⟨k,Y⟩))(B:VRel c (.full k) a):VRel ct (.full (f j)) a:=by
 obtain⟨p,q⟩:=o.lk _ _ w;cases B with
 |full C A v=>
  refine .full p A λh g=> ?_
  obtain⟨d,r,i,t,b⟩:=q h g;obtain⟨n,l,u⟩:=v d r;simp only at b;refine⟨n,by rw[i,b];exact l, ?_⟩;have:=u.tell o.Z t (d2':=h.2) (by rw[b,l]);rw[<-i]at this;exact this
theorem ar4 {f:Nat->Nat}(o:Tell c ct N f stf){n:Nat}(v:HM N stf.m j (O ⟨k,O n⟩))(A:VRel c (.part k 0 n) a):VRel ct (.full (f j)) a:=by
 obtain⟨q,r⟩:=o.lk _ _ v;cases A with
 |part B w p=>
  refine .full q w λh g=> ?_
  obtain⟨d,i,l,t,b⟩:=r h g;simp only at b
  have u:n*d.1<=d.2:=by
   rcases p d i with⟨_,_,e,_,_⟩|⟨_,_,_,_,_,e,_⟩
   .rw[e];simp
   .rwa [Nat.zero_add]at e
  rw[Nat.min_eq_left u]at b;refine⟨n,by rw[l,b], ?_⟩;have:=(p d i).tell o.Z t (d2':=h.2) b;rw[<-l]at this;exact this
theorem aw2 {f:Nat->Nat}(o:Tell c ct N f stf)(p:HM N stf.m j Y):VRel ct (.full (f j)) (.slice Y 0 0):=by
 obtain⟨i,l⟩:=o.lk _ _ p;refine .full i rfl λh b=> ?_
 obtain⟨g,n⟩:=l h b;exact⟨0,by rw[g];simp, .inl ⟨rfl,rfl,rfl,n,g⟩⟩
mutual
theorem aH1 {N:Nat}{f:Nat->Nat}{stf:DSt}(hR:Rel c)(hT:Tell c ct N f stf): ∀(sk:Sk) (v:VV) (st st1:DSt) (a:Value),Mm c.S N sk v st=O st1->Sub st1 stf->VRel c v a->
  ∃new,st1.ls=st.ls++new/\∀rest,∃v',enc f sk (new++rest)=O (v',rest)/\VRel ct v' a
 | .undef,v,st,st1,a,h,hs,hv=>by
  simp only[Mm]at h;injection h with h;subst h
  exact⟨[],by simp,λrest=>⟨.undef,by simp[enc], .undef _⟩⟩
 | .leaf s,v,st,st1,a,h,hs,hv=>by
  simp only[Mm]at h;split at h
  .rename_i k k' n;cases hk:Zc (k'=k)with
   |false=>rw[hk]at h;cases h
   |true=>
    rw[hk]at h;injection h with h;subst h
    have:=of_decide_eq_true hk;subst this;refine⟨[⟨.int k',n⟩],rfl,λrest=>⟨.int k' n, ?_, ?_⟩⟩
    .simp only[bD,enc,rf,zG]
    .rw[hv.int_inv];exact .int _ _
  .rename_i b;injection h with h;subst h
   refine⟨[⟨.bool,b⟩],rfl,λrest=>⟨.bool b, ?_, ?_⟩⟩
   .simp only[bD,enc,rf,zG]
   .rw[hv.bool_inv];exact .bool _
  .rename_i l;injection h with h;subst h
   refine⟨[⟨.str,l⟩],rfl,λrest=>⟨.str l, ?_, ?_⟩⟩
   .simp only[bD,enc,rf,zG]
   .obtain⟨s,h1,h2⟩:=hv.str_inv;rw[h1];exact .str h2
  .rename_i s;obtain⟨l,h1,h2⟩:=ah h;injection h2 with h2;subst h2
   obtain⟨h3,h4,h5,h6⟩:= @RV st v;refine⟨[⟨.list s,l⟩],by simp[DSt.push,h5],λrest=>⟨.lst s l, ?_, ?_⟩⟩
   .simp only[bD,enc,rf,zG]
   .exact af9 hR hT h1 hv λk hk=>hs.lent k (h3 k hk)
  .cases h
 | .cint k n,v,st,st1,a,h,hs,hv=>by
  cases v<;>simp only[Mm]at h<;>try(cases h;done)
  rename_i k' n';cases hk:(Zc (k'=k)&&Zc (n'=n))with
  |false=>rw[hk]at h;cases h
  |true=>
   rw[hk]at h;injection h with h;subst h
   rw[cB]at hk;have e1:=of_decide_eq_true hk.1;have e2:=of_decide_eq_true hk.2;subst e1;subst e2;refine⟨[],by simp,λrest=>⟨.int k' n',by simp[enc], ?_⟩⟩;rw[hv.int_inv];exact .int _ _
 | .nilp,v,st,st1,a,h,hs,hv=>by
  cases v<;>simp only[Mm]at h<;>try(cases h;done)
  injection h with h;subst h
  cases hv;exact⟨[],by simp,λrest=>⟨.nilp,by simp[enc], .nilp⟩⟩
 | .nils,v,st,st1,a,h,hs,hv=>by
  cases v<;>simp only[Mm]at h<;>try(cases h;done)
  injection h with h;subst h
  cases hv;exact⟨[],by simp,λrest=>⟨.nils,by simp[enc], .nils⟩⟩
 | .nilf,v,st,st1,a,h,hs,hv=>by
  cases v<;>simp only[Mm]at h<;>try(cases h;done)
  injection h with h;subst h
  cases hv;exact⟨[],by simp,λrest=>⟨.nilf,by simp[enc], .nilf⟩⟩
 | .ptr j o,v,st,st1,a,h,hs,hv=>by
  cases v<;>simp only[Mm]at h<;>try(cases h;done)
  rename_i k o';cases hk:aB o o' with
  |false=>rw[hk]at h;cases h
  |true=>
   rw[hk,zC]at h;have:=bB hk;subst this;obtain⟨h1,h2,h3,h4⟩:=DX h;obtain⟨h5,h6⟩:=hT.lk _ _ (h1.sub hs);refine⟨[],by simp[h2],λrest=>⟨.ptr (f j) o,by simp[enc], ?_⟩⟩;cases hv with
   |ptr hk ho hd=>
    refine .ptr h5 ho λd' hd'=> ?_
    obtain⟨d,h7,_,h8,_⟩:=h6 d' hd';obtain⟨b,h9,h10⟩:=hd d h7;exact⟨b,h8.trans h9,h10⟩
 | .full j,v,st,st1,a,h,hs,hv=>by
  simp only[Mm]at h;split at h
  .obtain⟨h1,h2,h3,h4⟩:=DX h;exact⟨[],by simp[h2],λrest=>⟨.full (f j),by simp[enc],ah0 hT (h1.sub hs) hv⟩⟩
  .obtain⟨h1,h2,h3,h4⟩:=DX h;exact⟨[],by simp[h2],λrest=>⟨.full (f j),by simp[enc],ar4 hT (h1.sub hs) hv⟩⟩
  .obtain⟨h1,h2,h3,h4⟩:=DX h;cases hv;exact⟨[],by simp[h2],λrest=>⟨.full (f j),by simp[enc],aw2 hT (h1.sub hs)⟩⟩
  .cases h
 | .pin s o,v,st,st1,a,h,hs,hv=>by
  cases v<;>simp only[Mm]at h<;>try(cases h;done)
  rename_i s' x o';cases hk:aB o o' with
  |false=>rw[hk]at h;cases h
  |true=>
   rw[hk,zC]at h;have:=bB hk;subst this;obtain⟨y,h1,h2⟩:=ah h;obtain⟨ee,h3⟩:=pM h1;cases ee;subst h3;injection h2 with h2;subst h2
   refine⟨[⟨s,y⟩],rfl,λrest=>⟨.pin s y o, ?_, ?_⟩⟩
   .simp only[bD,enc,rf,zG]
   .cases hv with
    |pin hn hy hl hf=>exact .pin (hT.nm _ _ hy hn) (by rw[hT.Z];exact hy) hl (vz hT.toStill _ _ _ hf)
 | .fn g p q,v,st,st1,a,h,hs,hv=>by
  cases v<;>simp only[Mm]at h<;>try(cases h;done)
  rename_i g' p' q';cases hk:aB g g' with
  |false=>rw[hk]at h;cases h
  |true=>
   rw[hk,zC]at h;have:=bB hk;subst this;obtain⟨st2,h1,h2⟩:=ah h;cases hv with
   |fn f1 f2=>
    obtain⟨new1,e1,e2⟩:=Ay hR hT p p' st st2 _ h1 ((yn q q' st2 st1 h2).trans hs) f1;obtain⟨new2,e3,e4⟩:=Ay hR hT q q' st2 st1 _ h2 hs f2;refine⟨new1++new2,by rw[e3,e1,aD],λrest=> ?_⟩;obtain⟨v1,e5,e6⟩:=e2 (new2++rest);obtain⟨v2,e7,e8⟩:=e4 rest;exact⟨.fn g v1 v2,by simp only[enc,aD,e5,zG,e7], .fn e6 e8⟩
 | .agg l,v,st,st1,a,h,hs,hv=>by
  cases v<;>simp only[Mm]at h<;>try(cases h;done)
  cases hv with
  |agg f1=>
   obtain⟨new1,e1,e2⟩:=Ay hR hT l _ st st1 _ h hs f1;refine⟨new1,e1,λrest=> ?_⟩;obtain⟨v1,e5,e6⟩:=e2 rest;exact⟨.agg v1,by simp only[enc,e5,zG], .agg e6⟩
 | .tup l,v,st,st1,a,h,hs,hv=>by
  cases v<;>simp only[Mm]at h<;>try(cases h;done)
  cases hv with
  |tup f1=>
   obtain⟨new1,e1,e2⟩:=Ay hR hT l _ st st1 _ h hs f1;refine⟨new1,e1,λrest=> ?_⟩;obtain⟨v1,e5,e6⟩:=e2 rest;exact⟨.tup v1,by simp only[enc,e5,zG], .tup e6⟩
theorem Ay {N:Nat}{f:Nat->Nat}{stf:DSt}(hR:Rel c)(hT:Tell c ct N f stf): ∀(l:List Sk) (vs:List VV) (st st1:DSt) (as:List Value),Kj c.S N l vs st=O st1->Sub st1 stf->F2 (VRel c) vs as->
  ∃new,st1.ls=st.ls++new/\∀rest,∃vs',Ri f l (new++rest)=O (vs',rest)/\F2 (VRel ct) vs' as
 |[],vs,st,st1,as,h,hs,hf=>by
  cases vs<;>simp only[Kj]at h<;>try(cases h;done)
  injection h with h;subst h
  cases hf;exact⟨[],by simp,λrest=>⟨[],by simp[Ri], .nil⟩⟩
 |k::r,vs,st,st1,as,h,hs,hf=>by
  cases hf with
  |nil=>simp only[Kj]at h;cases h
  |cons f1 f2=>
   simp only[Kj]at h;obtain⟨st2,h1,h2⟩:=ah h;obtain⟨new1,e1,e2⟩:=aH1 hR hT k _ st st2 _ h1 ((yn r _ st2 st1 h2).trans hs) f1;obtain⟨new2,e3,e4⟩:=Ay hR hT r _ st2 st1 _ h2 hs f2;refine⟨new1++new2,by rw[e3,e1,aD],λrest=> ?_⟩;obtain⟨v1,e5,e6⟩:=e2 (new2++rest);obtain⟨v2,e7,e8⟩:=e4 rest;exact⟨v1::v2,by simp only[Ri,aD,e5,zG,e7], .cons e6 e8⟩
end
def zx (c ct:Ctx)(o:OSk)(x:Option Src)(blk:Blk):Prop:=
 (o= .dead/\blk= .dead)∨(blk.frozen=o.ro/\match x with
  |none=>o.ro=Zb/\∃s,blk= .arr s Zb []
  |some ⟨k,b⟩=>(o.ro=Zb->(ae c.S k).frozen=Zb)/\∃d,(ae c.S k).dim=O d/\(match b with
   |none=>blk.dim=O d
   |some n=>blk.dim=O (d.1,min (n*d.1) d.2))/\∀f,F2 (VRel c) (ae c.S k).vals f->F2 (VRel ct) blk.vals (f.take blk.vals.length))
theorem Lf {S:ak}{o:OSk}{x:Option Src}{g:DSt}(h:XD S N o x st=O g):Sub st g:=by
 unfold XD at h;split at h
 .injection h with h;subst h;exact Sub.refl _
 .split at h
  .rename_i q b l k _ i r t u;cases f:(aB q i&&(b|| !r))with
   |false=>rw[f]at h;cases h
   |true=>
    rw[f,zC]at h;have m:=yn _ _ _ _ h;cases b with
    |false=>exact m
    |true=>exact Sub.trans ⟨⟨[],by simp⟩,λ_ h=>cD _ h⟩ m
  .cases h
 .rename_i b s;cases b with
  |true=>cases h
  |false=>injection h with h;subst h;exact⟨⟨[],by simp[DSt.push]⟩,λ_ h=>h⟩
 .rename_i b s k p;cases f:(b|| !(ae S k).frozen)with
  |false=>rw[f]at h;cases h
  |true=>
   rw[f,zC]at h;obtain⟨l,m,n⟩:=ah h;injection n with n;subst n
   cases b with
   |false=>exact⟨⟨[],by simp[DSt.push]⟩,λ_ h=>h⟩
   |true=>exact⟨⟨[],by simp[DSt.push]⟩,λ_ h=>cD _ h⟩
 .cases h
theorem Vy {f:Nat->Nat}(J:Rel c)(W:Tell c ct N f stf){o:OSk}{x:Option Src}{p:DSt}(h:XD c.S N o x st=O p)(hs:Sub p stf):
  ∃m,p.ls=st.ls++m/\∀rest,∃blk,Rj f o (m++rest)=O (blk,rest)/\zx c ct o x blk:=by
 unfold XD at h;split at h
 .injection h with h;subst h
  exact⟨[],by simp,λrest=>⟨.dead,by simp[Rj], .inl ⟨rfl,rfl⟩⟩⟩
 .split at h
  .rename_i I ro l k _ Q fz q K;cases t:(aB I Q&&(ro|| !fz))with
   |false=>rw[t]at h;cases h
   |true=>
    rw[t,zC]at h;rw[cB]at t;have he:=bB t.1;subst he;have v:(ae c.S k).dim=O (I,q.length):=by rw[K];rfl
    obtain⟨h0,E⟩:=J.blk k _ v
    have L: ∃A,F2 (VRel c) q A:=by
     rcases E with⟨H,e2⟩|⟨b,y,A,rest,_,_,_,_,_,C⟩
     .have:q=[]:=List.length_eq_zero_iff.1 H;subst this;exact⟨[], .nil⟩
     .rw[K]at C;exact⟨A,C⟩
    obtain⟨A,L⟩:=L;obtain⟨m,H,e2⟩:=Ay J W l q _ p A h hs L;refine⟨m, ?_,λrest=> ?_⟩
    .rw[H];cases ro<;>rfl
    .obtain⟨vs,C,e4⟩:=e2 rest;refine⟨.cells I ro vs,by simp only[Rj,C,zG], .inr ⟨rfl,λi=> ?_,(I,q.length),v, ?_,λM u=> ?_⟩⟩
     .simp only[OSk.ro]at i;subst i;rw[K];have:=t.2;simp only[Bool.false_or,Bool.not_eq_true']at this;exact this
     .simp only[Blk.dim];rw[e4.length,L.length]
     .rw[K]at u;obtain⟨F,B,P⟩:=Ay J W l q _ p M h hs u
      have:F=m:=by
       rw[H]at B;exact(List.append_cancel_left B).symm
      subst this;obtain⟨vs',g,D⟩:=P rest;rw[C]at g;injection g with g
      injection g with g _
      subst g;rw[fB (by rw[<-D.length];exact Nat.le_refl _)];exact D
  .cases h
 .rename_i ro s;cases ro with
  |true=>cases h
  |false=>
   injection h with h;subst h
   refine⟨[⟨.list s,[]⟩],rfl,λrest=>⟨.arr s Zb [], ?_, .inr ⟨rfl,rfl,s,rfl⟩⟩⟩;simp only[bD,Rj,rf,zG]
 .rename_i ro s k r;cases t:(ro|| !(ae c.S k).frozen)with
  |false=>rw[t]at h;cases h
  |true=>
   rw[t,zC]at h;obtain⟨l,h1,U⟩:=ah h;injection U with U;subst U
   obtain⟨d,h3,h4,h5,h6⟩:=wO (og J s) h1;refine⟨[⟨.list s,Pp r l⟩],by cases ro<;>rfl,λrest=>⟨.arr s ro (Pp r l), ?_, .inr ⟨rfl,λi=> ?_,d,h3, ?_,λq X=> ?_⟩⟩⟩
   .simp only[bD,Rj,rf,zG]
   .simp only[OSk.ro]at i;subst i;simpa using t
   .cases r with
    |none=>
     simp only[Blk.dim,Pp];rw[<-h5,<-h4]
    |some n=>
     simp only[Blk.dim,Pp,eD];rw[h5,h4,<-Nat.mul_min_mul_right]
   .have V:=Ns W.toStill (h6 q X);have h8:q.length=l.length*s.w:=by rw[<-V.length,jh]
    cases r with
    |none=>
     simp only[Blk.vals,Pp];rw[fB (by rw[jh];omega)];exact V
    |some n=>
     simp only[Blk.vals,Pp];have h9:((ib s (l.take n)).length)=min (n*s.w) q.length:=by rw[oG,eD,jh,h8]
     rw[h9,oG,<-List.take_take,List.take_length];exact V.take (n*s.w)
 .cases h
theorem Ki {S:ak}{N:Nat}: ∀{os:List OSk} {js:List Nat} {st b:DSt},Mn S N os js st=O b->Sub st b
 |[],[],st,b,h=>by injection h with h;subst h;exact Sub.refl _
 |[],_::_,st,b,h=>by cases h
 |_::_,[],st,b,h=>by cases h
 |o::os,j::js,st,b,h=>by
  simp only[Mn]at h;obtain⟨i,f,g⟩:=ah h;exact(Lf f).trans (Ki g)
theorem tR {S:ak}{N:Nat}: ∀{os:List OSk} {i:Nat} {st b:DSt},ym S N os i st=O b->Sub st b
 |[],i,st,b,h=>by
  simp only[ym]at h;cases f:aB i st.m.length with
  |false=>rw[f]at h;cases h
  |true=>rw[f]at h;injection h with h;subst h;exact Sub.refl _
 |o::os,i,st,b,h=>by
  simp only[ym]at h;split at h
  .obtain⟨n,g,l⟩:=ah h;exact(Lf g).trans (tR l)
  .cases h
inductive DQ (c ct:Ctx):List OSk->List Nat->List Blk->Prop where
 |nil:DQ c ct [] [] []
 |cons {o:OSk} {j:Nat} {b:Blk} {os:List OSk} {js:List Nat} {bs:List Blk}:zx c ct o (O ⟨j,Y⟩) b->DQ c ct os js bs->DQ c ct (o::os) (j::js) (b::bs)
inductive Al (c ct:Ctx):List OSk->List (Option Src)->List Blk->Prop where
 |nil:Al c ct [] [] []
 |cons {o:OSk} {x:Option Src} {b:Blk} {os:List OSk} {xs:List (Option Src)} {bs:List Blk}:zx c ct o x b->Al c ct os xs bs->Al c ct (o::os) (x::xs) (b::bs)
theorem Pq {N:Nat}{f:Nat->Nat}{stf:DSt}(p:Rel c)(q:Tell c ct N f stf): ∀{os:List OSk} {js:List Nat} {st b:DSt},Mn c.S N os js st=O b->Sub b stf->
  ∃l,b.ls=st.ls++l/\∀rest,∃bs,G2 f os (l++rest)=O (bs,rest)/\DQ c ct os js bs
 |[],[],st,b,h,i=>by injection h with h;subst h;exact⟨[],by simp,λrest=>⟨[],by simp[G2], .nil⟩⟩
 |[],_::_,st,b,h,i=>by cases h
 |_::_,[],st,b,h,i=>by cases h
 |o::os,j::js,st,b,h,i=>by
  simp only[Mn]at h;obtain⟨E,D,n⟩:=ah h;obtain⟨m,r,t⟩:=Vy p q D ((Ki n).trans i);obtain⟨g,u,v⟩:=Pq p q n i;refine⟨m++g,by rw[u,r,aD],λrest=> ?_⟩;obtain⟨F,w,A⟩:=t (g++rest);obtain⟨H,B,C⟩:=v rest;exact⟨F::H,by simp only[G2,aD,w,zG,B], .cons A C⟩
theorem Nn {N:Nat}{f:Nat->Nat}{stf:DSt}(w:Rel c)(A:Tell c ct N f stf): ∀{os:List OSk} {i:Nat} {st b:DSt},ym c.S N os i st=O b->Sub b stf->
  ∃n,b.ls=st.ls++n/\i+os.length=b.m.length/\∀rest,∃bs,G2 f os (n++rest)=O (bs,rest)/\Al c ct os (b.m.drop i) bs
 |[],i,st,b,h,u=>by
  simp only[ym]at h;cases t:aB i st.m.length with
  |false=>rw[t]at h;cases h
  |true=>
   rw[t]at h;injection h with h;subst h
   have:=bB t;subst this;exact⟨[],by simp,by simp,λrest=>⟨[],by simp[G2],by rw[List.drop_length];exact .nil⟩⟩
 |o::os,i,st,b,h,u=>by
  simp only[ym]at h;split at h
  .rename_i x L;obtain⟨M,v,r⟩:=ah h;obtain⟨p,C,D⟩:=Vy w A v ((tR r).trans u);obtain⟨l,E,q,F⟩:=Nn w A r u;refine⟨p++l,by rw[E,C,aD],by rw[<-q];simp;omega,λrest=> ?_⟩;obtain⟨U,H,I⟩:=D (l++rest);obtain⟨V,J,K⟩:=F rest;refine⟨U::V,by simp only[G2,aD,H,zG,J], ?_⟩;obtain⟨W,P⟩:=(Lf v).m;obtain⟨X,Q⟩:=(tR r).m
   have g:b.m[i]?=O x:=by
    rw[<-A7,Q,P];exact Lw (Lw L)
   have B:i<b.m.length:=by
    rcases dB i b.m.length with h|h
    .exact h
    .rw[dD h]at g;cases g
   rw[List.drop_eq_getElem_cons B];rw[List.getElem?_eq_getElem B]at g;injection g with g
   rw[g];exact .cons I K
  .cases h
theorem Mp {f:Nat->Nat}{fx:List Nat}{i:zd}{g:List VV}{as:List Value}(o:Rel c)(p:Tell c ct N f st)(h:qO c.S N fx i g=O st)(P:F2 (VRel c) g as):
  ∃vs l bs,tT f i st.ls=O (vs,l,bs)/\F2 (VRel ct) vs as/\DQ c ct i.fix fx l/\Al c ct i.free st.m bs:=by
 unfold qO at h;obtain⟨U,M,h⟩:=ah h;obtain⟨V,v,h⟩:=ah h;obtain⟨b,n,h⟩:=ah h
 have:b=st:=by
  cases w:(JX (fx++sB b.m)&&Gm (fx++nN i.free b.m) b.lent)with
  |false=>rw[w]at h;cases h
  |true=>rw[w]at h;injection h
 subst this;obtain⟨Q,B,E⟩:=Ay o p _ _ _ _ _ M ((Ki v).trans (tR n)) P;obtain⟨A,C,F⟩:=Pq o p v (tR n);obtain⟨r,D,W,H⟩:=Nn o p n (Sub.refl _);obtain⟨vs,I,J⟩:=E (A++r);obtain⟨l,K,L⟩:=F r;obtain⟨bs,t,u⟩:=H [];refine⟨vs,l,bs, ?_,J,L,by rw[List.drop_zero]at u;exact u⟩;have q:b.ls=Q++(A++r):=by rw[D,C,B];simp
 rw[List.append_nil]at t;simp only[tT,q,I,zG,K,t]
theorem tS {S:ak}{fx:List Nat}{i:zd}{f:List VV}(h:qO S N fx i f=O st):JX (fx++sB st.m)=Za/\Gm (fx++nN i.free st.m) st.lent=Za:=by
 unfold qO at h;obtain⟨l,o,h⟩:=ah h;obtain⟨n,p,h⟩:=ah h;obtain⟨b,q,h⟩:=ah h;cases g:(JX (fx++sB b.m)&&Gm (fx++nN i.free b.m) b.lent)with
 |false=>rw[g]at h;cases h
 |true=>
  rw[g]at h;injection h with h
  subst h
  rwa [cB]at g
theorem Jn : ∀{i:List Sh} {ls:List Leaf} {t:HE i},UZ i ls=O t->WU i t=ls
 |[],ls,t,h=>by
  cases ls with
  |nil=>rfl
  |cons=>simp[UZ]at h
 |[s],ls,t,h=>by
  cases ls with
  |nil=>simp[UZ]at h
  |cons x ls=>
   cases ls with
   |nil=>
    simp only[UZ]at h;obtain⟨f,g⟩:=pM h;obtain⟨n,v⟩:=x;simp only at f;subst f;subst g;rfl
   |cons=>simp[UZ]at h
 |s::n::r,ls,t,h=>by
  cases ls with
  |nil=>simp[UZ]at h
  |cons x ls=>
   simp only[UZ]at h;obtain⟨a,g,h⟩:=ah h;obtain⟨b,l,h⟩:=ah h;injection h with h
   subst h;obtain⟨f,m⟩:=pM g;obtain⟨o,v⟩:=x;simp only at f;subst f;subst m;simp only[WU];rw[Jn l]
end
end
end Go.V
