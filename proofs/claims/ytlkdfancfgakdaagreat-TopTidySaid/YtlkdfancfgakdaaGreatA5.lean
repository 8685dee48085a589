/- A part of the proof. No condition. -/
import Derived.Test.YtlkdfancfgakdaaGreatA4
set_option linter.unusedVariables false
set_option linter.unusedSimpArgs false
set_option linter.unusedSectionVars false
namespace Go.V
open Go.Ab
open Option renaming some->O,none->Y
open Bool renaming true->Za,false->Zb
open Decidable renaming decide->Zc
variable {x z:Operand}{a:Value}{N i j k:Nat}{st stf:DSt}{s:Sh}{fx l mov:List Nat}{c ct:Ctx}{kd:IntKind}{sk:yk}{vals vs:List VV}{as:List Value}{op:AOp}{o:OSk}{S S':ah}{bs fs:List Blk}{b blk:Blk}{Z:Hp}{m:List (Option Src)}
section
open Bool renaming and_eq_true -> bB
open List renaming length_append -> cD, length_take -> dB, take_of_length_le -> dD, replicate -> iA, length_drop -> iC, length_nil -> iD, drop_zero -> iF, replicate_succ -> iG, append_assoc -> iH, flatten_cons -> iI, take_take -> iJ, drop_eq_nil_of_le -> iQ, getD_eq_getElem?_getD -> iR, length_cons -> iS, take_append_of_le_length -> iT
open Nat renaming beq -> aB, eq_of_beq_eq_true -> aD, le_refl -> bD, zero_add -> cB, add_mul -> eD, le_of_ble_eq_true -> fB, eq_of_mul_eq_mul_right -> fD, mul_le_mul_right -> gD, ble -> iB, min_eq_left -> iE, eq_zero_or_pos -> iK, min_le_left -> iL, mul_div_cancel -> iM, mul_one -> iN, mul_pos -> iO, zero_mul -> iP, le_of_mul_le_mul_right -> iU, mul_le_mul_left -> iV
open Option renaming getD_some -> iW
section
variable {β:Type} {T:lj} {c:Ctx} {e:cu} {ea:cj} {k:VV->ah->Option β} {y:β} {d:List Nat}
theorem DW : ∀{z:List Value} {s:Sh},Lz z=O s->F2 (VRel c) (dx s (xH s)) z
 |[],s,h=>by simp[Lz]at h
 |v::r,s,h=>by
  unfold Lz at h;split at h
  .rename_i f;injection f with g n
   subst g;subst n;injection h with h;subst h
   exact .cons (.int _ _) .nil
  .rename_i f;injection f with g n
   subst g;subst n;injection h with h;subst h
   exact .cons (.bool _) .nil
  .rename_i f;injection f with g n
   subst g;subst n;obtain⟨t,q,p⟩:=ag h;injection p with p;subst p
   exact .cons (.int _ _) (DW q)
  .rename_i f;injection f with g n
   subst g;subst n;obtain⟨t,q,p⟩:=ag h;injection p with p;subst p
   exact .cons (.bool _) (DW q)
  .cases h
theorem vt {s:Sh}{x:El s}: ∀n,gm s (iA n x)=(iA n (dx s x)).flatten
 |0=>rfl
 |n+1=>by rw[iG,jd,vt n,iG,iI]
theorem Qj (z:List Value)(m n:Nat):eg z (m+n)=eg z m++eg z n:=by
 simp only[eg];rw[<-List.replicate_append_replicate,List.flatten_append]
theorem Qk (z:List Value)(n:Nat):(eg z n).length=n*z.length:=by
 simp[eg,List.length_flatten,List.map_replicate]
theorem az5 (g:Rel c)(H:ar c e ea){es bytes:Nat}{z:List Value}{l m:Operand}(h:ah3 c.S es bytes z (ev e l) (ev e m) k=O y):bn T (.makeSlice es bytes z l m) ea c.Z (jb c d k y):=by
 have J:=bl H l;have K:=bl H m;unfold ah3 at h;split at h
 .rename_i X a k2 b s P Q V;rw[P]at J;rw[Q]at K;obtain⟨I,U⟩:=ap h;simp only[bB]at I;obtain⟨⟨⟨⟨t,u⟩,A⟩,D⟩,E⟩:=I;have t:=aD t;have u:=of_decide_eq_true u;have A:=of_decide_eq_true A;have D:=of_decide_eq_true D;have E:=fB E;have L:=DW (c:=c) V;have C:z.length=s.w:=by rw[<-L.length,ei]
  have F:b<=bytes*b:=by
   have:(1:Int)*b<=bytes*b:=Int.mul_le_mul_of_nonneg_right (by omega) (by omega);omega
  refine br (v:= .slice (O ⟨c.Z.n,0,Y⟩) a.toNat b.toNat) (Z':=c.Z.add ⟨eg z b.toNat,Za,es⟩) ?_ ?_
  .simp only[AOp.run,J.int_inv,K.int_inv];rw[zE ⟨u,A,by omega,by omega⟩]
  .have p:eg z b.toNat=eg z a.toNat++eg z (b.toNat-a.toNat):=by rw[<-Qj];congr 1;omega
   have r:F2 (VRel c) (gm s (iA a.toNat (xH s))) (eg z a.toNat):=by
    rw[vt];clear p;generalize a.toNat=n;induction n with
    |zero=>exact .nil
    |succ n M=>
     simp only[eg,iG,iI]at M⊢;exact L.append M
   have B:Moves c Y (O c.Z.n) (.arr s Zb (iA a.toNat (xH s))) (c.Z.add ⟨eg z b.toNat,Za,es⟩):=by
    refine⟨(λb h _ F=>by injection h with h;subst h;exact Nat.lt_irrefl _ (g.fbl _ F)),(λ_ h=>by cases h),λq x f=> ?_,Nat.le_succ _,λi x f _=> ?_,(s.w,(iA a.toNat (xH s)).length*s.w),rfl,rR s, .inr ⟨c.Z.n,⟨eg z b.toNat,Za,es⟩,eg z a.toNat,eg z (b.toNat-a.toNat),rfl,zE rfl,t,λ_=>rfl,p,r, .inl λw W=> ?_⟩⟩
    .simp only[Hp.add]at f⊢;split at f
     .omega
     .have:=g.ok q x f;omega
    .have:=g.ok i x f;simp only[Hp.add];rw[Zh];exact f
    .have:=g.ok _ _ W;omega
   refine jb.new (kill:=Y) g B (λ_ h=>by cases h) (zN (dm:=(s.w,(iA a.toNat (xH s)).length*s.w)) (n:=a.toNat) (m:=b.toNat) (yb:=⟨eg z b.toNat,Za,es⟩) rfl (by simp) (by omega) (zE rfl) ?_) U;rw[Qk,C];exact bD _
 .cases h
def More.cellsOf :More->List VV
 | .cells l=>l
 | .lst s l=>gm s l
theorem N1 {x:Ab.Blk}{o n m:Nat}(h:o+n<=x.cells.length)(f:m<=n):uG x o m=O (((x.cells.drop o).take n).take m):=by
 unfold uG;rw[Zg,iJ,iE f]
theorem Hz (F:Rel c){q o n es:Nat}{dm:Nat×Nat}(f:(ad c.S q).dim=O dm)(H:dm.1=es)(I:IN c q o n dm a):
  ∃g,FK a=O n/\(∀m,m<=n->c.Z.slice es a m=O (g.take (m*es)))/\g.length=n*es/\F2 (VRel c) (((ad c.S q).vals.drop (o*es)).take (n*es)) g:=by
 subst H;rcases I with⟨rfl,rfl,rfl,A,Q⟩|⟨b,K,x,rfl,A,D,L,B,M⟩
 .refine⟨[],rfl,λm h=> ?_,by simp,by simp;exact .nil⟩;have:m=0:=by omega
  subst this;simp[Hp.slice]
 .obtain⟨U,t,C,r,_,_,v,w⟩:=F.block f A;rw[B]at r;injection r with r
  subst r;have P:=w.length
  have J:(ad c.S q).vals.length=dm.2:=by
   generalize ad c.S q=blk at f;cases blk with
   |dead=>cases f
   |cells es z l=>injection f with f;subst f;rfl
   |arr s z l=>injection f with f;subst f;exact ji
  rw[eD]at D;have E:((t.drop (o*dm.1)).take (n*dm.1)).length=n*dm.1:=by rw[dB,iC];omega
  refine⟨(t.drop (o*dm.1)).take (n*dm.1),rfl,λm h=> ?_,E,(w.drop _).take _⟩;have u:m*dm.1<=n*dm.1:=gD _ h;by_cases p:m=0
  .subst p;simp[Hp.slice]
  simp only[Hp.slice,B,zF p];rw[N1 (n:=n*dm.1) (by rw[v,cD];omega) u,v,List.drop_append_of_le_length (by omega),iT (l₁:=t.drop (o*dm.1)) (by rw[iC];omega)]
theorem yv (P:Rel c){es:Nat}{v:VV}{m:More}(h:kq c.S es v=O m)(M:VRel c v a):
  ∃n r,FK a=O n/\(∀i,i<=n->c.Z.slice es a i=O (r.take (i*es)))/\r.length=n*es/\F2 (VRel c) m.cellsOf r/\(∀s l,m= .lst s l->es=s.w/\n=l.length):=by
 cases v<;>simp only[kq]at h<;>try(cases h;done)
 case nils=>
  injection h with h;subst h
  cases M;refine⟨0,[],rfl,λi I=> ?_,by simp, .nil,λs l h=>by cases h⟩;have:i=0:=by omega
  subst this;simp[Hp.slice]
 case str l=>
  cases g:aB es 1 with
  |false=>rw[g]at h;cases h
  |true=>
   rw[g]at h;have g:=aD g;subst g;injection h with h;subst h
   obtain⟨s,rfl,rfl⟩:=M.str_inv;refine⟨s.size,s.data.toList.map λb=> .int .u8 b.toNat,rfl,λi I=> ?_,by simp, ?_,λJ l h=> ?_⟩
   .simp only[Hp.slice,if_true,iN];simp[ByteArray.data_extract,Array.toList_extract,List.extract_eq_take_drop,List.map_take]
   .simp only[More.cellsOf,au,gm];generalize s.data.toList=l;induction l with
    |nil=>exact .nil
    |cons b l X=>exact .cons (.int _ _) X
   .injection h with u t
    subst u;cases t;exact⟨rfl,(vV s).symm⟩
 case lst s l=>
  cases g:aB es s.w with
  |false=>rw[g]at h;cases h
  |true=>
   rw[g]at h;have g:=aD g;subst g;injection h with h;subst h
   refine⟨l.length, ?_⟩;rcases M.listAt with⟨qq,rfl,rfl,U⟩|⟨b,p,cp,x,rfl,u,t,E,D,C⟩
   .refine⟨[],rfl,λi I=> ?_,by simp, .nil,λJ l h=>by injection h with u t;subst u;cases t;exact⟨rfl,rfl⟩⟩;have:i=0:=by simp at I;exact I
    subst this;cases qq with
    |none=>simp[Hp.slice]
    |some z=>
     have:=U z rfl;obtain⟨zb,zo,zs⟩:=z;simp only at this;subst this;simp[Hp.slice]
   .refine⟨(x.cells.drop p).take (l.length*s.w),rfl,λi I=> ?_,by rw[<-C.length,ji],C,λJ Q h=>by injection h with u t;subst u;cases t;exact⟨rfl,rfl⟩⟩;by_cases L:i=0
    .subst L;simp[Hp.slice]
    simp only[Hp.slice,u,zF L];exact N1 D (gD _ I)
 case full q=>
  cases M with
  |full W _ K=>
   cases A:ad c.S q with
   |dead=>rw[A]at h;cases h
   |arr s z l=>
    rw[A]at h;cases g:aB es s.w with
    |false=>simp only[g]at h;cases h
    |true=>
     simp only[g]at h;have g:=aD g;subst g;injection h with h;subst h
     have f:(ad c.S q).dim=O (s.w,l.length*s.w):=by rw[A];rfl
     obtain⟨n,u,t⟩:=K _ f;have:n=l.length:=fD (rR s) u;subst this;obtain⟨r,E,D,C,B⟩:=Hz P f rfl t;rw[A,iP,iF,dD (by simp[Blk.vals,ji])]at B;exact⟨_,r,E,D,C,B,λJ Q h=>by injection h with u t;subst u;cases t;exact⟨rfl,rfl⟩⟩
   |cells F z l=>
    rw[A]at h;cases g:(aB es F&&iB 1 es)with
    |false=>simp only[g]at h;cases h
    |true=>
     simp only[g]at h;rw[bB]at g;have H:=aD g.1;subst H;injection h with h;subst h
     have f:(ad c.S q).dim=O (es,l.length):=by rw[A];rfl
     obtain⟨n,u,t⟩:=K _ f;obtain⟨r,E,D,C,B⟩:=Hz P f rfl t;simp only at u;rw[A,iP,iF,u,dD (by exact bD _)]at B;exact⟨_,r,E,D,C,B,λJ Q h=>by cases h⟩
 case part q o n=>
  cases M with
  |part W _ K=>
   cases A:ad c.S q with
   |dead=>rw[A]at h;cases h
   |arr s z l=>
    rw[A]at h;cases g:aB es s.w with
    |false=>simp only[g]at h;cases h
    |true=>
     simp only[g]at h;have g:=aD g;subst g;injection h with h;subst h
     have f:(ad c.S q).dim=O (s.w,l.length*s.w):=by rw[A];rfl
     have t:=K _ f;obtain⟨r,E,D,C,B⟩:=Hz P f rfl t;rw[A]at B;simp only[Blk.vals]at B;rw[<-BT,<-ql]at B
     have V:n=((l.drop o).take n).length:=by
      have:=B.length;rw[ji,C]at this;exact(fD (rR s) this).symm
     exact⟨_,r,E,D,C,B,λJ Q h=>by injection h with u t;subst u;cases t;exact⟨rfl,V⟩⟩
   |cells F z l=>
    rw[A]at h;cases g:(aB es F&&iB 1 es)with
    |false=>simp only[g]at h;cases h
    |true=>
     simp only[g]at h;rw[bB]at g;have H:=aD g.1;subst H;injection h with h;subst h
     have f:(ad c.S q).dim=O (es,l.length):=by rw[A];rfl
     have t:=K _ f;obtain⟨r,E,D,C,B⟩:=Hz P f rfl t;rw[A]at B;exact⟨_,r,E,D,C,B,λJ Q h=>by cases h⟩
def Base.cellsOf :Base->List VV
 | .none=>[]
 | .cells _ l=>l
 | .arr s l=>gm s l
structure BaseAt (c:Ctx)(es sl:Nat)(base:Base)(kill:Option Nat)(a:Value):Prop where
 no:kill=Y->a= .slice Y 0 0/\sl=0/\base= .none
 yes: ∀q,kill=O q->∃dm,(ad c.S q).dim=O dm/\dm.1=es/\(ad c.S q).frozen=Zb/\IN c q 0 sl dm a/\base.cellsOf=(ad c.S q).vals.take (sl*es)
 es: ∀e l,base= .cells e l->e=es/\1<=es
theorem EG {dm:Nat×Nat}(h:blk.dim=O dm):blk.vals.length=dm.2:=by
 cases blk with
 |dead=>cases h
 |cells f z l=>injection h with h;subst h;rfl
 |arr s z l=>injection h with h;subst h;exact ji
theorem XM {es:Nat}{v:VV}{u:Base}{kill:Option Nat}(U:Rel c)(h:C9 c.S es v=O (u,kill))(F:VRel c v a): ∃K,BaseAt c es K u kill a/\u.cellsOf.length=K*es/\(∀s l,u= .arr s l->es=s.w/\K=l.length):=by
 cases v<;>try(cases h;done)
 case nils=>
  simp only[C9]at h;injection h with h
  injection h with p g
  subst p;subst g;cases F;exact⟨0,⟨λ_=>⟨rfl,rfl,rfl⟩,(λq h=>by cases h),(λe l h=>by cases h)⟩,by simp[Base.cellsOf],λs l h=>by cases h⟩
 case full q=>
  simp only[C9]at h;cases F with
  |full P _ E=>
   cases t:ad c.S q with
   |dead=>rw[t]at h;cases h
   |arr s z l=>
    rw[t]at h;cases z with
    |true=>cases h
    |false=>
     simp only at h;cases r:aB es s.w with
     |false=>rw[r]at h;cases h
     |true=>
      rw[r]at h;have r:=aD r;subst r;injection h with h
      injection h with p g
      subst p;subst g;have f:(ad c.S q).dim=O (s.w,l.length*s.w):=by rw[t];rfl
      obtain⟨n,p,g⟩:=E _ f;have:n=l.length:=fD (rR s) p;subst this;refine⟨l.length,⟨(λh=>by cases h),λI h=> ?_,(λe l h=>by cases h)⟩,ji,λJ H h=>by injection h with p g;subst p;cases g;exact⟨rfl,rfl⟩⟩;injection h with h
      subst h;refine⟨_,f,rfl,by rw[t];rfl,g, ?_⟩;rw[t];exact(dD (by rw[show(Base.arr s l).cellsOf=gm s l from rfl,ji];exact bD _)).symm
   |cells B z l=>
    rw[t]at h;cases z with
    |true=>cases h
    |false=>
     simp only at h;cases r:(aB es B&&iB 1 es)with
     |false=>rw[r]at h;cases h
     |true=>
      rw[r]at h;rw[bB]at r;have D:=aD r.1;subst D;injection h with h
      injection h with p g
      subst p;subst g;have f:(ad c.S q).dim=O (es,l.length):=by rw[t];rfl
      obtain⟨n,p,g⟩:=E _ f;simp only at p;refine⟨n,⟨(λh=>by cases h),λI h=> ?_,λe l h=>by injection h with p g;exact⟨p.symm,fB r.2⟩⟩,p.symm,λJ H h=>by cases h⟩;injection h with h
      subst h;refine⟨_,f,rfl,by rw[t];rfl,g, ?_⟩;rw[t,p];exact(dD (bD _)).symm
 case part q L n=>
  cases L with
  |succ L=>cases h
  |zero=>
   simp only[C9]at h;cases F with
   |part P _ E=>
    cases t:ad c.S q with
    |dead=>rw[t]at h;cases h
    |arr s z l=>
     rw[t]at h;cases z with
     |true=>cases h
     |false=>
      simp only at h;cases r:aB es s.w with
      |false=>rw[r]at h;cases h
      |true=>
       rw[r]at h;have r:=aD r;subst r;injection h with h
       injection h with p g
       subst p;subst g;have f:(ad c.S q).dim=O (s.w,l.length*s.w):=by rw[t];rfl
       have g:=E _ f
       have Q:n<=l.length:=by
        rcases g with⟨_,_,C,_,_⟩|⟨b,M,x,_,_,C,_⟩
        .omega
        .rw[cB]at C;exact iU C (rR s)
       have A:(l.take n).length=n:=by rw[dB];omega
       refine⟨n,⟨(λh=>by cases h),λI h=> ?_,(λe l h=>by cases h)⟩,by simp only[Base.cellsOf];rw[ji,A],λJ H h=>by injection h with p g;subst p;cases g;exact⟨rfl,A.symm⟩⟩;injection h with h
       subst h;refine⟨_,f,rfl,by rw[t];rfl,g, ?_⟩;rw[t];exact ql
    |cells B z l=>
     rw[t]at h;cases z with
     |true=>cases h
     |false=>
      simp only at h;cases r:(aB es B&&iB 1 es)with
      |false=>rw[r]at h;cases h
      |true=>
       rw[r]at h;rw[bB]at r;have D:=aD r.1;subst D;injection h with h
       injection h with p g
       subst p;subst g;have f:(ad c.S q).dim=O (es,l.length):=by rw[t];rfl
       have g:=E _ f
       have Q:n*es<=l.length:=by
        rcases g with⟨_,_,C,_,_⟩|⟨b,M,x,_,_,C,_⟩
        .subst C;simp
        .rwa [cB]at C
       refine⟨n,⟨(λh=>by cases h),λI h=> ?_,λe l h=>by injection h with p g;exact⟨p.symm,fB r.2⟩⟩,by simp only[Base.cellsOf];rw[dB];omega,λJ H h=>by cases h⟩;injection h with h
       subst h;exact⟨_,f,rfl,by rw[t];rfl,g,by rw[t];rfl⟩
theorem ao2 {vs cs:List Value}(h:cs.length=vs.length):qr cs 0 vs=vs:=by
 induction vs generalizing cs with
 |nil=>simp only[qr];exact List.length_eq_zero_iff.1 h
 |cons v vs n=>
  cases cs with
  |nil=>simp at h
  |cons a cs=>
   have g:cs.length=vs.length:=by simpa using h
   show qr ((a::cs).set 0 v) (0+1) vs=_;have f:=BZ vs [v] cs 0;simp only[iS,iD,List.singleton_append,cB]at f;rw[List.set_cons_zero,f,n g]
theorem RK {vs cs:List Value}{p:Nat}(h:p+vs.length<=cs.length):qr cs p vs=cs.take p++(vs++cs.drop (p+vs.length)):=by
 have:=Oh (vs:=vs) (cs:=cs) (p:=p) (o:=0) (w:=vs.length) (by omega) h;rw[Nat.add_zero,ao2 (by rw[dB,iC];omega)]at this;exact this
theorem QL {x z:Ab.Blk}{b i:Nat}(h:((Z.set b Y).add x).m i=O z):i=Z.n∨(i≠b/\Z.m i=O z):=by
 by_cases p:i=Z.n
 .exact .inl p
 .refine .inr ?_;have q:((Z.set b Y).add x).m i=(Z.set b Y).m i:=zF p;rw[q]at h;by_cases f:i=b
  .have g:(Z.set b Y).m i=Y:=zE f;rw[g]at h;cases h
  .have g:(Z.set b Y).m i=Z.m i:=zF f;exact⟨f,g▸h⟩
theorem Sx {x:Ab.Blk}{b i:Nat}(f:i≠Z.n)(h:i≠b):((Z.set b Y).add x).m i=Z.m i:=by
 have g:((Z.set b Y).add x).m i=(Z.set b Y).m i:=zF f;have p:(Z.set b Y).m i=Z.m i:=zF h;exact g.trans p
structure Grown (c:Ctx)(base more:List VV)(es n:Nat)(blk:Blk):Prop where
 dim:blk.dim=O (es,n*es)
 fz:blk.frozen=Zb
 rel: ∀bs ms,F2 (VRel c) base bs->F2 (VRel c) more ms->F2 (VRel c) blk.vals (bs++ms)
theorem vS {c1:Ctx}{es bytes g n:Nat}{F:Base}{kill:Option Nat}{more:List VV}{s:Operand}{all:List Value}(B:Rel c1)(hS:uS c.S c1.S)(hμ:c1.μ=c.μ)(J:c1.Z=c.Z)(hle:Le c c1)(hcalm:yV d c c1)
  (C:1<=es) (hb:BaseAt c es g F kill (ea.ev s)) (M: ∀q,kill=O q->(ad c1.S q).frozen=Zb)
  (E: ∀a sl' sc,ea.ev s= .slice a sl' sc->op.run ea c.Z=rJ es bytes c.Z a sl' sc n all) (h3:all.length=n*es) (h4:F2 (VRel c1) more all) (h5:all.all one=Za) (D:Grown c1 F.cellsOf more es (g+n) blk)
  (hf:lz (g+n) bytes=Za) (hd: ∀q,kill=O q->q∈d) (hk:k (.full c1.S.length) (rN c1.S kill++[blk])=O y):bn T op ea c.Z (jb c d k y):=by
 have t:(g+n)*bytes<=140737488355328/\g+n<=9223372036854775807:=by
  unfold lz at hf;rw[bB]at hf;have g1:=of_decide_eq_true hf.1;have g2:=fB hf.2;refine⟨g1, ?_⟩;have:(g+n)*1<=(g+n)*bytes:=iV _ g2;omega
 have hnew:all=[]->n=0:=by
  intro h;subst h;simp only[iD]at h3;rcases iK n with h|h
  .exact h
  .have:=iO h C;omega
 have A: ∀{v:Value} {Z':Hp} {b1:Option Nat},Moves c1 kill b1 blk Z'->VRel ⟨vd c1 b1,rN c1.S kill++[blk],Z',c1.fb⟩ (.full c1.S.length) v->jb c d k y v Z':=by
  intro v Z' b1 hm hv;exact⟨_,_,rfl,hle.trans (hm.le B),hm.rel B,hcalm.trans (hm.calm B hd) hle,hv,hk⟩
 cases kill with
 |none=>
  obtain⟨Q,e2,e3⟩:=hb.no rfl;subst e2;subst e3;by_cases X:n=0
  .subst X;have:all=[]:=by simpa using h3
   subst this;have u:Moves c1 Y Y blk c1.Z:=⟨(λ_ h=>by cases h),(λ_ h=>by cases h),B.ok,bD _,λ_ _ h _=>h,_,D.dim,C, .inl ⟨rfl,by simp⟩⟩;refine br (v:= .slice Y 0 0) (Z':=c.Z) ?_ ?_
   .rw[E _ _ _ Q];unfold rJ;rw[zE (by simp)];simp
   .rw[<-J];refine A u (.full (by simp[rN]) rfl λd' p=> ?_);simp only[pZ,if_true]at p;rw[D.dim]at p;injection p with p
    subst p;exact⟨0,by simp, .inl ⟨rfl,rfl,rfl,by simp[vd],by simp⟩⟩
  .have u:=OZ B (blk:=blk) (x:=⟨all,Za,es⟩) D.dim C rfl rfl (by have:=D.rel [] all .nil h4;simpa using this);refine br (v:= .slice (O ⟨c.Z.n,0,Y⟩) n n) (Z':=c.Z.add ⟨all,Za,es⟩) ?_ ?_
   .rw[E _ _ _ Q];unfold rJ;rw[Zh,zE ⟨t.1,t.2,h5⟩];simp
   .rw[<-J];refine A u (zN (yb:=⟨all,Za,es⟩) D.dim (by simp) (bD _) (zE rfl) ?_);show n*es<=all.length;omega
 |some q=>
  obtain⟨f,g1,g2,g3,g4,g5⟩:=hb.yes q rfl;subst g2;have K:(ad c1.S q).dim=O f:=by rw[hS.dim];exact g1
  have W:(ad c1.S q).vals=(ad c.S q).vals:=hS.vals q;rcases g4 with⟨Q,_,e2,e3,e4⟩|⟨b,cp,yb,Q,e3,e4,e5,e6,e7⟩
  .subst e2;have hbase:F.cellsOf=[]:=by rw[g5];simp
   by_cases X:n=0
   .subst X;have:all=[]:=by simpa using h3
    subst this;have u:Moves c1 (O q) Y blk c1.Z:=⟨(λ_ h=>by cases h),(λ_ h=>by injection h with h;subst h;exact M q rfl),B.ok,bD _,λ_ _ h _=>h,_,D.dim,C, .inl ⟨rfl,by simp⟩⟩;refine br (v:= .slice Y 0 0) (Z':=c.Z) ?_ ?_
    .rw[E _ _ _ Q];unfold rJ;rw[zE (by simp)];simp
    .rw[<-J];refine A u (.full (by simp[Be]) rfl λd' p=> ?_);simp only[pZ,if_true]at p;rw[D.dim]at p;injection p with p
     subst p;exact⟨0,by simp, .inl ⟨rfl,rfl,rfl,by simp[vd],by simp⟩⟩
   .have u:Moves c1 (O q) (O c1.Z.n) blk (c1.Z.add ⟨all,Za,f.1⟩):=by
     have U:=OZ B (blk:=blk) (x:=⟨all,Za,f.1⟩) D.dim C rfl rfl (by have:=D.rel [] all (by rw[hbase];exact .nil) h4;simpa using this);refine⟨U.fr,(λ_ h=>by injection h with h;subst h;exact M q rfl),U.ok,U.n,λi z w _=>U.old i z w (λ⟨_,h,_⟩=>by cases h), ?_⟩;obtain⟨dd,k1,k2,k3⟩:=U.one;refine⟨dd,k1,k2, ?_⟩;rcases k3 with k3|⟨b',y',I,rest,k3,k4,k5,k6,k7,k8,k9⟩
     .exact .inl k3
     .refine .inr ⟨b',y',I,rest,k3,k4,k5,k6,k7,k8, .inl ?_⟩;rcases k9 with k9|⟨_,k9,_⟩
      .exact k9
      .cases k9
    refine br (v:= .slice (O ⟨c.Z.n,0,Y⟩) n n) (Z':=c.Z.add ⟨all,Za,f.1⟩) ?_ ?_
    .rw[E _ _ _ Q];unfold rJ;rw[Zh,zE ⟨t.1,t.2,h5⟩];simp
    .rw[<-J];refine A u (zN (yb:=⟨all,Za,f.1⟩) D.dim (by simp) (bD _) (zE rfl) ?_);show n*f.1<=all.length;omega
  .rw[iP]at Q;rw[cB]at e4 e7;have V:c1.μ q=O b:=by rw[hμ];exact e3
   obtain⟨yb',I,rest,f1,f2,f3,f4,f5⟩:=B.block K V;rw[J]at f1;rw[e6]at f1;injection f1 with f1
   subst f1;have P:=f3 (M q rfl);have hcl:I.length=f.2:=by rw[<-f5.length];exact EG K
   have hbs:F2 (VRel c1) F.cellsOf (I.take (g*f.1)):=by rw[g5,<-W];exact f5.take _
   have hrel:=D.rel _ _ hbs h4;have H:yb.cells.take (g*f.1)=I.take (g*f.1):=by rw[f4,iT (by omega)]
   have hcp:g*f.1<=cp*f.1:=gD _ e5;by_cases r:g+n<=cp
   .have hroom':g*f.1+n*f.1<=cp*f.1:=by rw[<-eD];exact gD _ r
    have hset:qr yb.cells (g*f.1) all=I.take (g*f.1)++(all++yb.cells.drop (g*f.1+all.length)):=by rw[RK (by omega),H]
    have mk: ∀Z':Hp,Z'.Ok->Z'.n=c1.Z.n->(∀i,i≠b->Z'.m i=c1.Z.m i)->Z'.m b=O ⟨qr yb.cells (g*f.1) all,Za,yb.es⟩->Moves c1 (O q) (O b) blk Z':=by
     intro Z' ho X hm hb';refine⟨(λb' h w _=>by injection h with h;subst h;exact w _ (by rw[J];exact e6)),(λ_ h=>by injection h with h;subst h;exact M q rfl),ho,by omega,λi z w hK=> ?_,(f.1,(g+n)*f.1),D.dim,C, .inr ⟨b,_,I.take (g*f.1)++all,yb.cells.drop (g*f.1+all.length),rfl,hb',f2,λ_=>rfl,by show qr _ _ _=_;rw[hset,iH],hrel, .inr ⟨q,rfl,V⟩⟩⟩;have:i≠b:=by rintro rfl;exact hK ⟨q,rfl,V⟩
     rw[hm i this];exact w
    have L: ∀Z':Hp,Z'.m b=O ⟨qr yb.cells (g*f.1) all,Za,yb.es⟩->VRel ⟨vd c1 (O b),rN c1.S (O q)++[blk],Z',c1.fb⟩ (.full c1.S.length) (.slice (O ⟨b,0,Y⟩) (g+n) cp):=by
     intro Z' hb';refine zN D.dim rfl r hb' ?_;show cp*f.1<=(qr yb.cells (g*f.1) all).length;rw[DV];exact e7
    by_cases X:all=[]
    .have hself:yb=⟨qr yb.cells (g*f.1) all,Za,yb.es⟩:=by
      subst X;cases yb;simp only[qr]at*;simp[P]
     refine br (v:= .slice (O ⟨b,0,Y⟩) (g+n) cp) (Z':=c.Z) ?_ ?_
     .rw[E _ _ _ Q];unfold rJ;rw[zE r];simp[X]
     .rw[<-J];have e6':c1.Z.m b=O ⟨qr yb.cells (g*f.1) all,Za,yb.es⟩:=by rw[<-hself,J];exact e6
      exact A (mk c1.Z B.ok rfl (λ_ _=>rfl) e6') (L _ e6')
    .refine br (v:= .slice (O ⟨b,0,Y⟩) (g+n) cp) (Z':=c.Z.set b (O ⟨qr yb.cells (g*f.1) all,Za,yb.es⟩)) ?_ ?_
     .rw[E _ _ _ Q];unfold rJ;rw[zE r];simp only[X,if_false,e6,cB];rw[HH P (by omega) h5]
     .rw[<-J];refine A (mk _ (λi z w=> ?_) rfl (λi hi=>by simp[Hp.set,hi]) (by simp[Hp.set])) (L _ (by simp[Hp.set]));simp only[Hp.set]at w;split at w
      .rename_i e;subst e;exact B.ok _ _ (by rw[J];exact e6)
      .exact B.ok _ _ w
   .have u:Moves c1 (O q) (O c1.Z.n) blk ((c1.Z.set b Y).add ⟨I.take (g*f.1)++all,Za,f.1⟩):=by
     refine⟨(λb h _ hb=>by injection h with h;subst h;exact Nat.lt_irrefl _ (B.fbl _ hb)),(λ_ h=>by injection h with h;subst h;exact M q rfl),λi z w=> ?_,Nat.le_succ _,λi z w hK=> ?_,(f.1,(g+n)*f.1),D.dim,C, .inr ⟨c1.Z.n,_,I.take (g*f.1)++all,[],rfl,zE rfl,rfl,λ_=>rfl,by simp,hrel, .inl λz w=> ?_⟩⟩
     .show i<c1.Z.n+1;rcases QL w with U|⟨_,U⟩
      .omega
      .have:=B.ok i z U;omega
     .have U:i≠b:=by rintro rfl;exact hK ⟨q,rfl,V⟩
      have h9:=B.ok i z w;rw[Sx (by omega) U];exact w
     .have:=B.ok _ _ w;omega
    refine br (v:= .slice (O ⟨c.Z.n,0,Y⟩) (g+n) (g+n)) (Z':=(c.Z.set b Y).add ⟨I.take (g*f.1)++all,Za,f.1⟩) ?_ ?_
    .rw[E _ _ _ Q];unfold rJ;rw[zF r,zE ⟨t.1,t.2,h5⟩];simp only[e6];rw[zE ⟨P,f2⟩]
     have:uG yb 0 (g*f.1)=O (I.take (g*f.1)):=by
      unfold uG;rw[Zg,iF,H]
     rw[this]
    .rw[<-J];refine A u (zN (yb:=⟨I.take (g*f.1)++all,Za,f.1⟩) D.dim rfl (bD _) (zE rfl) ?_);show(g+n)*f.1<=(I.take (g*f.1)++all).length;rw[cD,dB,eD];omega
theorem K1 {S:ah}{cs:List VV}{l:List (El s)}{c1:Ctx}(f:Rel c1)(g:c1.S=S)(h:Xt S s cs=O l):cs.length=l.length*s.w/\∀as,F2 (VRel c1) cs as->F2 (VRel c1) (gm s l) as:=by
 subst g;exact Kj (pX f s) _ _ _ h
theorem MV (hR:Rel c)(he:ar c e ea){es bytes:Nat}{s:Operand}{mo:Option More}(hd: ∀q,zx (ev e s)=O q->q∈d)(h:Me c.S es bytes (C9 c.S es (ev e s)) mo k=O y)
  (hm: ∀m,mo=O m->∃n all,(∀a sl' sc,ea.ev s= .slice a sl' sc->op.run ea c.Z=rJ es bytes c.Z a sl' sc n all)/\all.length=n*es/\F2 (VRel c) m.cellsOf all/\(∀s l,m= .lst s l->es=s.w/\n=l.length)):bn T op ea c.Z (jb c d k y):=by
 have hs:=bl he s;unfold Me at h;cases f:C9 c.S es (ev e s)with
 |none=>rw[f]at h;cases h
 |some p=>
  obtain⟨X,t⟩:=p;cases mo with
  |none=>rw[f]at h;cases X<;>cases h
  |some m=>
   obtain⟨sl,V,A,hba⟩:=XM hR f hs;obtain⟨n,all,E,U,v,h5⟩:=hm m rfl
   have D: ∀q,t=O q->q∈d:=by
    intro q hq;refine hd q ?_;subst hq;cases hv:ev e s<;>rw[hv]at f<;>try(cases f;done)
    case full b=>
     simp only[C9]at f;split at f
     .rename_i s' l hbb;cases B:aB es s'.w with
      |false=>rw[B]at f;cases f
      |true=>rw[B]at f;simp only[zC,Option.some.injEq,Prod.mk.injEq]at f;rw[<-f.2];rfl
     .rename_i es' l hbb;cases B:(aB es es'&&iB 1 es)with
      |false=>rw[B]at f;cases f
      |true=>rw[B]at f;simp only[zC,Option.some.injEq,Prod.mk.injEq]at f;rw[<-f.2];rfl
     .cases f
    case part b lo m=>
     cases lo with
     |succ lo=>cases f
     |zero=>
      simp only[C9]at f;split at f
      .rename_i s' l hbb;cases B:aB es s'.w with
       |false=>rw[B]at f;cases f
       |true=>rw[B]at f;simp only[zC,Option.some.injEq,Prod.mk.injEq]at f;rw[<-f.2];rfl
      .rename_i es' l hbb;cases B:(aB es es'&&iB 1 es)with
       |false=>rw[B]at f;cases f
       |true=>rw[B]at f;simp only[zC,Option.some.injEq,Prod.mk.injEq]at f;rw[<-f.2];rfl
      .cases f
   have W: ∀q,t=O q->(ad c.S q).frozen=Zb:=by
    intro q hq;obtain⟨_,_,_,h,_⟩:=V.yes q hq;exact h
   rw[f]at h;have r: ∀(c1:Ctx) (l:List VV),F2 (VRel c1) l all->tv l=Za->all.all one=Za:=λc1 l h1 h2=>qj h1 h2
   cases X with
   |arr s' l=>
    obtain⟨g1,J⟩:=hba s' l rfl;subst g1;cases m with
    |lst s2 l'=>
     simp only at h;obtain⟨l2,k1,k2⟩:=ag h;obtain⟨ee,k3⟩:=qU k1;cases ee;subst k3;obtain⟨u,Q⟩:=ap k2;obtain⟨_,F⟩:=h5 _ _ rfl;refine vS hR (uS.refl _) rfl rfl (Le.refl c) (yV.refl d c) (rR _) V W E U v (r c _ v (vX _ _)) ⟨?_,rfl,λbs ms H I=> ?_⟩ (by rw[J,F];exact u) D Q
     .simp only[Blk.dim,cD,J,F]
     .simp only[Blk.vals];rw[Bd];exact H.append I
    |cells C=>
     simp only at h;split at h
     .rename_i s3 l3 M;obtain⟨l2,k1,k2⟩:=ag h;obtain⟨u,Q⟩:=ap k2;have g:=Hn c.S C;have L:Rel ⟨c.μ,IQ c.S C,c.Z,c.fb⟩:=g.rel hR;obtain⟨F,k7⟩:=K1 L rfl k1;have K:F2 (VRel ⟨c.μ,IQ c.S C,c.Z,c.fb⟩) C all:=VRel.frames g.le v
      have k8:n=l2.length:=by
       have:=v.length;simp only[More.cellsOf]at this;rw[F,U]at this;exact(fD (rR _) this).symm
      have P: ∀q,t=O q->(ad (IQ c.S C) q).frozen=Zb:=by
       intro q hq;subst hq;simp only[iW]at M;rw[M];rfl
      refine vS (c1:=⟨c.μ,IQ c.S C,c.Z,c.fb⟩) L g rfl rfl g.le (g.calm d) (rR _) V P E U K (r _ _ (k7 _ K) (vX _ _)) ⟨?_,rfl,λbs ms H I=> ?_⟩ (by rw[J,k8];exact u) D Q
      .simp only[Blk.dim,cD,J,k8]
      .simp only[Blk.vals];rw[Bd];exact H.append (k7 _ I)
     .cases h
   |cells es0 l=>
    obtain⟨g1,J⟩:=V.es _ _ rfl;subst g1;cases m with
    |lst s2 l'=>
     simp only at h;obtain⟨w1,w2⟩:=h5 _ _ rfl;subst w1;split at h
     .rename_i s3 l3 M;obtain⟨l1,k1,k2⟩:=ag h;obtain⟨u,Q⟩:=ap k2;have g:=Hn c.S l;have L:Rel ⟨c.μ,IQ c.S l,c.Z,c.fb⟩:=g.rel hR;obtain⟨F,k7⟩:=K1 L rfl k1;have K:F2 (VRel ⟨c.μ,IQ c.S l,c.Z,c.fb⟩) (gm s2 l') all:=VRel.frames g.le v
      have k8:sl=l1.length:=by
       simp only[Base.cellsOf]at A;rw[F]at A;exact(fD (rR _) A).symm
      have P: ∀q,t=O q->(ad (IQ c.S l) q).frozen=Zb:=by
       intro q hq;subst hq;simp only[iW]at M;rw[M];rfl
      refine vS (c1:=⟨c.μ,IQ c.S l,c.Z,c.fb⟩) L g rfl rfl g.le (g.calm d) (rR _) V P E U K (r _ _ K (vX _ _)) ⟨?_,rfl,λbs ms H I=> ?_⟩ (by rw[w2,k8];exact u) D Q
      .simp only[Blk.dim,cD,w2,k8]
      .simp only[Blk.vals];rw[Bd];exact(k7 _ H).append I
     .cases h
    |cells C=>
     simp only at h;obtain⟨u,Q⟩:=ap h;rw[bB]at u;simp only[Base.cellsOf]at A;simp only[More.cellsOf]at v;have F:C.length=n*es0:=by rw[v.length];exact U
     refine vS (blk:= .cells es0 Zb (l++C)) hR (uS.refl _) rfl rfl (Le.refl c) (yV.refl d c) J V W E U v (r c _ v u.2) ⟨?_,rfl,λbs ms H I=>F2.append (l:=l) H I⟩ ?_ D Q
     .simp only[Blk.dim,cD,A,F,eD]
     .have:(l.length+C.length) / es0=sl+n:=by rw[A,F,<-eD,iM _ J]
      rw[<-this];exact u.1
   |none=>
    have hsl:t=Y->sl=0:=λB=>(V.no B).2.1
    have hsl0: ∀(q:Nat),1<=es->sl=0:=by
     intro _ B;simp only[Base.cellsOf,iD]at A;rcases iK sl with h|h
     .exact h
     .have:=iO h B;omega
    cases m with
    |lst s2 l'=>
     simp only at h;obtain⟨w1,w2⟩:=h5 _ _ rfl;subst w1;have hz:=hsl0 0 (rR _);subst hz;obtain⟨u,Q⟩:=ap h;refine vS hR (uS.refl _) rfl rfl (Le.refl c) (yV.refl d c) (rR _) V W E U v (r c _ v (vX _ _)) ⟨?_,rfl,λbs ms H I=> ?_⟩ (by rw[w2];exact u) D Q
     .simp only[Blk.dim,cD,w2,iD]
     .cases H;exact I
    |cells C=>
     simp only at h;obtain⟨u,Q⟩:=ap h;rw[bB,bB]at u;have J:=fB u.1.2;have hz:=hsl0 0 J;subst hz;simp only[More.cellsOf]at v;have F:C.length=n*es:=by rw[v.length];exact U
     refine vS (blk:= .cells es Zb C) hR (uS.refl _) rfl rfl (Le.refl c) (yV.refl d c) J V W E U v (r c _ v u.2) ⟨?_,rfl,λbs ms H I=>by cases H;exact I⟩ ?_ D Q
     .simp only[Blk.dim,F,cB]
     .have:C.length / es=0+n:=by rw[F,iM _ J,cB]
      rw[<-this];exact u.1.1
theorem Y2 {l:List (El s)}{bytes n:Nat}{all:List Value}(H:VRel c (.tgt s l) a)(K:all.length=n*s.w)(J:1<=n)(g:all.all one=Za)(q:lz (l.length+n) bytes=Za):
  ∃p u old,a= .slice p l.length u/\F2 (VRel c) (gm s l) old/\rJ s.w bytes c.Z p l.length u n all=O (.slice (O ⟨c.Z.n,0,Y⟩) (l.length+n) (l.length+n),c.Z.add ⟨old++all,Za,s.w⟩):=by
 have f:(l.length+n)*bytes<=140737488355328/\l.length+n<=9223372036854775807:=by
  unfold lz at q;rw[bB]at q;have A:=of_decide_eq_true q.1;have B:=fB q.2;refine⟨A, ?_⟩;have:(l.length+n)*1<=(l.length+n)*bytes:=iV _ B;omega
 cases H with
 |tgtn F=>
  simp only[iD,cB]at f⊢;rcases F with rfl|⟨b,o,rfl⟩
  .refine⟨Y,0,[],rfl, .nil, ?_⟩;unfold rJ;rw[Zh,zE (by rw[cB];exact⟨f.1,f.2,g⟩)];simp
  .refine⟨_,0,[],rfl, .nil, ?_⟩;unfold rJ;rw[Zh,zE (by rw[cB];exact⟨f.1,f.2,g⟩)];simp
 |tgt L I D C r=>
  rename_i b p v;by_cases t:l=[]
  .subst t;simp only[iD,cB]at f⊢;refine⟨_,0,[],rfl, .nil, ?_⟩;unfold rJ;rw[Zh,zE (by rw[cB];exact⟨f.1,f.2,g⟩)];simp
  .have E:l.length≠0:=λh=>t (List.eq_nil_of_length_eq_zero h)
   refine⟨_,_,_,rfl,r, ?_⟩;unfold rJ;rw[Zh,zE ⟨f.1,f.2,g⟩];simp only[E,if_false,I,D,if_true]
   have:uG v p (l.length*s.w)=O ((v.cells.drop p).take (l.length*s.w)):=by
    unfold uG;rw[zE C]
   rw[this]
theorem Oo {c1:Ctx}{bytes n:Nat}{l t:List (El s)}{L:Operand}{all:List Value}(C:Rel c1)(J:c1.Z=c.Z)(u:Le c c1)(g:yV d c c1)
  (X:VRel c1 (.tgt s l) (ea.ev L)) (D: ∀a B E,ea.ev L= .slice a B E->op.run ea c.Z=rJ s.w bytes c.Z a B E n all) (I:all.length=n*s.w) (V:F2 (VRel c1) (gm s t) all) (W:all.all one=Za) (K:n=t.length) (U:1<=n)
  (h:grow c1.S bytes s Y l t k=O y):bn T op ea c.Z (jb c d k y):=by
 unfold grow at h;obtain⟨H,Q⟩:=ap h;rw[<-K]at H;obtain⟨p,E,f,M,F,P⟩:=Y2 X I U W H;have A:F2 (VRel c1) (gm s (l++t)) (f++all):=by rw[Bd];exact F.append V
 have r:=OZ C (blk:= .arr s Zb (l++t)) (x:=⟨f++all,Za,s.w⟩) (d:=(s.w,(l++t).length*s.w)) rfl (rR s) rfl rfl A;refine br (v:= .slice (O ⟨c.Z.n,0,Y⟩) (l.length+n) (l.length+n)) (Z':=c.Z.add ⟨f++all,Za,s.w⟩) ?_ ?_
 .rw[D _ _ _ M,<-J,P]
 .rw[<-J];refine⟨_,_,rfl,u.trans (r.le C),r.rel C,g.trans (r.calm C (λq h=>by cases h)) u, ?_,Q⟩;refine zN (yb:=⟨f++all,Za,s.w⟩) (dm:=(s.w,(l++t).length*s.w)) rfl (by simp[K]) (bD _) (zE rfl) ?_;show(l.length+n)*s.w<=(f++all).length;rw[cD,<-F.length,ji,I,eD];exact bD _
theorem ap9 (M:Rel c)(he:ar c e ea){es bytes:Nat}{l:List (El s)}{J:Operand}{I:Option More}(hs:ev e J= .tgt s l)(h:Wc c.S es bytes s l I k=O y)
  (hm: ∀m,I=O m->∃n f,(∀a v V,ea.ev J= .slice a v V->op.run ea c.Z=rJ es bytes c.Z a v V n f)/\f.length=n*es/\F2 (VRel c) m.cellsOf f/\(∀s l,m= .lst s l->es=s.w/\n=l.length)):bn T op ea c.Z (jb c d k y):=by
 have D:=bl he J;rw[hs]at D;unfold Wc at h;cases I with
 |none=>cases h
 |some m=>
  obtain⟨n,f,u,C,A,X⟩:=hm m rfl;cases m with
  |lst s' l'=>
   simp only at h;obtain⟨U,E,F⟩:=ag h;obtain⟨W,k3⟩:=qU E;cases W;subst k3;obtain⟨p,H⟩:=ap F;rw[bB]at p;have K:=aD p.1;have L:=fB p.2;subst K;obtain⟨_,B⟩:=X _ _ rfl;exact Oo M rfl (Le.refl c) (yV.refl d c) D u C A (qj A (vX _ _)) B (by rw[B];exact L) H
  |cells q=>
   simp only at h;obtain⟨U,E,F⟩:=ag h;obtain⟨p,H⟩:=ap F;rw[bB]at p;have K:=aD p.1;have L:=fB p.2;subst K;have g:=Hn c.S q;have t:Rel ⟨c.μ,IQ c.S q,c.Z,c.fb⟩:=g.rel M;obtain⟨B,P⟩:=K1 t rfl E;have r:F2 (VRel ⟨c.μ,IQ c.S q,c.Z,c.fb⟩) q f:=VRel.frames g.le A
   have Q:n=U.length:=by
    have:=A.length;simp only[More.cellsOf]at this;rw[B,C]at this;exact(fD (rR _) this).symm
   exact Oo (c1:=⟨c.μ,IQ c.S q,c.Z,c.fb⟩) t rfl g.le (g.calm d) (D.frame g.le) u C (P _ r) (qj (P _ r) (vX _ _)) Q (by rw[Q];exact L) H
theorem Ut (A:Rel c){v:VV}{S1:ah}{l:List (El s)}(h:On c.S v=O (S1, .arr s l))(u:VRel c v a):uS c.S S1/\VRel ⟨c.μ,S1,c.Z,c.fb⟩ (.lst s l) a:=by
 unfold On at h;split at h
 .simp only[Option.some.injEq,Prod.mk.injEq,Base.arr.injEq]at h;obtain⟨p,rfl,f⟩:=h;have f:=eq_of_heq f;subst p;subst f;exact⟨uS.refl _,u⟩
 .rename_i q;split at h
  .rename_i w z C r;simp only[Option.some.injEq,Prod.mk.injEq,Base.arr.injEq]at h;obtain⟨p,rfl,f⟩:=h;have f:=eq_of_heq f;subst p;subst f;have g:uS c.S (i9 c.S q (ad c.S q).freeze):=uS.put;refine⟨g, ?_⟩;have n:=g.rel A;have B:q<c.S.length:=py (by rw[r];simp[Blk.dim]);have t:ad (i9 c.S q (ad c.S q).freeze) q= .arr w Za C:=by rw[Xl B,r];rfl
   refine NF n (pX n w) (v:= .full q) ?_ (u.frame g.le);show cond (ad (i9 c.S q (ad c.S q).freeze) q).frozen _ _=_;rw[t];simp only[Blk.frozen,zC,GB,t,AW,pW]
  .cases h
 .cases h
theorem au2 (n:Rel c)(p:ar c e ea)(r:ev e x= .nils)(h:k (.int .i64 0) c.S=O y):bn T (.capN x) ea c.Z (jb c d k y):=by
 have f:=bl p x;rw[r]at f;have g:ea.ev x= .slice Y 0 0:=by generalize ea.ev x=q at f;cases f;rfl
 refine br (v:= .int .i64 0) (Z':=c.Z) ?_ (jb.same n (.int _ _) h);simp only[AOp.run,g]
theorem YO (U:Rel c)(W:ar c e ea){H M:Operand}(h:RM c.S (ev e x) (ev e H) (ev e M) k=O y):bn T (.sliceX x H M) ea c.Z (jb c d k y):=by
 have D:=bl W x;have K:=bl W H;have L:=bl W M;unfold RM at h;split at h
 .rename_i kh f km zm eh em;rw[eh]at K;rw[em]at L;have q1:ea.ev H= .int kh f:=K.int_inv;have q2:ea.ev M= .int km zm:=L.int_inv;obtain⟨Q,g⟩:=ap h;clear h;have Q:=of_decide_eq_true Q;subst Q;have h:=g;clear g
  have run: ∀(p:Option Addr) (n E:Nat) (r:Value),ea.ev x= .slice p n E->0<=f->f<=E->(match p with
    |none=>O (Value.slice Y 0 0,c.Z)
    |some ⟨b,o,Y⟩=>O (.slice (O ⟨b,o,O 0⟩) f.toNat f.toNat,c.Z)
    |_=>Y)=O (r,c.Z)->(AOp.sliceX x H M).run ea c.Z=O (r,c.Z):=by
   intro p n E r hp h0 g hr;have b1:rX E 0 (O (.int km f))=O f.toNat:=zE ⟨h0,g⟩;have b2:rX f.toNat 0 (O (.int kh f))=O f.toNat:=zE ⟨h0,by omega⟩;simp only[AOp.run,hp,q1,q2,b1,b2,if_true];exact hr
  split at h
  .rename_i hx;rw[hx]at D;obtain⟨F,g⟩:=ap h;clear h;have h:=g;clear g;have F:=of_decide_eq_true F;subst F;have e1:ea.ev x= .slice Y 0 0:=by generalize ea.ev x=q at D;cases D;rfl
   exact br (run _ _ _ (.slice Y 0 0) e1 (by simp) (by simp) rfl) (jb.same U .nils h)
  .split at h
   .rename_i S1 s l J;obtain⟨F,g⟩:=ap h;clear h;have h:=g;clear g;obtain⟨c1,c2,c3⟩:=vW F;obtain⟨B,P⟩:=Ut U J D;have V:=B.rel U;have C: ∀v:Value,VRel ⟨c.μ,S1,c.Z,c.fb⟩ (.tgt s (l.take f.toNat)) v->jb c d k y v c.Z:=λv D=>⟨_,⟨c.μ,S1,c.Z,c.fb⟩,rfl,B.le,V,B.calm d,D,h⟩
    cases t:ea.ev x with
    |slice p n E=>
     rw[t]at P;cases P with
     |lstn hq=>
      have z0:f=0:=by simp at c3;omega
      subst z0;cases p with
      |none=>exact br (run _ _ _ (.slice Y 0 0) t (by simp) (by simp) rfl) (C _ (.tgtn (.inl rfl)))
      |some A=>
       obtain⟨b,o,sp⟩:=A;have:sp=Y:=hq _ rfl;subst this;exact br (run _ _ _ (.slice (O ⟨b,o,O 0⟩) 0 0) t (by simp) (by simp) rfl) (C _ (.tgtn (.inr ⟨_,_,rfl⟩)))
     |lst hn hy X g h2 h3 hf=>
      rename_i b o yb;refine br (run _ _ _ (.slice (O ⟨b,o,O 0⟩) f.toNat f.toNat) t c2 (by omega) rfl) (C _ ?_);have u:(l.take f.toNat).length=f.toNat:=by rw[dB];omega
      have I:f.toNat*s.w<=n*s.w:=gD _ (by omega)
      have:=VRel.tgt (c:=⟨c.μ,S1,c.Z,c.fb⟩) (l:=l.take f.toNat) hn hy X (p:=o) (by rw[u];omega) (by
       rw[u,ql];have h9:=hf.take (f.toNat*s.w);rw[iJ,iE I]at h9
       exact h9)
      rw[u]at this;exact this
    |_=>rw[t]at P;cases P
   .cases h
 .cases h
theorem UR (u:Rel c)(v:ar c e ea){es bytes:Nat}{s:Operand}(F: ∀q,zx (ev e s)=O q->q∈d)(h:MW c.S es bytes (ev e s) (ev e x) k=O y)(p:QR c.S es bytes (ev e s) (ev e x) k=O y->bn T (.append es bytes s x) ea c.Z (jb c d k y)):bn T (.append es bytes s x) ea c.Z (jb c d k y):=by
 unfold MW at h;split at h
 .rename_i H l t;refine ap9 u v t h λm r=> ?_
  obtain⟨n,g,w,A,B,C,D⟩:=yv u r (bl v x);have f:=A n (bD _);rw[dD (by omega)]at f;refine⟨n,g,λa E I t=> ?_,B,C,D⟩;simp only[AOp.run,t,w,f]
 .exact p h
theorem XH (r:Rel c)(t:ar c e ea){es bytes:Nat}{s:Operand}(C: ∀q,zx (ev e s)=O q->q∈d)(h:QR c.S es bytes (ev e s) (ev e x) k=O y):bn T (.append es bytes s x) ea c.Z (jb c d k y):=by
 refine MV r t C h λm p=> ?_
 obtain⟨n,g,u,v,w,A,B⟩:=yv r p (bl t x);have f:=v n (bD _);rw[dD (by omega)]at f;refine⟨n,g,λa E F D=> ?_,w,A,B⟩;simp only[AOp.run,D,u,f]
theorem US (K:Rel c)(p:ar c e ea){es bytes:Nat}{z:List Value}{s:Operand}(L: ∀q,zx (ev e s)=O q->q∈d)(h:MX c.S es bytes z (ev e s) (ev e x) k=O y):bn T (.appendZ es bytes z s x) ea c.Z (jb c d k y):=by
 have B:=bl p x;unfold MX at h;split at h
 .rename_i kd l M;rw[M]at B;obtain⟨g,h⟩:=ap h;unfold qZ at g;rw[bB,bB]at g;have E:=of_decide_eq_true g.1;have F:=of_decide_eq_true g.2.1;have H:=of_decide_eq_true g.2.2;refine MV K p L h λm f=> ?_
  unfold UG at f;split at f
  .rename_i r P;cases u:aB es r.w with
   |false=>rw[u]at f;cases f
   |true=>
    rw[u]at f;simp only[zC,Option.some.injEq]at f;subst f;have p:=aD u;subst p;have C:=DW (c:=c) P;have A:z.length=r.w:=by rw[<-C.length,ei]
    refine⟨l.toNat,eg z l.toNat,λa Q W v=> ?_,by rw[A6,A], ?_,λV U I=> ?_⟩
    .simp only[AOp.run,v,B.int_inv];rw[zE ⟨E,F,H⟩]
    .show F2 (VRel c) (gm r (iA l.toNat (xH r))) (eg z l.toNat);rw[vt];generalize l.toNat=n;induction n with
     |zero=>exact .nil
     |succ n D=>
      simp only[eg,iG,iI]at D⊢;exact C.append D
    .injection I with J t
     subst J;have t:=eq_of_heq t;rw[<-t,List.length_replicate];exact⟨rfl,rfl⟩
  .cases f
 .cases h
theorem YR {S:ah}{q:Nat}:i9 S q (ad S q)=S:=by
 induction S generalizing q with
 |nil=>rfl
 |cons a r f=>
  cases q with
  |zero=>rfl
  |succ q=>simp only[i9,ad,f]
theorem ao3 {b:Nat}{x:Ab.Blk}(h:Z.m b=O x):Z.set b (O x)=Z:=by
 have:(λi=>if i=b then O x else Z.m i)=Z.m:=by
  funext i
  by_cases f:i=b
  .rw[zE f,f,h]
  .rw[zF f]
 show Hp.mk _ _=_;rw[this]
theorem ad4 {es n m b o t:Nat}{all:List Value}{f:Ab.Blk}(w:ea.ev x= .slice (O ⟨b,o,Y⟩) n t)(u:FK (ea.ev z)=O m)(v:c.Z.slice es (ea.ev z) (min m n)=O all)(r:c.Z.m b=O f)
  (g:f.own=Za) (h:o+all.length<=f.cells.length) (p:all.all one=Za):(AOp.copy es x z).run ea c.Z=O (.int .i64 (min m n:Nat),c.Z.set b (O ⟨qr f.cells o all,Za,f.es⟩)):=by
 simp only[AOp.run,w,u,v];by_cases q:all=[]
 .rw[zE q];subst q;have:(⟨qr f.cells o [],Za,f.es⟩:Ab.Blk)=f:=by cases f;simp only[qr]at*;simp[g]
  rw[this,ao3 r]
 .rw[zF q,r];simp only[HH g h p]
theorem Pp (h:Rel c){es q o n m:Nat}{dm:Nat×Nat}{all:List Value}(f:(ad c.S q).dim=O dm)(F:dm.1=es)(U:(ad c.S q).frozen=Zb)(hs:IN c q o n dm (ea.ev x))
  (M:FK (ea.ev z)=O m) (P:c.Z.slice es (ea.ev z) (min m n)=O all) (Q:all.length=min m n*es) (h5:all.all one=Za) (hd:q∈d) (D:blk.dim=O dm) (E:blk.frozen=Zb) (r:dm.2=0->blk=ad c.S q)
  (t: ∀cs,F2 (VRel c) (ad c.S q).vals cs->F2 (VRel c) blk.vals (qr cs (o*es) all)) (H:k (.int .i64 (min m n:Nat)) (i9 c.S q blk)=O y):bn T (.copy es x z) ea c.Z (jb c d k y):=by
 subst F;rcases hs with⟨C,w,J,V,g⟩|⟨b,cp,B,C,w,J,V,g,e6⟩
 .subst w;subst J;have:all=[]:=by simpa using Q
  subst this;refine br (v:= .int .i64 (min m 0:Nat)) (Z':=c.Z) ?_ (jb.same h (.int _ _) ?_)
  .simp only[AOp.run,C,M,P];simp
  .rw[r g,YR]at H;exact H
 .obtain⟨y0,cs,u,A,W,X,K,L⟩:=h.block f w;rw[g]at A;injection A with A
  subst A;have hl:=L.length;rw[EG f]at hl
  have hle:o*dm.1+min m n*dm.1<=dm.2:=by
   have:(o+min m n)*dm.1<=(o+n)*dm.1:=gD _ (by omega);rw[eD]at this;omega
  have p:o*dm.1+all.length<=B.cells.length:=by rw[K,cD,Q];omega
  have I:Writes c q b blk ⟨qr B.cells (o*dm.1) all,Za,B.es⟩:=⟨U,w,D.trans f.symm,E,B,qr cs (o*dm.1) all,u,dm,g,f,W,rfl,DV _ _ _,by show qr _ _ _=_;rw[K,GP _ _ _ _ (by omega)],t cs L⟩;exact br (ad4 C M P g (X U) p h5) ⟨_,_,rfl,I.le h,I.rel h,I.calm h hd, .int _ _,H⟩
theorem KG {kd:IntKind}: ∀{cs r:List VV} {m ml:Zd} {j:Nat} {as g:List Value},JC kd m j cs=O r->F2 (VRel c) cs as->F2 (VRel c) (ml.map (VV.int kd)) g->ml=(m.drop j).take cs.length->
  F2 (VRel c) r (g++as.drop g.length)
 |[],r,m,ml,j,as,g,h,A,t,f=>by
  simp only[JC]at h;injection h with h;subst h
  cases A;simp at f;subst f;cases t;exact .nil
 |v::cs,r,m,ml,j,as,g,h,A,t,f=>by
  cases v<;>simp only[JC]at h<;>try(cases h;done)
  rename_i J n;cases q:Zc (J=kd)with
  |false=>rw[q]at h;cases h
  |true=>
   rw[q,zC]at h;have q:=of_decide_eq_true q;subst q;obtain⟨K,E,u⟩:=ag h;injection u with u
   subst u;cases A with
   |cons B p=>
    rename_i a as;have H:=B.int_inv;subst H;by_cases F:j<m.length
    .have w:m.drop j=m[j]::m.drop (j+1):=List.drop_eq_getElem_cons F;rw[w]at f;simp only[iS,List.take_succ_cons]at f;subst f;cases t with
     |cons C D=>
      rename_i b g;have I:=C.int_inv;subst I;have:=KG E p D rfl;rw[iR,List.getElem?_eq_getElem F];exact .cons (.int _ _) this
    .have w:m.drop j=[]:=iQ (by omega);rw[w]at f;simp only[List.take_nil]at f;subst f;cases t;have:=KG (ml:=[]) E p .nil (by rw[iQ (by omega)];simp);rw[iR,List.getElem?_eq_none (by omega)];exact .cons (.int _ _) this
theorem P1 {kd:IntKind}{m:Zd}: ∀{cs r:List VV} {j:Nat},JC kd m j cs=O r->r.length=cs.length
 |[],r,j,h=>by injection h with h;subst h;rfl
 |v::cs,r,j,h=>by
  cases v<;>simp only[JC]at h<;>try(cases h;done)
  rename_i q n;cases g:Zc (q=kd)with
  |false=>rw[g]at h;cases h
  |true=>
   rw[g,zC]at h;obtain⟨t,p,f⟩:=ag h;injection f with f
   subst f;simp[P1 p]
theorem To {m:Zd}:gm (.int kd) m=m.map (VV.int kd):=by
 induction m with
 |nil=>rfl
 |cons a m f=>rw[jd,f];rfl
theorem Kf {α:Type}{l m:List α}{o n:Nat}(h:o+n<=l.length):Jc l o n m=l.take o++(m.take (min m.length n)++l.drop (o+min m.length n)):=by
 unfold Jc;rw[Nat.min_comm n m.length]
 congr 2
 by_cases f:n<=m.length
 .rw[Nat.min_eq_right f]
 .rw[iE (by omega),dD (by omega),dD (by omega)]
theorem ac2 {α:Type}{l m:List α}{o n:Nat}(h:o+n<=l.length):(Jc l o n m).length=l.length:=by
 rw[Kf h];simp only[cD,dB,iC];omega
theorem SM (Q:Rel c){es q o n:Nat}{l A:List (El s)}{mc:List VV}{m:Nat}{g:List Value}(v:ad c.S q= .arr s Zb l)(I:IN c q o n (s.w,l.length*s.w) (ea.ev x))(V:es=s.w)
  (K:FK (ea.ev z)=O m) (L: ∀i,i<=m->c.Z.slice es (ea.ev z) i=O (g.take (i*es))) (M:g.length=m*es) (P:F2 (VRel c) (gm s A) g) (H:m=A.length) (U:q∈d)
  (E:k (.int .i64 (min A.length n:Nat)) (i9 c.S q (.arr s Zb (Jc l o n A)))=O y):bn T (.copy es x z) ea c.Z (jb c d k y):=by
 subst V;have u:(ad c.S q).dim=O (s.w,l.length*s.w):=by rw[v];rfl
 have p:o+n<=l.length:=by
  rcases I with⟨_,e2,D,_,_⟩|⟨b,X,yb,_,_,D,_⟩
  .omega
  .exact iU D (rR s)
 have B:=L (min m n) (iL _ _)
 have t:(g.take (min m n*s.w)).length=min m n*s.w:=by
  rw[dB,M,iE];exact gD _ (iL _ _)
 have r:=P.take (min m n*s.w);rw[<-ql]at r;rw[<-H]at E;refine Pp Q u rfl (by rw[v];rfl) I K B t (qj r (vX _ _)) U ?_ rfl (λJ=> ?_) (λcs f=> ?_) E
 .simp only[Blk.dim,ac2 p]
 .have:l.length=0:=by
   rcases iK l.length with h|h
   .exact h
   .have:=iO h (rR s);simp only at J;omega
  rw[v,Kf p];rw[List.length_eq_zero_iff]at this;subst this;have W:n=0:=by simp at p;omega
  subst W;simp
 .rw[v]at f;simp only[Blk.vals]at f⊢;have C:=f.length;rw[ji]at C;have F:o*s.w+min m n*s.w<=l.length*s.w:=by rw[<-eD];exact gD _ (by omega)
  rw[RK (by rw[t];omega),Kf p,Bd,Bd,ql,BT,t,<-H,eD];exact(f.take _).append (r.append (f.drop _))
theorem au8 (M:Rel c)(he:ar c e ea){es:Nat}(hd: ∀q,zx (ev e x)=O q->q∈d)(h:ad3 c.S es (ev e x) (ev e z) k=O y):bn T (.copy es x z) ea c.Z (jb c d k y):=by
 have hx:=bl he x;have hz:=bl he z;unfold ad3 at h
 have go: ∀(q o n:Nat) (U:Nat×Nat),(ad c.S q).dim=O U->q∈d->IN c q o n U (ea.ev x)->
   (match ad c.S q,kq c.S es (ev e z)with
   | .arr s Zb l,O (.lst s' l')=>(qD (.list s') (.list s) l').bind λK=>gd (aB es s.w) (k (.int .i64 (min K.length n:Nat)) (i9 c.S q (.arr s Zb (Jc l o n K))))
   | .arr s Zb l,O (.cells L)=>(zM .u64 L).bind λm=>(qD (.list (.int .u64)) (.list s) m).bind λK=>gd (aB es s.w) (k (.int .i64 (min K.length n:Nat)) (i9 c.S q (.arr s Zb (Jc l o n K))))
   | .cells 1 Zb l,O (.lst (.int kd) m)=>gd (aB es 1&&iB (o+n) l.length) (match JC kd m 0 ((l.drop o).take n)with
    |some c'=>k (.int .i64 (min m.length n:Nat)) (i9 c.S q (.cells 1 Zb (l.take o++c'++l.drop (o+n))))
    |none=>Y)
   |_,_=>Y)=O y->bn T (.copy es x z) ea c.Z (jb c d k y):=by
  intro q o n U f Q hs h;split at h
  .rename_i s l s' l' g X;obtain⟨m,r,u,v,A,B,h5⟩:=yv M X hz;obtain⟨K,I,J⟩:=ag h;obtain⟨ee,k3⟩:=qU I;cases ee;subst k3;obtain⟨k4,k5⟩:=ap J;rw[g]at f;injection f with f
   subst f;exact SM (mc:=[]) M g hs (aD k4) u v A B (h5 _ _ rfl).2 Q k5
  .rename_i s l L g X;obtain⟨m,r,u,v,A,B,h5⟩:=yv M X hz;obtain⟨ml,k0,I⟩:=ag h;obtain⟨K,I,J⟩:=ag I;obtain⟨ee,k3⟩:=qU I;cases ee;subst k3;obtain⟨k4,k5⟩:=ap J;rw[g]at f;injection f with f
   subst f;have p:=KB k0;simp only[More.cellsOf]at B;rw[p,<-To]at B;have E:=aD k4
   have F:m=K.length:=by
    have:=B.length;rw[ji,A,E]at this;exact(fD (rR _) this).symm
   exact SM (mc:=[]) M g hs E u v A B F Q k5
  .rename_i l kd ml g X;obtain⟨m,r,u,v,A,B,h5⟩:=yv M X hz;obtain⟨I,J⟩:=ap h;rw[bB]at I;have E:=aD I.1;have hle:=fB I.2;subst E;split at J
   .rename_i c' H;have F:=(h5 _ _ rfl).2;rw[g]at f;injection f with f
    subst f;have h2':=v (min m n) (iL _ _);have P:(r.take (min m n*1)).length=min m n*1:=by rw[dB,A,iE];omega
    simp only[More.cellsOf]at B;have V:F2 (VRel c) (gm (.int kd) (ml.take (min m n))) (r.take (min m n*1)):=by rw[ql];exact B.take (min m n*1)
    have hc':=P1 H;have W:((l.drop o).take n).length=n:=by rw[dB,iC];omega
    rw[<-F]at J;refine Pp M (by rw[g];rfl) rfl (by rw[g];rfl) hs u h2' P (qj V (vX _ _)) Q ?_ rfl (λh0=> ?_) (λL p=> ?_) J
    .simp only[Blk.dim,cD,dB,iC,hc']
     congr 2
     omega
    .simp only at h0;have:l=[]:=List.length_eq_zero_iff.1 h0;subst this;rw[g];simp at hle;have t:n=0:=by omega
     subst t;simp[JC]at H;subst H;simp
    .rw[g]at p;simp only[Blk.vals]at p⊢;have hcl:=p.length;rw[RK (by rw[P];omega),iH,iN];refine(p.take _).append ?_;have h6:=KG (ml:=ml.take (min m n)) H ((p.drop o).take n) (by rw[<-To];exact V) (by rw[W,iF,F,Nat.min_comm,<-iJ,dD (l:=ml) (bD _)])
     have h7:L.drop (o+(r.take (min m n*1)).length)=((L.drop o).take n).drop (r.take (min m n*1)).length++L.drop (o+n):=by
      rw[P,iN,List.drop_take,List.drop_drop]
      conv=>lhs;rw[<-List.take_append_drop (n-min m n) (L.drop (o+min m n))]
      rw[List.drop_drop]
      congr 2
      omega
     rw[h7,<-iH];exact h6.append (p.drop _)
   .cases J
  .cases h
 generalize ev e x=xv at*;cases xv<;>try(cases h;done)
 case full q=>
  simp only at h;cases hx with
  |full hk _ C=>
   split at h
   .rename_i n t;cases g:ad c.S q with
    |dead=>simp only[lenOf,g]at t;cases t
    |arr s z' l=>
     simp only[lenOf,g]at t;injection t with t
     have f:(ad c.S q).dim=O (s.w,l.length*s.w):=by rw[g];rfl
     obtain⟨n',u,v⟩:=C _ f;have:n'=n:=by rw[<-t];exact fD (rR s) u
     subst this;exact go q 0 n' _ f (hd q rfl) v h
    |cells es' z' l=>
     simp only[lenOf,g]at t;injection t with t
     have f:(ad c.S q).dim=O (es',l.length):=by rw[g];rfl
     obtain⟨n',u,v⟩:=C _ f;have A:=(M.blk q _ f).1
     have:n'=n:=by
      simp only at u A;rw[<-t,<-u,iM _ A]
     subst this;exact go q 0 n' _ f (hd q rfl) v h
   .cases h
 case part q o n=>
  simp only at h;cases hx with
  |part hk _ C=>
   cases D:(ad c.S q).dim with
   |none=>
    have:ad c.S q= .dead:=by
     generalize ad c.S q=blk at D;cases blk<;>first|rfl|(cases D;done)
    rw[this]at h;cases h
   |some U=>exact go q o n U D (hd q rfl) (C U D) h
end
end
section
open Bool renaming and_eq_true -> cB
open List renaming mem_cons_of_mem -> aB, append_assoc -> bB, foldl_cons -> cD, getD_eq_getElem?_getD -> dB, getElem?_map -> dD, mem_cons_self -> eD, take_of_length_le -> fB
open Nat renaming le_refl -> aD, le_of_ble_eq_true -> fD
open Option renaming map_some -> bD
section
variable {β:Type} {T:Ab.lj} {c:Ctx} {e:cu} {ea:cj} {d:List Nat} {k:VV->ah->Option β} {y:β}
theorem XS (s:ByteArray)(j:Nat):((au s).getD j 0).toNat=(s.get! j).toNat:=by
 have f:s.get! j=s.data[j]!:=rfl;rw[f];unfold au;rcases Nat.lt_or_ge j s.data.size with h'|h'
 .rw[getElem!_pos s.data j h',dB,dD,Array.getElem?_toList,Array.getElem?_eq_getElem h'];rfl
 .rw[getElem!_neg s.data j (by omega),dB,dD,Array.getElem?_toList,Array.getElem?_eq_none h'];rfl
theorem BM (s:ByteArray):(au s).length=s.size:=by
 simp[au]
theorem Pr (s:ByteArray)(i:Nat):Utf8.decode s i=P9 (au s) i:=by
 unfold Utf8.decode P9;simp only[XS,BM]
theorem NY (f:Rel c)(p:ar c e ea){l:Zd}(t:ev e x= .str l)(h:k (.it c.S.length l) (c.S++[.cells 1 Zb [.int .i64 0]])=O y):bn T (.range x) ea c.Z (jb c d k y):=by
 have g:=bl p x;rw[t]at g;obtain⟨s,r,q⟩:=g.str_inv;refine br (v:= .iface c.Z.n (.string s)) (Z':=c.Z.add ⟨[.int .i64 0],Za,1⟩) (by simp only[AOp.run,r]) ?_;refine jb.new (kill:=Y) f (OZ f (blk:= .cells 1 Zb [.int .i64 0]) (x:=⟨[.int .i64 0],Za,1⟩) (d:=(1,1)) rfl (aD _) rfl rfl (.cons (.int _ _) .nil)) (λ_ h=>by cases h) ?_ h;refine .it (by simp[rN]) rfl q λu _=>⟨c.Z.n, ?_,rfl⟩
 simp[vd]
theorem aA1 (f:Rel c)(h:k (.bld c.S.length) (c.S++[.cells 1 Zb [.str []]])=O y):bn T .newB ea c.Z (jb c d k y):=by
 refine br (v:= .iface c.Z.n .nilFunc) (Z':=c.Z.add ⟨[.string ByteArray.empty],Za,1⟩) (by simp only[AOp.run]) ?_;refine jb.new (kill:=Y) f (OZ f (blk:= .cells 1 Zb [.str []]) (x:=⟨[.string ByteArray.empty],Za,1⟩) (d:=(1,1)) rfl (aD _) rfl rfl (.cons (.str rfl) .nil)) (λ_ h=>by cases h) ?_ h;refine .bld (by simp[rN]) rfl λg _=>⟨c.Z.n, ?_,rfl⟩
 simp[vd]
theorem VRel.it_inv {q:Nat}{l:Zd}(h:VRel c (.it q l) a): ∃s,au s=l/\∀d,(ad c.S q).dim=O d->∃b,c.μ q=O b/\a= .iface b (.string s):=by
 cases h with
 |it _ _ g f=>exact⟨_,g,f⟩
theorem aA2 (t:Rel c)(U:ar c e ea)(Q: ∀q,zx (ev e x)=O q->q∈d)(h:ai5 c.S (ev e x) k=O y):bn T (.next x) ea c.Z (jb c d k y):=by
 have P:=bl U x;generalize ev e x=v at*;unfold ai5 at h;split at h
 .rename_i q l;split at h
  .rename_i es p r n;obtain⟨E,C⟩:=ap h;rw[cB]at E;have L:=of_decide_eq_true E.1;have V:=fD E.2;generalize u:ea.ev x=a at P;obtain⟨s,M,w⟩:=P.it_inv
   .skip
    obtain⟨b,K,rfl⟩:=w (es,(VV.int .i64 p::r).length) (by rw[n];rfl);obtain⟨D,cs,g,H,X,I,q5,J⟩:=t.block (k:=q) (d:=(es,(VV.int .i64 p::r).length)) (by rw[n];rfl) K;rw[n]at I J;simp only[Blk.vals]at J;cases J with
    |cons r1 r2=>
     rename_i c0 B;cases r1;have f:D.cells= .int .i64 p::(B++g):=q5;have W:s.size=l.length:=by rw[<-M,BM]
     by_cases A:p<l.length
     .rw[zB A,zC]at C
      have F:Writes c q b (.cells es Zb (.int .i64 (Uc l p)::r)) ⟨.int .i64 (Uc l p)::(B++g),Za,D.es⟩:=by
       refine⟨by rw[n];rfl,K,by rw[n];rfl,rfl,D, .int .i64 (Uc l p)::B,g,(es,_),H,by rw[n];rfl,X,rfl,by rw[f];rfl,rfl, .cons (.int _ _) r2⟩
      refine br (v:= .tuple #[.bool Za, .int .i64 p, .int .i32 (an7 l p)]) (Z':=c.Z.set b (O ⟨.int .i64 (Uc l p)::(B++g),Za,D.es⟩)) ?_ ⟨.tup [.bool Za, .int .i64 p, .int .i32 (an7 l p)],_,rfl,F.le t,F.rel t,F.calm t (Q q rfl), .tup (.cons (.bool _) (.cons (.int _ _) (.cons (.int _ _) .nil))),C⟩;simp only[AOp.run,u,H];rw[zE (I rfl),f];simp only[];rw[zE L,Zg,Pr,M];rfl
     .rw[zA A,zD]at C;refine br (v:= .tuple #[.bool Zb]) (Z':=c.Z) ?_ (jb.same t (.tup (.cons (.bool _) .nil)) C);simp only[AOp.run,u,H];rw[zE (I rfl),f];simp only[];rw[zE L,Zh]
  .cases h
 .cases h
theorem PR : ∀(n:Nat) (l:Zd),l.length<=n->(∀x∈(CE l).1,x∈l)/\(∀x∈(CE l).2,x∈l)
 |_,[],_=>⟨λx hx=>(by cases hx),λx hx=>by cases hx⟩
 |_,[a],_=>⟨λx hx=>(by cases hx),λx hx=>by cases hx⟩
 |0,a::b::r,h=>by simp at h
 |n+1,a::b::r,h=>by
  obtain⟨g,p⟩:=PR n r (by simp at h;omega);unfold CE;by_cases f:a=1
  .rw[zE f];refine⟨λx hx=> ?_,λx hx=> ?_⟩
   .rcases List.mem_cons.1 hx with rfl|hx
    .simp
    .exact aB _ (aB _ (g x hx))
   .exact aB _ (aB _ (p x hx))
  .rw[zF f];exact⟨λx hx=>(by cases hx),λx hx=>aB _ hx⟩
theorem Ix : ∀l:Zd,∀x∈(yw l).2,x∈l
 |[],x,f=>by cases f
 |a::r,x,f=>by
  unfold yw at f;by_cases g:a=1
  .rw[zE g]at f;exact aB _ (Ix r x f)
  .rw[zF g]at f;exact aB _ f
theorem PQ : ∀(n:Nat) (l:Zd),∀p∈PO n l,∀x∈p.1,x∈l
 |0,_,p,hp=>by cases hp
 |n+1,[],p,hp=>by cases hp
 |n+1,a::l,p,hp=>by
  obtain⟨f,g⟩:=PR _ (a::l) (aD _);unfold PO at hp;rcases List.mem_cons.1 hp with rfl|hp
  .exact f
  .exact λx h=>g x (Ix _ x (Ix _ x (PQ n _ p hp x h)))
theorem PU {k:Zd}{v:Int}(f: ∀x∈k,0<=x/\x<256): ∀l:List (Zd×Int),(∀p∈l,∀x∈p.1,0<=x/\x<256)->∀p∈GC k v l,∀x∈p.1,0<=x/\x<256
 |[],_,p,hp=>by
  have:p=(k,v):=by simpa[GC]using hp
  subst this;exact f
 |q::l,h,p,hp=>by
  unfold GC at hp;split at hp
  .rcases List.mem_cons.1 hp with rfl|hp
   .exact h q (eD ..)
   .exact h p (aB _ hp)
  .rcases List.mem_cons.1 hp with rfl|hp
   .exact h p (eD ..)
   .exact PU f l (λp hp=>h p (aB _ hp)) p hp
theorem XT (s key:ByteArray)(n:Int):au (GY (DN (au s) (au key) n))=DN (au s) (au key) n:=
 Ld _ (NM _ (PU (M8 key) _ λp f x g=>M8 s x (PQ _ _ p f x g)))
theorem KE {v:VV}{n:Nat->Nat->Bool->Zd->List VV->Option β}(h:Tn c.S kd v n=O y): ∃q es fz l r,v= .fn (WW kd) [] [.ptr q 0]/\ad c.S q= .cells es fz (.str l::r)/\n q es fz l r=O y:=by
 unfold Tn at h;split at h
 .rename_i f q;obtain⟨p,g⟩:=ap h;split at g
  .rename_i es fz l r t;exact⟨q,es,fz,l,r,by rw[Nat.eq_of_beq_eq_true p],t,g⟩
  .cases g
 .cases h
theorem NI {q es:Nat}{fz:Bool}{l:Zd}{r:List VV}(I:Rel c)(P:VRel c (.fn (WW kd) [] [.ptr q 0]) a)(B:ad c.S q= .cells es fz (.str l::r)):
  ∃b g s n rest,Lt kd a=O b/\c.μ q=O b/\c.Z.m b=O g/\g.es=es/\(fz=Zb->g.own=Za)/\g.cells= .string s::(n++rest)/\au s=l/\F2 (VRel c) r n:=by
 have f:(ad c.S q).dim=O (es,(VV.str l::r).length):=by rw[B];rfl
 obtain⟨b,t,J⟩: ∃b,c.μ q=O b/\Lt kd a=O b:=by
  cases P with
  |fn A p=>
   rename_i w D
   have E:w.toList=[]:=by cases h:w.toList with
    |nil=>rfl
    |cons x r=>rw[h]at A;cases A
   cases u:D.toList with
   |nil=>rw[u]at p;cases p
   |cons x r=>
    rw[u]at p;cases p with
    |cons F H=>
     cases H;cases F with
     |ptr _ _ K=>
      obtain⟨b,t,rfl⟩:=K _ f;refine⟨b,t, ?_⟩;unfold Lt;simp only[E,u,and_self,if_true]
 obtain⟨g,cs,rest,Q,U,C,V,v⟩:=I.block (k:=q) (d:=(es,(VV.str l::r).length)) f t;rw[B]at C v;simp only[Blk.vals]at v;cases v with
 |cons W X=>
  rename_i c0 n;obtain⟨s,M,L⟩:=W.str_inv;subst M;exact⟨b,g,s,n,rest,J,t,Q,U,C,V,L,X⟩
theorem ah4 (f:Rel c)(h:k (.fn (WW kd) [] [.ptr c.S.length 0]) (c.S++[.cells 1 Zb [.str []]])=O y):bn T (.makeM kd) ea c.Z (jb c d k y):=by
 refine br (v:=WX kd c.Z.n) (Z':=c.Z.add ⟨[.string ByteArray.empty],Za,1⟩) (by simp only[AOp.run]) ?_;refine jb.new (kill:=Y) f (OZ f (blk:= .cells 1 Zb [.str []]) (x:=⟨[.string ByteArray.empty],Za,1⟩) (d:=(1,1)) rfl (aD _) rfl rfl (.cons (.str rfl) .nil)) (λ_ h=>by cases h) ?_ h;refine .fn .nil (.cons (.ptr (by simp[rN]) rfl λg _=>⟨c.Z.n, ?_,rfl⟩) .nil);simp[vd]
theorem ag9 (g:Rel c)(n:ar c e ea){f:Bool}{i:Operand}{key:Zd}(E:ev e i= .str key)(h:(Tn c.S kd (ev e x) λ_ _ _ l _=>k (cond f (.tup [.int kd ((H7 l key).getD 0), .bool (H7 l key).isSome]) (.int kd ((H7 l key).getD 0))) c.S)=O y):bn T (.lookM kd f x i) ea c.Z (jb c d k y):=by
 have t:=bl n x;have p:=bl n i;rw[E]at p;obtain⟨F,w,A⟩:=p.str_inv;obtain⟨q,M,P,l,r,B,C,D⟩:=KE h;rw[B]at t;obtain⟨b,X,s,L,u,H,Q,I,U,V,J,K,W⟩:=NI g t C;refine br (v:=WS kd f s F) (Z':=c.Z) (by simp only[AOp.run,H,w,I,J]) (jb.same g ?_ D);unfold WS;rw[K,A];cases f
 .exact .int _ _
 .exact .tup (.cons (.int _ _) (.cons (.bool _) .nil))
theorem ay8 (f:Rel c)(w:ar c e ea)(h:(Tn c.S kd (ev e x) λ_ _ _ l _=>k (.int .i64 (PS l)) c.S)=O y):bn T (.lenM kd x) ea c.Z (jb c d k y):=by
 have g:=bl w x;obtain⟨q,F,H,l,r,p,t,u⟩:=KE h;rw[p]at g;obtain⟨b,M,s,E,n,A,I,B,J,K,C,D,L⟩:=NI f g t;refine br (v:= .int .i64 (PS (au s))) (Z':=c.Z) (by simp only[AOp.run,A,B,C]) (jb.same f ?_ u);rw[D];exact .int _ _
theorem aF7 (p:Rel c)(A:ar c e ea){L:IntKind}{i v:Operand}{key:Zd}{n:Int}(hk:ev e i= .str key)(hn:ev e v= .int L n)(hd: ∀q,aI3 (ev e x)=O q->q∈d)
  (h:(Tn c.S kd (ev e x) λq es fz l r=>gd (Zc (L=kd)&& !fz) (k .undef (i9 c.S q (.cells es Zb (.str (DN l key n)::r)))))=O y):bn T (.updM kd x i v) ea c.Z (jb c d k y):=by
 have K:=bl A x;have I:=bl A i;have J:=bl A v;rw[hk]at I;rw[hn]at J;obtain⟨E,Q,U⟩:=I.str_inv;have V:=J.int_inv;obtain⟨q,es,fz,l,r,H,g,W⟩:=KE h;obtain⟨u,X⟩:=ap W;rw[cB]at u;have C:=of_decide_eq_true u.1;have B:fz=Zb:=by simpa using u.2
 subst C B;rw[H]at K;have w:=hd q (by rw[H];rfl);obtain⟨b,F,s,t,f,m1,m2,M,m4,m5,P,m7,m8⟩:=NI p K g
 have D:Writes c q b (.cells es Zb (.str (DN l key n)::r)) ⟨.string (GY (DN (au s) (au E) n))::(t++f),Za,F.es⟩:=by
  refine⟨by rw[g];rfl,m2,by rw[g];rfl,rfl,F, .string (GY (DN (au s) (au E) n))::t,f,(es,_),M,by rw[g];rfl,m4,rfl,by rw[P];rfl,rfl, .cons (.str ?_) m8⟩;rw[XT,m7,U]
 refine br (v:=undef) (Z':=c.Z.set b (O ⟨.string (GY (DN (au s) (au E) n))::(t++f),Za,F.es⟩)) ?_ ⟨.undef,_,rfl,D.le p,D.rel p,D.calm p w, .undef _,X⟩;simp only[AOp.run,m1,Q,V,M,P];rw[zE trivial,zE (m5 rfl)]
theorem av7 (q:Rel c)(r:ar c e ea){n:Int}(f:Jo (ev e x)=O n)(h:k (.str (Ov n)) c.S=O y):bn T (.encR x) ea c.Z (jb c d k y):=by
 have p:=bl r x
 have g:af3 (ea.ev x)=O n:=by
  generalize ea.ev x=a at p;generalize ev e x=v at*;cases p<;>simp only[Jo]at f<;>first|(cases f;done)|exact f
 refine br (v:= .string (Utf8.encode n)) (Z':=c.Z) ?_ (jb.same q (.str rfl) h);simp only[AOp.run,g,bD]
theorem Tb : ∀{cs:List VV} {as:List Value} {l:Zd},zM .u8 cs=O l->F2 (VRel c) cs as->Db as=O l
 |[],_,l,h,f=>by
  cases f;injection h with h
  subst h;rfl
 |v::cs,_,l,h,f=>by
  cases f with
  |cons q t=>
   cases v with
   |int u n=>
    unfold zM at h;by_cases p:u= .u8
    .subst p;rw[zB rfl,zC]at h;cases g:zM .u8 cs with
     |none=>rw[g]at h;cases h
     |some r=>
      rw[g]at h;injection h with h
      subst h;cases q;unfold Db;rw[Tb g t];rfl
    .rw[zA p]at h;cases h
   |_=>cases h
theorem Np : ∀{l:Zd} {as:List Value},F2 (VRel c) (gm (.int .u8) l) as->Db as=O l
 |[],_,f=>by cases f;rfl
 |n::l,_,f=>by
  cases f with
  |cons g h=>
   cases g;unfold Db;rw[Np (l:=l) h];rfl
theorem aR1 (l:Zd):au (GY l)=l.map M7:=by
 have f: ∀(l:Zd) (s:ByteArray),au (l.foldl (λr n=>r.push (UInt8.ofNat n.toNat)) s)=au s++l.map M7:=by
  intro l;induction l with
  |nil=>intro s;simp
  |cons n l g=>
   intro s;rw[cD,g,List.map_cons]
   have:au (s.push (UInt8.ofNat n.toNat))=au s++[M7 n]:=by
    simp[au,M7,ByteArray.push]
   rw[this,bB];rfl
 have:=f l ByteArray.empty;simpa[GY,au]using this
theorem ap0 (L:Rel c)(he:ar c e ea)(h:VZ c.S (ev e x) k=O y):bn T (.strOf x) ea c.Z (jb c d k y):=by
 have P:=bl he x
 have w: ∀(m:More) (l:Zd),(∀t,ev e x≠ .str t)->kq c.S 1 (ev e x)=O m->(∀as,F2 (VRel c) m.cellsOf as->Db as=O l)->k (.str (l.map M7)) c.S=O y->bn T (.strOf x) ea c.Z (jb c d k y):=by
  intro m l g f X hk;obtain⟨n,C,K,U,h3,V,_⟩:=yv L f P;have D:=U n (aD _);rw[Nat.mul_one,fB (by omega)]at D;have W:=X C V
  obtain⟨p,J,M⟩: ∃p J,ea.ev x= .slice p n J:=by
   generalize ea.ev x=a at*;cases a<;>simp[FK]at K
   .generalize ev e x=v at*
    have u: ∀q,(kq c.S 1 (.full q)=O m∨∃o n,kq c.S 1 (.part q o n)=O m)->∃d,(ad c.S q).dim=O d:=by
     intro q A;cases hg:ad c.S q with
     |dead=>rcases A with A|⟨_,_,A⟩<;>simp[kq,hg]at A
     |cells es z l=>exact⟨_,rfl⟩
     |arr s z l=>exact⟨_,rfl⟩
    cases P with
    |str _=>exact(g _ rfl).elim
    |undef=>simp[kq]at f
    |ptr _ _ _=>simp[kq]at f
    |it _ _ _ _=>simp[kq]at f
    |bld _ _ _=>simp[kq]at f
    |pix _ _ _ _=>simp[kq]at f
    |pel _ _ _=>simp[kq]at f
    |tgtn _=>simp[kq]at f
    |full _ _ F=>
     obtain⟨d,r⟩:=u _ (.inl f);obtain⟨_,_,B⟩:=F d r;rcases B with⟨e,_⟩|⟨_,_,_,e,_⟩<;>cases e
    |part _ _ F=>
     obtain⟨d,r⟩:=u _ (.inr ⟨_,_,f⟩);rcases F d r with⟨e,_⟩|⟨_,_,_,e,_⟩<;>cases e
   .subst K;exact⟨_,_,rfl⟩
  refine br (v:= .string (GY l)) (Z':=c.Z) ?_ (jb.same L (.str (aR1 l)) hk);rw[M]at D;simp only[AOp.run,M,D,W,bD]
 unfold VZ at h;split at h
 .cases h
 .rename_i g;split at h
  .rename_i s l f;by_cases B:s= .int .u8
   .subst B;rw[pW]at h;exact w _ l (λt I=>g t I) f (λas E=>Np E) h
   .unfold qD at h;rw[dif_neg (λe=>B (by injection e))]at h;cases h
  .rename_i Q f;cases H:zM .u8 Q with
   |none=>rw[H]at h;cases h
   |some l=>
    rw[H]at h;exact w _ l (λt I=>g t I) f (λas E=>Tb H E) h
  .cases h
theorem PE : ∀{cs:List VV} {as:List Value} {l:Zd},zM .i32 cs=O l->F2 (VRel c) cs as->Dh as=O l
 |[],_,l,h,f=>by
  cases f;injection h with h
  subst h;rfl
 |v::cs,_,l,h,f=>by
  cases f with
  |cons q t=>
   cases v with
   |int u n=>
    unfold zM at h;by_cases p:u= .i32
    .subst p;rw[zB rfl,zC]at h;cases g:zM .i32 cs with
     |none=>rw[g]at h;cases h
     |some r=>
      rw[g]at h;injection h with h
      subst h;cases q;unfold Dh;rw[PE g t];rfl
    .rw[zA p]at h;cases h
   |_=>cases h
theorem Nq : ∀{l:Zd} {as:List Value},F2 (VRel c) (gm (.int .i32) l) as->Dh as=O l
 |[],_,f=>by cases f;rfl
 |n::l,_,f=>by
  cases f with
  |cons g h=>
   cases g;unfold Dh;rw[Nq (l:=l) h];rfl
theorem aR2 (l:Zd):au (V0 l)=l.flatMap Ov:=by
 have f: ∀(l:Zd) (s:ByteArray),au (l.foldl (λr n=>r++Utf8.encode n) s)=au s++l.flatMap Ov:=by
  intro l;induction l with
  |nil=>intro s;simp
  |cons n l g=>
   intro s;rw[cD,g,List.flatMap_cons,M9,bB];rfl
 have:=f l ByteArray.empty;simpa[V0,au]using this
theorem aF2 (L:Rel c)(he:ar c e ea)(h:ap3 c.S (ev e x) k=O y):bn T (.strOfR x) ea c.Z (jb c d k y):=by
 have P:=bl he x
 have w: ∀(m:More) (l:Zd),(∀t,ev e x≠ .str t)->kq c.S 1 (ev e x)=O m->(∀as,F2 (VRel c) m.cellsOf as->Dh as=O l)->k (.str (l.flatMap Ov)) c.S=O y->bn T (.strOfR x) ea c.Z (jb c d k y):=by
  intro m l g f X hk;obtain⟨n,C,K,U,h3,V,_⟩:=yv L f P;have D:=U n (aD _);rw[Nat.mul_one,fB (by omega)]at D;have W:=X C V
  obtain⟨p,J,M⟩: ∃p J,ea.ev x= .slice p n J:=by
   generalize ea.ev x=a at*;cases a<;>simp[FK]at K
   .generalize ev e x=v at*
    have u: ∀q,(kq c.S 1 (.full q)=O m∨∃o n,kq c.S 1 (.part q o n)=O m)->∃d,(ad c.S q).dim=O d:=by
     intro q A;cases hg:ad c.S q with
     |dead=>rcases A with A|⟨_,_,A⟩<;>simp[kq,hg]at A
     |cells es z l=>exact⟨_,rfl⟩
     |arr s z l=>exact⟨_,rfl⟩
    cases P with
    |str _=>exact(g _ rfl).elim
    |undef=>simp[kq]at f
    |ptr _ _ _=>simp[kq]at f
    |it _ _ _ _=>simp[kq]at f
    |bld _ _ _=>simp[kq]at f
    |pix _ _ _ _=>simp[kq]at f
    |pel _ _ _=>simp[kq]at f
    |tgtn _=>simp[kq]at f
    |full _ _ F=>
     obtain⟨d,r⟩:=u _ (.inl f);obtain⟨_,_,B⟩:=F d r;rcases B with⟨e,_⟩|⟨_,_,_,e,_⟩<;>cases e
    |part _ _ F=>
     obtain⟨d,r⟩:=u _ (.inr ⟨_,_,f⟩);rcases F d r with⟨e,_⟩|⟨_,_,_,e,_⟩<;>cases e
   .subst K;exact⟨_,_,rfl⟩
  refine br (v:= .string (V0 l)) (Z':=c.Z) ?_ (jb.same L (.str (aR2 l)) hk);rw[M]at D;simp only[AOp.run,M,D,W,bD]
 unfold ap3 at h;split at h
 .cases h
 .rename_i g;split at h
  .rename_i s l f;by_cases B:s= .int .i32
   .subst B;rw[pW]at h;exact w _ l (λt I=>g t I) f (λas E=>Nq E) h
   .unfold qD at h;rw[dif_neg (λe=>B (by injection e))]at h;cases h
  .rename_i Q f;cases H:zM .i32 Q with
   |none=>rw[H]at h;cases h
   |some l=>
    rw[H]at h;exact w _ l (λt I=>g t I) f (λas E=>PE H E) h
  .cases h
theorem Ud (s:ByteArray): ∀(b i:Nat) (f:Array Value),(Conv.runesFrom s b i f).toList=f.toList++(Oc b (au s) i).map (Value.int .i32)
 |0,i,f=>by simp[Conv.runesFrom,Oc]
 |b+1,i,f=>by
  unfold Conv.runesFrom Oc;rw[BM];by_cases h:i<s.size
  .rw[zE h,zE h,Ud s b];simp only[Array.toList_push,bB,List.map_cons,Pr];rfl
  .rw[zF h,zF h];simp
theorem YM (s:ByteArray):qE s=(IH (au s)).map (Value.int .i32):=by
 unfold qE IH;rw[Ud,BM];rfl
theorem Pz (k:IntKind): ∀l:Zd,F2 (VRel c) (gm (.int k) l) (l.map (Value.int k))
 |[]=> .nil
 |n::l=> .cons (.int k n) (Pz k l)
theorem az6 (D:Rel c)(P:ar c e ea)(h:ah6 c.S (ev e x) k=O y):bn T (.mark x) ea c.Z (jb c d k y):=by
 have t:=bl P x;unfold ah6 at h;split at h
 .rename_i q W;split at h
  .rename_i C u r E;have L:=h;have A:(ad c.S q).frozen=Zb:=by rw[E];rfl
   have F:(ad c.S q).dim=O (C,(u::r).length):=by rw[E];rfl
   rw[W]at t;generalize w:ea.ev x=a at t;have B:=t;cases t with
   |full hk ho f=>
    obtain⟨n,g,V⟩:=f _ F;rcases V with⟨_,_,_,_,K⟩|⟨b,J,y0,rfl,U,Q,M,hy,H⟩
    .simp at K
    .obtain⟨y1,cs,I,X,q3,q4,q5,q6⟩:=D.block F U;have p:0<n:=Nat.pos_of_ne_zero (λe=>by subst e;rw[Nat.zero_mul]at g;simp at g);refine br (v:= .slice (O ⟨b,0*C,Y⟩) n J) (Z':=c.Z) ?_ (jb.same D B L);simp only[AOp.run,w];rw[zE p,X];simp only[q4 A,if_true]
  .cases h
 .cases h
theorem an8 (p:Rel c)(D:ar c e ea)(h:VP c.S (ev e x) k=O y):bn T (.runesOf x) ea c.Z (jb c d k y):=by
 have B:=bl D x;unfold VP at h;split at h
 .rename_i l f;obtain⟨t,E⟩:=ap h;have t:=fD t;rw[f]at B;obtain⟨s,F,u⟩:=B.str_inv;have H:s.size=l.length:=by rw[<-u,BM]
  have g:=YM s;rw[u]at g;refine br (v:= .slice (O ⟨c.Z.n,0,Y⟩) (qE s).length (qE s).length) (Z':=c.Z.add ⟨qE s,Za,1⟩) ?_ ?_
  .simp only[AOp.run,F];rw[Zg]
  .have A:(qE s).length=(IH l).length:=by rw[g,List.length_map]
   have r:Moves c Y (O c.Z.n) (.arr (.int .i32) Zb (IH l)) (c.Z.add ⟨qE s,Za,1⟩):=by
    refine⟨(λb h _ C=>by injection h with h;subst h;exact Nat.lt_irrefl _ (p.fbl _ C)),(λ_ h=>by cases h),λq x f=> ?_,Nat.le_succ _,λi x f _=> ?_,(1,(IH l).length*1),rfl,aD _, .inr ⟨c.Z.n,⟨qE s,Za,1⟩,qE s,[],rfl,zE rfl,rfl,λ_=>rfl,(List.append_nil _).symm,by rw[g];exact Pz _ _, .inl λw I=> ?_⟩⟩
    .simp only[Hp.add]at f⊢;split at f
     .omega
     .have:=p.ok q x f;omega
    .have:=p.ok i x f;simp only[Hp.add];rw[Zh];exact f
    .have:=p.ok _ _ I;omega
   refine jb.new (kill:=Y) p r (λ_ h=>by cases h) (zN (dm:=(1,(IH l).length*1)) (n:=(qE s).length) (m:=(qE s).length) (yb:=⟨qE s,Za,1⟩) rfl (by simp only;omega) (aD _) (zE rfl) ?_) E;simp
 .cases h
end
end
section
open Bool renaming and_eq_true -> cB
open List renaming append_assoc -> aD, singleton_append -> bD, mem_cons_of_mem -> cD, getElem?_eq_none -> dD, length_take -> eD, take_of_length_le -> fB
open Nat renaming beq -> aB, eq_of_beq_eq_true -> bB, lt_or_ge -> dB
structure Still (c ct:Ctx):Prop where
 Z:ct.Z=c.Z
 nm: ∀b y,c.Z.m b=O y->¬c.mut b->¬ct.mut b
section
variable {c ct:Ctx}
theorem vi (h:Still c ct): ∀(s:Sh) (x:El s) (as:List Value),F2 (VRel c) (dx s x) as->F2 (VRel ct) (dx s x) as
 | .int k,n,as,f=>by
  cases f with
  |cons g q=>cases q;cases g;exact .cons (.int _ _) .nil
 | .bool,b,as,f=>by
  cases f with
  |cons g q=>cases q;cases g;exact .cons (.bool _) .nil
 | .str,l,as,f=>by
  cases f with
  |cons g q=>cases q;cases g;exact .cons (.str (by assumption)) .nil
 | .list s,l,as,f=>by
  cases f with
  |cons g q=>
   cases q;refine .cons ?_ .nil;cases g with
   |lstn I=>exact .lstn I
   |lst E v D A B C r=>
    refine .lst (h.nm _ _ v E) (by rw[h.Z];exact v) D A B C ?_;clear v D B C E;subst A;revert r;rename_i b p H y;generalize (y.cells.drop _).take _=as;clear y H p b;intro r;induction l generalizing as with
    |nil=>cases r;exact .nil
    |cons x l J=>
     rw[jd]at r⊢;obtain⟨w,F,rfl,t,u⟩:=F2.app_left r;exact(vi h s x w t).append (J _ u)
 | .pair a b,x,as,f=>by
  simp only[dx]at f⊢;obtain⟨w,F,rfl,t,u⟩:=F2.app_left f;exact(vi h a x.1 w t).append (vi h b x.2 F u)
theorem Lo (h:Still c ct){l:List (El s)}: ∀{as:List Value},F2 (VRel c) (gm s l) as->F2 (VRel ct) (gm s l) as:=by
 induction l with
 |nil=>intro as f;cases f;exact .nil
 |cons x l p=>
  intro as f;rw[jd]at f⊢;obtain⟨q,r,rfl,g,n⟩:=F2.app_left f;exact(vi h s x q g).append (p n)
theorem BC.still (h:Still c ct){l:List (El s)}(v:BC c s l a):BC ct s l a:=by
 rcases v with f|⟨b,p,g,y,f,n,q,r,t,u⟩
 .exact .inl f
 .exact .inr ⟨b,p,g,y,f,by rw[h.Z];exact n,q,r,t,Lo h u⟩
structure Sub (st st':DSt):Prop where
 m: ∃t,st'.m=st.m++t
 lent: ∀k∈st.lent,k∈st'.lent
theorem Sub.refl (st:DSt):Sub st st:=⟨⟨[],by simp⟩,λ_ h=>h⟩
theorem Sub.trans {a b d:DSt}(h:Sub a b)(k:Sub b d):Sub a d:=by
 obtain⟨t,f⟩:=h.m;obtain⟨u,g⟩:=k.m;exact⟨⟨t++u,by rw[g,f,aD]⟩,λi n=>k.lent i (h.lent i n)⟩
def FY (N:Nat)(m:List (Option Src))(j:Nat)(x:Option Src):Prop:=(j<N/\x=O ⟨j,Y⟩)∨(N<=j/\nth m (j-N)=O x)
theorem Jx {α:Type}{l t:List α}{x:α}(h:nth l i=O x):nth (l++t) i=O x:=by
 rw[Ap]at h⊢
 have f:i<l.length:=by
  rcases dB i l.length with h1|h1
  .exact h1
  .rw[dD h1]at h;cases h
 rw[List.getElem?_append_left f];exact h
theorem FY.sub {f:DSt}(q:Sub st f){x:Option Src}(h:FY N st.m j x):FY N f.m j x:=by
 rcases h with h|⟨g,n⟩
 .exact .inl h
 .obtain⟨t,p⟩:=q.m;exact .inr ⟨g,by rw[p];exact Jx n⟩
theorem CB {g:DSt}{x:Option Src}(h:st.link N j x=O g):FY N g.m j x/\g.ls=st.ls/\g.lent=st.lent/\Sub st g:=by
 unfold DSt.link at h;cases n:Nat.blt j N with
 |true=>
  rw[n,zC]at h;split at h
  .rename_i k;cases f:aB k j with
   |false=>rw[f]at h;cases h
   |true=>
    rw[f]at h;injection h with h
    subst h;have:=bB f;subst this;exact⟨.inl ⟨Nat.le_of_ble_eq_true n,rfl⟩,rfl,rfl,Sub.refl _⟩
  .cases h
 |false=>
  rw[n,zD]at h
  have p:N<=j:=by
   rcases dB j N with h1|h1
   .rw[show Nat.blt j N=Za from Nat.ble_eq_true_of_le h1]at n;cases n
   .exact h1
  split at h
  .rename_i k q;split at h
   .rename_i r;cases f:aB k r with
    |false=>rw[f]at h;cases h
    |true=>
     rw[f]at h;injection h with h
     subst h;have:=bB f;subst this;exact⟨.inr ⟨p,q⟩,rfl,rfl,Sub.refl _⟩
   .cases h
  .cases h
  .rename_i q;cases f:aB (j-N) st.m.length with
   |false=>rw[f]at h;cases h
   |true=>
    rw[f]at h;injection h with h
    subst h;have:=bB f;refine⟨.inr ⟨p, ?_⟩,rfl,rfl,⟨⟨[x],rfl⟩,λ_ h=>h⟩⟩;rw[Ap,this];simp
def Lk (c ct:Ctx)(x:Option Src)(g:Nat):Prop:=g<ct.S.length/\∀f,(ad ct.S g).dim=O f->match x with
 |none=>f.2=0/\ct.μ g=Y
 |some ⟨k,h⟩=> ∃d,(ad c.S k).dim=O d/\f.1=d.1/\ct.μ g=c.μ k/\(match h with
  |none=>f.2=d.2
  |some n=>f.2=min (n*d.1) d.2)
structure Tell (c ct:Ctx)(N:Nat)(f:Nat->Nat)(stf:DSt):Prop extends Still c ct where
 lk: ∀j x,FY N stf.m j x->Lk c ct x (f j)
 lent: ∀k,k∈stf.lent->(ad c.S k).dim≠Y->∀b,c.μ k=O b->¬ct.mut b
theorem IN.tell {u n:Nat}{d:Nat×Nat}{d2':Nat}(B:ct.Z=c.Z)(t:ct.μ u=c.μ k)(p:d2'=n*d.1)(h:IN c k 0 n d a):IN ct u 0 n (d.1,d2') a:=by
 rcases h with⟨g,_,f,q,r⟩|⟨b,v,y,g,f,q,r,w,A⟩
 .exact .inl ⟨g,rfl,f,t.trans q,by rw[p,f];simp⟩
 .exact .inr ⟨b,v,y,g,t.trans f,by rw[p,Nat.zero_add];exact Nat.le_refl _,r,by rw[B];exact w,A⟩
theorem X0 {f:Nat->Nat}(H:Rel c)(t:Tell c ct N f stf){v:VV}{l:List (El s)}(h:WQ c.S s v=O l)(J:VRel c v a)(I: ∀k,Kz v=O k->k∈stf.lent):VRel ct (.lst s l) a:=by
 obtain⟨u,D⟩:=ag5 H h J;refine(u.still t.toStill).rel λb p n A e w=> ?_
 rcases D b p n A e w with r|⟨k,r,E,F⟩
 .rcases u with⟨q,g,_⟩|⟨K,L,B,y,g,C,_⟩
  .rw[g]at e;injection e with _ _ e
   exact(w e.symm).elim
  .rw[g]at e;injection e with e _ _
   injection e with e
   injection e with e
   subst e;exact t.nm _ _ C r
 .exact t.lent k (I k r) E b F
theorem PH {st:DSt}{v:VV}:(∀k,Kz v=O k->k∈(st.lend v).lent)/\(st.lend v).m=st.m/\(st.lend v).ls=st.ls/\(∀k∈st.lent,k∈(st.lend v).lent):=by
 cases v<;>refine⟨λk h=> ?_,rfl,rfl,λk h=> ?_⟩<;>first|(cases h;done)|(injection h with h;subst h;exact List.mem_cons_self)|exact cD _ h|exact h
mutual
theorem au9 {S:ah}{N:Nat}: ∀(sk:Sk) (v:VV) (st st1:DSt),Kk S N sk v st=O st1->Sub st st1
 | .undef,v,st,st1,h=>by
  simp only[Kk]at h;injection h with h;subst h;exact Sub.refl _
 | .leaf s,v,st,st1,h=>by
  simp only[Kk]at h;split at h
  .rename_i k k' n;cases hk:Zc (k'=k)with
   |false=>rw[hk]at h;cases h
   |true=>rw[hk]at h;injection h with h;subst h;exact⟨⟨[],by simp[DSt.push]⟩,λ_ h=>h⟩
  .injection h with h;subst h;exact⟨⟨[],by simp[DSt.push]⟩,λ_ h=>h⟩
  .injection h with h;subst h;exact⟨⟨[],by simp[DSt.push]⟩,λ_ h=>h⟩
  .rename_i s;obtain⟨l,h1,h2⟩:=ag h;injection h2 with h2;subst h2
   obtain⟨_,h4,_,h6⟩:= @PH st v;exact⟨⟨[],by simp[DSt.push,h4]⟩,h6⟩
  .cases h
 | .cint k n,v,st,st1,h=>by
  cases v<;>simp only[Kk]at h<;>try(cases h;done)
  rename_i k' n';cases hk:(Zc (k'=k)&&Zc (n'=n))with
  |false=>rw[hk]at h;cases h
  |true=>rw[hk]at h;injection h with h;subst h;exact Sub.refl _
 | .nilp,v,st,st1,h=>by
  cases v<;>simp only[Kk]at h<;>try(cases h;done)
  injection h with h;subst h;exact Sub.refl _
 | .nils,v,st,st1,h=>by
  cases v<;>simp only[Kk]at h<;>try(cases h;done)
  injection h with h;subst h;exact Sub.refl _
 | .nilf,v,st,st1,h=>by
  cases v<;>simp only[Kk]at h<;>try(cases h;done)
  injection h with h;subst h;exact Sub.refl _
 | .ptr j o,v,st,st1,h=>by
  cases v<;>simp only[Kk]at h<;>try(cases h;done)
  rename_i k o';cases hk:aB o o' with
  |false=>rw[hk]at h;cases h
  |true=>rw[hk,zC]at h;exact(CB h).2.2.2
 | .full j,v,st,st1,h=>by
  simp only[Kk]at h;split at h
  .exact(CB h).2.2.2
  .exact(CB h).2.2.2
  .exact(CB h).2.2.2
  .cases h
 | .pin s o,v,st,st1,h=>by
  cases v<;>simp only[Kk]at h<;>try(cases h;done)
  rename_i s' x o';cases hk:aB o o' with
  |false=>rw[hk]at h;cases h
  |true=>
   rw[hk]at h;obtain⟨y,h1,h2⟩:=ag h;injection h2 with h2;subst h2;exact⟨⟨[],by simp[DSt.push]⟩,λ_ h=>h⟩
 | .fn g a b,v,st,st1,h=>by
  cases v<;>simp only[Kk]at h<;>try(cases h;done)
  rename_i g' a' b';cases hk:aB g g' with
  |false=>rw[hk]at h;cases h
  |true=>
   rw[hk]at h;obtain⟨st2,h1,h2⟩:=ag h;exact(xw a a' st st2 h1).trans (xw b b' st2 st1 h2)
 | .agg l,v,st,st1,h=>by
  cases v<;>simp only[Kk]at h<;>try(cases h;done)
  exact xw l _ st st1 h
 | .tup l,v,st,st1,h=>by
  cases v<;>simp only[Kk]at h<;>try(cases h;done)
  exact xw l _ st st1 h
theorem xw {S:ah}{N:Nat}: ∀(l:List Sk) (vs:List VV) (st st1:DSt),Ip S N l vs st=O st1->Sub st st1
 |[],vs,st,st1,h=>by
  cases vs<;>simp only[Ip]at h<;>try(cases h;done)
  injection h with h;subst h;exact Sub.refl _
 |k::r,vs,st,st1,h=>by
  cases vs with
  |nil=>simp only[Ip]at h;cases h
  |cons v vs=>
   simp only[Ip]at h;obtain⟨st2,h1,h2⟩:=ag h;exact(au9 k v st st2 h1).trans (xw r vs st2 st1 h2)
end
theorem X8 {f:Nat->Nat}(t:Tell c ct N f stf)(D:FY N stf.m j (O ⟨k,Y⟩))(F:VRel c (.full k) a):VRel ct (.full (f j)) a:=by
 obtain⟨u,v⟩:=t.lk _ _ D;cases F with
 |full H E C=>
  refine .full u E λp h=> ?_
  obtain⟨d,w,q,A,g⟩:=v p h;obtain⟨n,r,B⟩:=C d w;simp only at g;refine⟨n,by rw[q,g];exact r, ?_⟩;have:=B.tell t.Z A (d2':=p.2) (by rw[g,r]);rw[<-q]at this;exact this
theorem ad7 {f:Nat->Nat}(t:Tell c ct N f stf){n:Nat}(C:FY N stf.m j (O ⟨k,O n⟩))(E:VRel c (.part k 0 n) a):VRel ct (.full (f j)) a:=by
 obtain⟨v,w⟩:=t.lk _ _ C;cases E with
 |part F D u=>
  refine .full v D λp h=> ?_
  obtain⟨d,q,r,A,g⟩:=w p h;simp only at g
  have B:n*d.1<=d.2:=by
   rcases u d q with⟨_,_,e,_,_⟩|⟨_,_,_,_,_,e,_⟩
   .rw[e];simp
   .rwa [Nat.zero_add]at e
  rw[Nat.min_eq_left B]at g;refine⟨n,by rw[r,g], ?_⟩;have:=(u d q).tell t.Z A (d2':=p.2) g;rw[<-r]at this;exact this
theorem ai6 {f:Nat->Nat}(t:Tell c ct N f stf)(u:FY N stf.m j Y):VRel ct (.full (f j)) (.slice Y 0 0):=by
 obtain⟨p,q⟩:=t.lk _ _ u;refine .full p rfl λn g=> ?_
 obtain⟨h,r⟩:=q n g;exact⟨0,by rw[h];simp, .inl ⟨rfl,rfl,rfl,r,h⟩⟩
mutual
theorem av0 {N:Nat}{f:Nat->Nat}{stf:DSt}(hR:Rel c)(hT:Tell c ct N f stf): ∀(sk:Sk) (v:VV) (st st1:DSt) (a:Value),Kk c.S N sk v st=O st1->Sub st1 stf->VRel c v a->
  ∃new,st1.ls=st.ls++new/\∀rest,∃v',enc f sk (new++rest)=O (v',rest)/\VRel ct v' a
 | .undef,v,st,st1,a,h,hs,hv=>by
  simp only[Kk]at h;injection h with h;subst h
  exact⟨[],by simp,λrest=>⟨.undef,by simp[enc], .undef _⟩⟩
 | .leaf s,v,st,st1,a,h,hs,hv=>by
  simp only[Kk]at h;split at h
  .rename_i k k' n;cases hk:Zc (k'=k)with
   |false=>rw[hk]at h;cases h
   |true=>
    rw[hk]at h;injection h with h;subst h
    have:=of_decide_eq_true hk;subst this;refine⟨[⟨.int k',n⟩],rfl,λrest=>⟨.int k' n, ?_, ?_⟩⟩
    .simp only[bD,enc,pW,zG]
    .rw[hv.int_inv];exact .int _ _
  .rename_i b;injection h with h;subst h
   refine⟨[⟨.bool,b⟩],rfl,λrest=>⟨.bool b, ?_, ?_⟩⟩
   .simp only[bD,enc,pW,zG]
   .rw[hv.bool_inv];exact .bool _
  .rename_i l;injection h with h;subst h
   refine⟨[⟨.str,l⟩],rfl,λrest=>⟨.str l, ?_, ?_⟩⟩
   .simp only[bD,enc,pW,zG]
   .obtain⟨s,h1,h2⟩:=hv.str_inv;rw[h1];exact .str h2
  .rename_i s;obtain⟨l,h1,h2⟩:=ag h;injection h2 with h2;subst h2
   obtain⟨h3,h4,h5,h6⟩:= @PH st v;refine⟨[⟨.list s,l⟩],by simp[DSt.push,h5],λrest=>⟨.lst s l, ?_, ?_⟩⟩
   .simp only[bD,enc,pW,zG]
   .exact X0 hR hT h1 hv λk hk=>hs.lent k (h3 k hk)
  .cases h
 | .cint k n,v,st,st1,a,h,hs,hv=>by
  cases v<;>simp only[Kk]at h<;>try(cases h;done)
  rename_i k' n';cases hk:(Zc (k'=k)&&Zc (n'=n))with
  |false=>rw[hk]at h;cases h
  |true=>
   rw[hk]at h;injection h with h;subst h
   rw[cB]at hk;have e1:=of_decide_eq_true hk.1;have e2:=of_decide_eq_true hk.2;subst e1;subst e2;refine⟨[],by simp,λrest=>⟨.int k' n',by simp[enc], ?_⟩⟩;rw[hv.int_inv];exact .int _ _
 | .nilp,v,st,st1,a,h,hs,hv=>by
  cases v<;>simp only[Kk]at h<;>try(cases h;done)
  injection h with h;subst h
  cases hv;exact⟨[],by simp,λrest=>⟨.nilp,by simp[enc], .nilp⟩⟩
 | .nils,v,st,st1,a,h,hs,hv=>by
  cases v<;>simp only[Kk]at h<;>try(cases h;done)
  injection h with h;subst h
  cases hv;exact⟨[],by simp,λrest=>⟨.nils,by simp[enc], .nils⟩⟩
 | .nilf,v,st,st1,a,h,hs,hv=>by
  cases v<;>simp only[Kk]at h<;>try(cases h;done)
  injection h with h;subst h
  cases hv;exact⟨[],by simp,λrest=>⟨.nilf,by simp[enc], .nilf⟩⟩
 | .ptr j o,v,st,st1,a,h,hs,hv=>by
  cases v<;>simp only[Kk]at h<;>try(cases h;done)
  rename_i k o';cases hk:aB o o' with
  |false=>rw[hk]at h;cases h
  |true=>
   rw[hk,zC]at h;have:=bB hk;subst this;obtain⟨h1,h2,h3,h4⟩:=CB h;obtain⟨h5,h6⟩:=hT.lk _ _ (h1.sub hs);refine⟨[],by simp[h2],λrest=>⟨.ptr (f j) o,by simp[enc], ?_⟩⟩;cases hv with
   |ptr hk ho hd=>
    refine .ptr h5 ho λd' hd'=> ?_
    obtain⟨d,h7,_,h8,_⟩:=h6 d' hd';obtain⟨b,h9,h10⟩:=hd d h7;exact⟨b,h8.trans h9,h10⟩
 | .full j,v,st,st1,a,h,hs,hv=>by
  simp only[Kk]at h;split at h
  .obtain⟨h1,h2,h3,h4⟩:=CB h;exact⟨[],by simp[h2],λrest=>⟨.full (f j),by simp[enc],X8 hT (h1.sub hs) hv⟩⟩
  .obtain⟨h1,h2,h3,h4⟩:=CB h;exact⟨[],by simp[h2],λrest=>⟨.full (f j),by simp[enc],ad7 hT (h1.sub hs) hv⟩⟩
  .obtain⟨h1,h2,h3,h4⟩:=CB h;cases hv;exact⟨[],by simp[h2],λrest=>⟨.full (f j),by simp[enc],ai6 hT (h1.sub hs)⟩⟩
  .cases h
 | .pin s o,v,st,st1,a,h,hs,hv=>by
  cases v<;>simp only[Kk]at h<;>try(cases h;done)
  rename_i s' x o';cases hk:aB o o' with
  |false=>rw[hk]at h;cases h
  |true=>
   rw[hk,zC]at h;have:=bB hk;subst this;obtain⟨y,h1,h2⟩:=ag h;obtain⟨ee,h3⟩:=qU h1;cases ee;subst h3;injection h2 with h2;subst h2
   refine⟨[⟨s,y⟩],rfl,λrest=>⟨.pin s y o, ?_, ?_⟩⟩
   .simp only[bD,enc,pW,zG]
   .cases hv with
    |pin hn hy hl hf=>exact .pin (hT.nm _ _ hy hn) (by rw[hT.Z];exact hy) hl (vi hT.toStill _ _ _ hf)
 | .fn g p q,v,st,st1,a,h,hs,hv=>by
  cases v<;>simp only[Kk]at h<;>try(cases h;done)
  rename_i g' p' q';cases hk:aB g g' with
  |false=>rw[hk]at h;cases h
  |true=>
   rw[hk,zC]at h;have:=bB hk;subst this;obtain⟨st2,h1,h2⟩:=ag h;cases hv with
   |fn f1 f2=>
    obtain⟨new1,e1,e2⟩:=zy hR hT p p' st st2 _ h1 ((xw q q' st2 st1 h2).trans hs) f1;obtain⟨new2,e3,e4⟩:=zy hR hT q q' st2 st1 _ h2 hs f2;refine⟨new1++new2,by rw[e3,e1,aD],λrest=> ?_⟩;obtain⟨v1,e5,e6⟩:=e2 (new2++rest);obtain⟨v2,e7,e8⟩:=e4 rest;exact⟨.fn g v1 v2,by simp only[enc,aD,e5,zG,e7], .fn e6 e8⟩
 | .agg l,v,st,st1,a,h,hs,hv=>by
  cases v<;>simp only[Kk]at h<;>try(cases h;done)
  cases hv with
  |agg f1=>
   obtain⟨new1,e1,e2⟩:=zy hR hT l _ st st1 _ h hs f1;refine⟨new1,e1,λrest=> ?_⟩;obtain⟨v1,e5,e6⟩:=e2 rest;exact⟨.agg v1,by simp only[enc,e5,zG], .agg e6⟩
 | .tup l,v,st,st1,a,h,hs,hv=>by
  cases v<;>simp only[Kk]at h<;>try(cases h;done)
  cases hv with
  |tup f1=>
   obtain⟨new1,e1,e2⟩:=zy hR hT l _ st st1 _ h hs f1;refine⟨new1,e1,λrest=> ?_⟩;obtain⟨v1,e5,e6⟩:=e2 rest;exact⟨.tup v1,by simp only[enc,e5,zG], .tup e6⟩
theorem zy {N:Nat}{f:Nat->Nat}{stf:DSt}(hR:Rel c)(hT:Tell c ct N f stf): ∀(l:List Sk) (vs:List VV) (st st1:DSt) (as:List Value),Ip c.S N l vs st=O st1->Sub st1 stf->F2 (VRel c) vs as->
  ∃new,st1.ls=st.ls++new/\∀rest,∃vs',O4 f l (new++rest)=O (vs',rest)/\F2 (VRel ct) vs' as
 |[],vs,st,st1,as,h,hs,hf=>by
  cases vs<;>simp only[Ip]at h<;>try(cases h;done)
  injection h with h;subst h
  cases hf;exact⟨[],by simp,λrest=>⟨[],by simp[O4], .nil⟩⟩
 |k::r,vs,st,st1,as,h,hs,hf=>by
  cases hf with
  |nil=>simp only[Ip]at h;cases h
  |cons f1 f2=>
   simp only[Ip]at h;obtain⟨st2,h1,h2⟩:=ag h;obtain⟨new1,e1,e2⟩:=av0 hR hT k _ st st2 _ h1 ((xw r _ st2 st1 h2).trans hs) f1;obtain⟨new2,e3,e4⟩:=zy hR hT r _ st2 st1 _ h2 hs f2;refine⟨new1++new2,by rw[e3,e1,aD],λrest=> ?_⟩;obtain⟨v1,e5,e6⟩:=e2 (new2++rest);obtain⟨v2,e7,e8⟩:=e4 rest;exact⟨v1::v2,by simp only[O4,aD,e5,zG,e7], .cons e6 e8⟩
end
def yF (c ct:Ctx)(o:OSk)(x:Option Src)(blk:Blk):Prop:=
 (o= .dead/\blk= .dead)∨(blk.frozen=o.ro/\match x with
  |none=>o.ro=Zb/\∃s,blk= .arr s Zb []
  |some ⟨k,f⟩=>(o.ro=Zb->(ad c.S k).frozen=Zb)/\∃d,(ad c.S k).dim=O d/\(match f with
   |none=>blk.dim=O d
   |some n=>blk.dim=O (d.1,min (n*d.1) d.2))/\∀g,F2 (VRel c) (ad c.S k).vals g->F2 (VRel ct) blk.vals (g.take blk.vals.length))
theorem Jh {x:Option Src}{n:DSt}(h:U8 S N o x st=O n):Sub st n:=by
 unfold U8 at h;split at h
 .injection h with h;subst h;exact Sub.refl _
 .split at h
  .rename_i u f l k _ p v w A;cases g:(aB u p&&(f|| !v))with
   |false=>rw[g]at h;cases h
   |true=>
    rw[g,zC]at h;have q:=xw _ _ _ _ h;cases f with
    |false=>exact q
    |true=>exact Sub.trans ⟨⟨[],by simp⟩,λ_ h=>cD _ h⟩ q
  .cases h
 .rename_i f s;cases f with
  |true=>cases h
  |false=>injection h with h;subst h;exact⟨⟨[],by simp[DSt.push]⟩,λ_ h=>h⟩
 .rename_i f s k t;cases g:(f|| !(ad S k).frozen)with
  |false=>rw[g]at h;cases h
  |true=>
   rw[g,zC]at h;obtain⟨l,q,r⟩:=ag h;injection r with r;subst r
   cases f with
   |false=>exact⟨⟨[],by simp[DSt.push]⟩,λ_ h=>h⟩
   |true=>exact⟨⟨[],by simp[DSt.push]⟩,λ_ h=>cD _ h⟩
 .cases h
theorem SN {f:Nat->Nat}(K:Rel c)(X:Tell c ct N f stf){x:Option Src}{r:DSt}(h:U8 c.S N o x st=O r)(hs:Sub r stf):
  ∃q,r.ls=st.ls++q/\∀rest,∃blk,O5 f o (q++rest)=O (blk,rest)/\yF c ct o x blk:=by
 unfold U8 at h;split at h
 .injection h with h;subst h
  exact⟨[],by simp,λrest=>⟨.dead,by simp[O5], .inl ⟨rfl,rfl⟩⟩⟩
 .split at h
  .rename_i J ro l k _ U fz t L;cases v:(aB J U&&(ro|| !fz))with
   |false=>rw[v]at h;cases h
   |true=>
    rw[v,zC]at h;rw[cB]at v;have he:=bB v.1;subst he;have B:(ad c.S k).dim=O (J,t.length):=by rw[L];rfl
    obtain⟨h0,F⟩:=K.blk k _ B
    have M: ∃as,F2 (VRel c) t as:=by
     rcases F with⟨I,e2⟩|⟨b,y,as,rest,_,_,_,_,_,D⟩
     .have:t=[]:=List.length_eq_zero_iff.1 I;subst this;exact⟨[], .nil⟩
     .rw[L]at D;exact⟨as,D⟩
    obtain⟨as,M⟩:=M;obtain⟨q,I,e2⟩:=zy K X l t _ r as h hs M;refine⟨q, ?_,λrest=> ?_⟩
    .rw[I];cases ro<;>rfl
    .obtain⟨vs,D,e4⟩:=e2 rest;refine⟨.cells J ro vs,by simp only[O5,D,zG], .inr ⟨rfl,λp=> ?_,(J,t.length),B, ?_,λP A=> ?_⟩⟩
     .simp only[OSk.ro]at p;subst p;rw[L];have:=v.2;simp only[Bool.false_or,Bool.not_eq_true']at this;exact this
     .simp only[Blk.dim];rw[e4.length,M.length]
     .rw[L]at A;obtain⟨H,C,Q⟩:=zy K X l t _ r P h hs A
      have:H=q:=by
       rw[I]at C;exact(List.append_cancel_left C).symm
      subst this;obtain⟨vs',g,E⟩:=Q rest;rw[D]at g;injection g with g
      injection g with g _
      subst g;rw[fB (by rw[<-E.length];exact Nat.le_refl _)];exact E
  .cases h
 .rename_i ro s;cases ro with
  |true=>cases h
  |false=>
   injection h with h;subst h
   refine⟨[⟨.list s,[]⟩],rfl,λrest=>⟨.arr s Zb [], ?_, .inr ⟨rfl,rfl,s,rfl⟩⟩⟩;simp only[bD,O5,pW,zG]
 .rename_i ro s k u;cases v:(ro|| !(ad c.S k).frozen)with
  |false=>rw[v]at h;cases h
  |true=>
   rw[v,zC]at h;obtain⟨l,h1,V⟩:=ag h;injection V with V;subst V
   obtain⟨d,h3,h4,h5,h6⟩:=vU (pX K s) h1;refine⟨[⟨.list s,Ng u l⟩],by cases ro<;>rfl,λrest=>⟨.arr s ro (Ng u l), ?_, .inr ⟨rfl,λp=> ?_,d,h3, ?_,λt hcs=> ?_⟩⟩⟩
   .simp only[bD,O5,pW,zG]
   .simp only[OSk.ro]at p;subst p;simpa using v
   .cases u with
    |none=>
     simp only[Blk.dim,Ng];rw[<-h5,<-h4]
    |some n=>
     simp only[Blk.dim,Ng,eD];rw[h5,h4,<-Nat.mul_min_mul_right]
   .have W:=Lo X.toStill (h6 t hcs);have h8:t.length=l.length*s.w:=by rw[<-W.length,ji]
    cases u with
    |none=>
     simp only[Blk.vals,Ng];rw[fB (by rw[ji];omega)];exact W
    |some n=>
     simp only[Blk.vals,Ng];have h9:((gm s (l.take n)).length)=min (n*s.w) t.length:=by rw[ql,eD,ji,h8]
     rw[h9,ql,<-List.take_take,List.take_length];exact W.take (n*s.w)
 .cases h
theorem Io {S:ah}{N:Nat}: ∀{os:List OSk} {js:List Nat} {st f:DSt},Kl S N os js st=O f->Sub st f
 |[],[],st,f,h=>by injection h with h;subst h;exact Sub.refl _
 |[],_::_,st,f,h=>by cases h
 |_::_,[],st,f,h=>by cases h
 |o::os,j::js,st,f,h=>by
  simp only[Kl]at h;obtain⟨p,g,n⟩:=ag h;exact(Jh g).trans (Io n)
theorem ub {S:ah}{N:Nat}: ∀{os:List OSk} {i:Nat} {st f:DSt},xu S N os i st=O f->Sub st f
 |[],i,st,f,h=>by
  simp only[xu]at h;cases g:aB i st.m.length with
  |false=>rw[g]at h;cases h
  |true=>rw[g]at h;injection h with h;subst h;exact Sub.refl _
 |o::os,i,st,f,h=>by
  simp only[xu]at h;split at h
  .obtain⟨q,n,p⟩:=ag h;exact(Jh n).trans (ub p)
  .cases h
inductive Ct (c ct:Ctx):List OSk->List Nat->List Blk->Prop where
 |nil:Ct c ct [] [] []
 |cons {o:OSk} {j:Nat} {b:Blk} {os:List OSk} {js:List Nat} {bs:List Blk}:yF c ct o (O ⟨j,Y⟩) b->Ct c ct os js bs->Ct c ct (o::os) (j::js) (b::bs)
inductive zi (c ct:Ctx):List OSk->List (Option Src)->List Blk->Prop where
 |nil:zi c ct [] [] []
 |cons {o:OSk} {x:Option Src} {b:Blk} {os:List OSk} {xs:List (Option Src)} {bs:List Blk}:yF c ct o x b->zi c ct os xs bs->zi c ct (o::os) (x::xs) (b::bs)
theorem Nh {N:Nat}{f:Nat->Nat}{stf:DSt}(u:Rel c)(v:Tell c ct N f stf): ∀{os:List OSk} {js:List Nat} {st g:DSt},Kl c.S N os js st=O g->Sub g stf->
  ∃q,g.ls=st.ls++q/\∀rest,∃bs,Fq f os (q++rest)=O (bs,rest)/\Ct c ct os js bs
 |[],[],st,g,h,p=>by injection h with h;subst h;exact⟨[],by simp,λrest=>⟨[],by simp[Fq], .nil⟩⟩
 |[],_::_,st,g,h,p=>by cases h
 |_::_,[],st,g,h,p=>by cases h
 |o::os,j::js,st,g,h,p=>by
  simp only[Kl]at h;obtain⟨J,I,t⟩:=ag h;obtain⟨r,w,A⟩:=SN u v I ((Io t).trans p);obtain⟨n,B,C⟩:=Nh u v t p;refine⟨r++n,by rw[B,w,aD],λrest=> ?_⟩;obtain⟨K,D,E⟩:=A (n++rest);obtain⟨L,F,H⟩:=C rest;exact⟨K::L,by simp only[Fq,aD,D,zG,F], .cons E H⟩
theorem Li {N:Nat}{f:Nat->Nat}{stf:DSt}(B:Rel c)(C:Tell c ct N f stf): ∀{os:List OSk} {i:Nat} {st g:DSt},xu c.S N os i st=O g->Sub g stf->
  ∃q,g.ls=st.ls++q/\i+os.length=g.m.length/\∀rest,∃bs,Fq f os (q++rest)=O (bs,rest)/\zi c ct os (g.m.drop i) bs
 |[],i,st,g,h,w=>by
  simp only[xu]at h;cases v:aB i st.m.length with
  |false=>rw[v]at h;cases h
  |true=>
   rw[v]at h;injection h with h;subst h
   have:=bB v;subst this;exact⟨[],by simp,by simp,λrest=>⟨[],by simp[Fq],by rw[List.drop_length];exact .nil⟩⟩
 |o::os,i,st,g,h,w=>by
  simp only[xu]at h;split at h
  .rename_i x P;obtain⟨Q,A,u⟩:=ag h;obtain⟨r,E,F⟩:=SN B C A ((ub u).trans w);obtain⟨p,H,t,I⟩:=Li B C u w;refine⟨r++p,by rw[H,E,aD],by rw[<-t];simp;omega,λrest=> ?_⟩;obtain⟨W,J,K⟩:=F (p++rest);obtain⟨X,L,M⟩:=I rest;refine⟨W::X,by simp only[Fq,aD,J,zG,L], ?_⟩;obtain⟨t1,U⟩:=(Jh A).m;obtain⟨t3,V⟩:=(ub u).m
   have n:g.m[i]?=O x:=by
    rw[<-Ap,V,U];exact Jx (Jx P)
   have D:i<g.m.length:=by
    rcases dB i g.m.length with h|h
    .exact h
    .rw[dD h]at n;cases n
   rw[List.drop_eq_getElem_cons D];rw[List.getElem?_eq_getElem D]at n;injection n with n
   rw[n];exact .cons K M
  .cases h
theorem Kn {f:Nat->Nat}(p:Rel c)(q:Tell c ct N f st)(h:rL c.S N fx sk vals=O st)(Q:F2 (VRel c) vals as):
  ∃vs fs bs,ud f sk st.ls=O (vs,fs,bs)/\F2 (VRel ct) vs as/\Ct c ct sk.fix fx fs/\zi c ct sk.free st.m bs:=by
 unfold rL at h;obtain⟨V,P,h⟩:=ag h;obtain⟨W,w,h⟩:=ag h;obtain⟨g,n,h⟩:=ag h
 have:g=st:=by
  cases A:(HZ (fx++sY g.m)&&EN (fx++po sk.free g.m) g.lent)with
  |false=>rw[A]at h;cases h
  |true=>rw[A]at h;injection h
 subst this;obtain⟨U,C,F⟩:=zy p q _ _ _ _ _ P ((Io w).trans (ub n)) Q;obtain⟨B,D,H⟩:=Nh p q w (ub n);obtain⟨t,E,X,I⟩:=Li p q n (Sub.refl _);obtain⟨vs,J,K⟩:=F (B++t);obtain⟨fs,L,M⟩:=H t;obtain⟨bs,u,v⟩:=I [];refine⟨vs,fs,bs, ?_,K,M,by rw[List.drop_zero]at v;exact v⟩;have r:g.ls=U++(B++t):=by rw[E,D,C];simp
 rw[List.append_nil]at u;simp only[ud,r,J,zG,L,u]
theorem uc (h:rL S N fx sk vals=O st):HZ (fx++sY st.m)=Za/\EN (fx++po sk.free st.m) st.lent=Za:=by
 unfold rL at h;obtain⟨n,q,h⟩:=ag h;obtain⟨p,r,h⟩:=ag h;obtain⟨f,t,h⟩:=ag h;cases g:(HZ (fx++sY f.m)&&EN (fx++po sk.free f.m) f.lent)with
 |false=>rw[g]at h;cases h
 |true=>
  rw[g]at h;injection h with h
  subst h
  rwa [cB]at g
theorem Hx : ∀{n:List Sh} {ls:List Leaf} {t:FN n},R9 n ls=O t->Uu n t=ls
 |[],ls,t,h=>by
  cases ls with
  |nil=>rfl
  |cons=>simp[R9]at h
 |[s],ls,t,h=>by
  cases ls with
  |nil=>simp[R9]at h
  |cons x ls=>
   cases ls with
   |nil=>
    simp only[R9]at h;obtain⟨f,g⟩:=qU h;obtain⟨u,v⟩:=x;simp only at f;subst f;subst g;rfl
   |cons=>simp[R9]at h
 |s::u::r,ls,t,h=>by
  cases ls with
  |nil=>simp[R9]at h
  |cons x ls=>
   simp only[R9]at h;obtain⟨a,g,h⟩:=ag h;obtain⟨b,p,h⟩:=ag h;injection h with h
   subst h;obtain⟨f,q⟩:=qU g;obtain⟨w,v⟩:=x;simp only at f;subst f;subst q;simp only[Uu];rw[Hx p]
end
end
section
open Bool renaming and_eq_true -> cD
open List renaming getElem?_eq_getElem -> aB, all_eq_true -> aD, getElem?_eq_none -> bD, replicate -> cB, mem_cons_of_mem -> dB, mem_cons_self -> dD, mem_of_getElem? -> eD, nodup_cons -> fB
open Nat renaming lt_or_ge -> bB, le_add_right -> fD, lt_of_lt_of_le -> gD
def DY (c:Ctx):Option Src->Option Nat
 |none=>Y
 |some x=>c.μ x.k
theorem Ct.get : ∀{os:List OSk} {js:List Nat} {bs:List Blk},Ct c ct os js bs->js.length=bs.length/\os.length=bs.length/\∀(i j:Nat) (b:Blk),js[i]?=O j->bs[i]?=O b->∃o,os[i]?=O o/\yF c ct o (O ⟨j,Y⟩) b
 |_,_,_, .nil=>⟨rfl,rfl,λi j b h=>by simp at h⟩
 |_,_,_, .cons r t=>by
  obtain⟨n,p,q⟩:=t.get;refine⟨by simp[n],by simp[p],λi j b g f=> ?_⟩;cases i with
  |zero=>
   simp at g f;subst g;subst f;exact⟨_,rfl,r⟩
  |succ i=>
   simp at g f;obtain⟨o,u,v⟩:=q i j b g f;exact⟨o,by simpa using u,v⟩
theorem zi.get : ∀{os:List OSk} {n:List (Option Src)} {bs:List Blk},zi c ct os n bs->n.length=bs.length/\os.length=bs.length/\∀(i:Nat) (x:Option Src) (b:Blk),n[i]?=O x->bs[i]?=O b->∃o,os[i]?=O o/\yF c ct o x b
 |_,_,_, .nil=>⟨rfl,rfl,λi j b h=>by simp at h⟩
 |_,_,_, .cons t u=>by
  obtain⟨p,q,r⟩:=u.get;refine⟨by simp[p],by simp[q],λi j b g f=> ?_⟩;cases i with
  |zero=>
   simp at g f;subst g;subst f;exact⟨_,rfl,t⟩
  |succ i=>
   simp at g f;obtain⟨o,v,w⟩:=r i j b g f;exact⟨o,by simpa using v,w⟩
theorem yF.blkRel (hR:Rel c)(hZ:ct.Z=c.Z){x:Option Src}{p:Nat}(h:yF c ct o x b)(H:ad ct.S p=b)(M:b.dim≠Y->ct.μ p=DY c x):MA ct p:=by
 intro A f;rw[H]at f;have g:ct.μ p=DY c x:=M (by rw[f];simp);clear M;rcases h with⟨_,h⟩|⟨Q,I⟩
 .subst h;cases f
 .cases x with
  |none=>
   obtain⟨_,s,F⟩:=I;subst F;injection f with f
   subst f;exact⟨rR s, .inl ⟨by simp,by simpa[DY]using g⟩⟩
  |some x=>
   obtain⟨k,w⟩:=x;obtain⟨F,d,U,u,V⟩:=I;simp only[DY]at g;obtain⟨W,X⟩:=hR.blk k d U
   have r:A.1=d.1/\A.2<=d.2:=by
    cases w with
    |none=>
     simp only at u;rw[u]at f;injection f with f
     subst f;exact⟨rfl,Nat.le_refl _⟩
    |some n=>
     simp only at u;rw[u]at f;injection f with f
     subst f;exact⟨rfl,Nat.min_le_right _ _⟩
   refine⟨by rw[r.1];exact W, ?_⟩;rcases X with⟨J,q⟩|⟨P,y,v,t,J,q,B,C,D,E⟩
   .exact .inl ⟨by omega,g.trans q⟩
   .have K:b.vals.length=A.2:=EG f;refine .inr ⟨P,y,v.take b.vals.length,v.drop b.vals.length++t,g.trans J,by rw[hZ];exact q,by rw[r.1];exact B,λL=> ?_,by rw[<-List.append_assoc,List.take_append_drop];exact D, ?_⟩
    .rw[H,Q]at L;exact C (F L)
    .rw[H];exact V v E
theorem Ws (f:Nat->Nat): ∀n,∃K,∀j,j<n->f j<K
 |0=>⟨0,λj h=>by omega⟩
 |n+1=>by
  obtain⟨K,h⟩:=Ws f n;refine⟨max K (f n+1),λj g=> ?_⟩;rcases bB j n with h1|h1
  .have:=h j h1;omega
  .have:j=n:=by omega
   subst this;omega
theorem GS {n:Nat}:ad (cB n Blk.dead) k= .dead:=by
 induction n generalizing k with
 |zero=>rfl
 |succ n f=>
  cases k with
  |zero=>rfl
  |succ k=>exact f
theorem Pq {f:Nat->Nat}(u:Rel c)(h:rL c.S N fx sk vals=O st)(w:F2 (VRel c) vals as):
  ∃n vs fs bs,ud f sk st.ls=O (vs,fs,bs)/\Ct c n sk.fix fx fs/\zi c n sk.free st.m bs:=by
 obtain⟨K,t⟩:=Ws f (N+st.m.length)
 have v:Tell c ⟨λ_=>Y,cB K .dead,c.Z,λ_=>False⟩ N f st:=by
  have r: ∀b,¬(⟨λ_=>Y,cB K .dead,c.Z,λ_=>False⟩:Ctx).mut b:=by
   rintro b (⟨k,g,_⟩|h)
   .simp only[GS]at g;cases g
   .exact h
  refine⟨⟨rfl,λb _ _ _=>r b⟩,λj x A=>⟨?_,λB q=> ?_⟩,λk _ _ b _=>r b⟩
  .simp only[List.length_replicate];refine t j ?_;rcases A with⟨g,_⟩|⟨g,p⟩
   .omega
   .rw[Ap]at p;rcases bB (j-N) st.m.length with h3|h3
    .omega
    .rw[bD h3]at p;cases p
  .simp only[GS]at q;cases q
 obtain⟨vs,fs,bs,g,_,p,h3⟩:=Kn u v h w;exact⟨_,vs,fs,bs,g,p,h3⟩
theorem pj :qm k l=Za↔k∈l:=by
 induction l with
 |nil=>simp[qm]
 |cons a l f=>
  simp only[qm,List.mem_cons];cases h:Nat.beq a k with
  |true=>
   have:=Nat.eq_of_beq_eq_true h;simp[this]
  |false=>
   have:a≠k:=by rintro rfl;rw[Nat.beq_refl]at h;cases h
   rw[zD,f];simp[Ne.symm this]
theorem ua :HZ l=Za->l.Nodup:=by
 induction l with
 |nil=>intro _;exact List.nodup_nil
 |cons a l n=>
  intro h;simp only[HZ]at h;cases f:qm a l with
  |true=>rw[f]at h;cases h
  |false=>
   rw[f]at h;refine List.nodup_cons.2 ⟨λg=> ?_,n h⟩;rw[pj.2 g]at f;cases f
theorem Nr {w:List Nat}(h:EN w l=Za)(g:k∈w):k∉l:=by
 intro f;simp only[EN,aD]at h;have:=h k g;rw[pj.2 f]at this;cases this
theorem BV {x:Src}(h:m[i]?=O (O x)):x.k∈sY m:=by
 induction m generalizing i with
 |nil=>simp at h
 |cons a m f=>
  cases i with
  |zero=>
   simp at h;subst h;exact dD
  |succ i=>
   simp at h;have:=f h;cases a with
   |none=>exact this
   |some a=>exact dB _ this
theorem Jr (f:(sY m).Nodup){x y:Src}(h:m[i]?=O (O x))(g:m[j]?=O (O y))(e:x.k=y.k):i=j:=by
 induction m generalizing i j with
 |nil=>simp at h
 |cons a m q=>
  cases i with
  |zero=>
   simp at h;subst h;cases j with
   |zero=>rfl
   |succ j=>
    simp at g;have n:=BV g;simp only[sY,fB]at f;rw[e]at f;exact(f.1 n).elim
  |succ i=>
   simp at h;cases j with
   |zero=>
    simp at g;subst g;have n:=BV h;simp only[sY,fB]at f;rw[<-e]at f;exact(f.1 n).elim
   |succ j=>
    simp at g
    have p:(sY m).Nodup:=by
     cases a with
     |none=>exact f
     |some a=>exact(List.nodup_cons.1 f).2
    rw[q p h g]
theorem JW {os:List OSk}{x:Src}(h:m[i]?=O (O x))(f:os[i]?=O o)(g:o.ro=Zb):x.k∈po os m:=by
 induction m generalizing os i with
 |nil=>simp at h
 |cons a m n=>
  cases os with
  |nil=>simp at f
  |cons p os=>
   cases i with
   |zero=>
    simp at h f;subst h;subst f;simp only[po,g,zD];exact dD
   |succ i=>
    simp at h f;have:=n h f;cases a with
    |none=>exact this
    |some a=>
     simp only[po];cases p.ro with
     |true=>exact this
     |false=>exact dB _ this
theorem aO5 (h:b.may=Za)(g:b.dim≠Y)(f:b.frozen=Za):False:=by
 cases b with
 |dead=>exact g rfl
 |cells n z l=>simp only[Blk.may,Blk.frozen]at h f;rw[f]at h;cases h
 |arr s z l=>simp only[Blk.may,Blk.frozen]at h f;rw[f]at h;cases h
theorem WF (h:sk.noRo=Za):sk.fxRo=Za:=by
 unfold yk.noRo at h;rw[cD]at h;exact h.1
structure GT (c c' ct:Ctx)(N:Nat)(f:Nat->Nat)(fx:List Nat)(sk:yk)(st:DSt)(fs bs:List Blk):Prop where
 Z:ct.Z=c'.Z
 fb:ct.fb=c.fb
 len:ct.S.length=c.S.length+bs.length
 oth: ∀k,k<c.S.length->(∀j,j∈fx->f j≠k)->ad ct.S k=ad c.S k∨ad ct.S k=(ad c.S k).freeze∨(ad ct.S k= .dead/\(ad c.S k).frozen=Zb)
 fix: ∀(i j:Nat) (b:Blk),fx[i]?=O j->fs[i]?=O b->ad ct.S (f j)=b
 fixlt: ∀j,j∈fx->f j<c.S.length
 free: ∀(i:Nat) (b:Blk),bs[i]?=O b->ad ct.S (c.S.length+i)=b
 fN: ∀i,f (N+i)=c.S.length+i
 μo: ∀k,k<c.S.length->ct.μ k=c.μ k
 μn: ∀(i:Nat) (x:Option Src),st.m[i]?=O x->ct.μ (c.S.length+i)=DY c' x
 un: ∀b y,c.Z.m b=O y->¬c.own b->c'.Z.m b=O y
 ow: ∀b y,c.Z.m b=O y->¬c.own b->¬c'.own b
 n:c.Z.n<=c'.Z.n
 oun: ∀k,k<c.S.length->(∀j,j∈fx->f j≠k)->(ad ct.S k).dim≠Y->∀b y,c.μ k=O b->c.Z.m b=O y->c'.Z.m b=O y
 odis: ∀k,k<c.S.length->(∀j,j∈fx->f j≠k)->(ad ct.S k).dim≠Y->∀s,(s∈fx∨s∈sY st.m)->(ad c'.S s).frozen=Zb->∀b,c'.μ s=O b->c.μ k≠O b
 wr: ∀j,j∈fx->(ad c'.S j).dim≠Y->(ad c.S (f j)).dim=(ad c'.S j).dim/\c'.μ j=c.μ (f j)/\∀b y,c.μ (f j)=O b->c.Z.m b=O y->∃y',c'.Z.m b=O y'/\y'.cells.length=y.cells.length
 wrz: ∀j,j∈fx->(ad c.S (f j)).may=Za
 finj: ∀j j',j∈fx->j'∈fx->f j=f j'->j=j'
 fbk: ∀k b,(ad c'.S k).dim≠Y->c'.μ k=O b->¬c.fb b
 lk: ∀j,j<N->j∉fx->Lk c' ct (O ⟨j,Y⟩) (f j)
 onm: ∀k,k<c.S.length->(∀j,j∈fx->f j≠k)->(ad ct.S k).frozen=Zb->∀b y,c.μ k=O b->c'.Z.m b=O y->c'.mut b
 olent: ∀k,k<c.S.length->(∀j,j∈fx->f j≠k)->(ad ct.S k).frozen=Zb->∀s,s∈st.lent->(ad c'.S s).dim≠Y->∀b,c'.μ s=O b->c.μ k≠O b
 fbm: ∀b,c.fb b->c'.mut b
 fxN: ∀j,j∈fx->j<N
 noro:sk.fxRo=Za
 roz:sk.noRo=Za∨∀k,k<c.S.length->(∀j,j∈fx->f j≠k)->(ad ct.S k).dim≠Y->(ad ct.S k).frozen=Za
theorem GT.all {C:Ctx}{f:Nat->Nat}(g:GT c C ct N f fx sk st fs bs)(hR:Rel c)(L:Rel C)(hd:rL C.S N fx sk vals=O st)
  (he:ud f sk st.ls=O (vs,fs,bs)) (hf:F2 (VRel C) vals as):Le c ct/\Rel ct/\F2 (VRel ct) vs as:=by
 obtain⟨ct0,vs0,fs0,bs0,p1,p2,p3⟩:=Pq (f:=f) L hd hf;rw[he]at p1;injection p1 with p1
 injection p1 with Q p1
 injection p1 with U q3
 subst Q;subst U;subst q3;obtain⟨ap1,ap2⟩:=uc hd;have hnd:=ua ap1;rw[List.nodup_append]at hnd;obtain⟨nd1,nd2,nd3⟩:=hnd;obtain⟨x1,x2,x3⟩:=p2.get;obtain⟨y1,y2,y3⟩:=p3.get;have hro:=g.noro;unfold yk.fxRo at hro;rw[aD]at hro
 have nro: ∀(i:Nat) (o:OSk),sk.fix[i]?=O o->o.ro=Zb:=by
  intro i o h;simpa using hro o (eD h)
 have nro2: ∀(i:Nat) (o:OSk),sk.noRo=Za->sk.free[i]?=O o->o.ro=Zb:=by
  intro i o V h;unfold yk.noRo at V;rw[cD,aD,aD]at V;simpa using V.2 o (eD h)
 have fxget: ∀j,j∈fx->∃(i:Nat) (b:Blk) (o:OSk),fx[i]?=O j/\fs[i]?=O b/\sk.fix[i]?=O o/\ad ct.S (f j)=b/\yF C ct0 o (O ⟨j,Y⟩) b:=by
  intro j u;obtain⟨i,E,e⟩:=List.mem_iff_getElem.1 u;have h1:fx[i]?=O j:=by rw[aB E,e]
  have q:i<fs.length:=by rw[<-x1];exact E
  obtain⟨o,r,t⟩:=x3 i j _ h1 (aB q);exact⟨i,fs[i],o,h1,aB q,r,g.fix i j _ h1 (aB q),t⟩
 have D: ∀i,i<bs.length->∃(b:Blk) (x:Option Src) (o:OSk),st.m[i]?=O x/\bs[i]?=O b/\sk.free[i]?=O o/\ad ct.S (c.S.length+i)=b/\ct.μ (c.S.length+i)=DY C x/\yF C ct0 o x b:=by
  intro i E;have q:i<st.m.length:=by rw[y1];exact E
  obtain⟨o,r,t⟩:=y3 i _ _ (aB q) (aB E);exact⟨bs[i],st.m[i],o,aB q,aB E,r,g.free i _ (aB E),g.μn i _ (aB q),t⟩
 have F: ∀k,(ad ct.S k).dim≠Y->(∃j,j∈fx/\f j=k)∨(k<c.S.length/\(∀j,j∈fx->f j≠k))∨(∃i,i<bs.length/\k=c.S.length+i):=by
  intro k A;have hl:=py A;rw[g.len]at hl;by_cases h1:k<c.S.length
  .by_cases q: ∃j,j∈fx/\f j=k
   .exact .inl q
   .exact .inr (.inl ⟨h1,λj u e=>q ⟨j,u,e⟩⟩)
  .exact .inr (.inr ⟨k-c.S.length,by omega,by omega⟩)
 have J: ∀j,j∈fx->∀d,(ad ct.S (f j)).dim=O d->(ad C.S j).dim=O d/\(ad C.S j).frozen=Zb/\(ad c.S (f j)).dim=O d/\C.μ j=c.μ (f j):=by
  intro j u d p;obtain⟨i,b,o,h1,q,r,t,w⟩:=fxget j u;rw[t]at p;rcases w with⟨_,w⟩|⟨w,H,d0,h7,h8,h9⟩
  .subst w;cases p
  .simp only at h8;rw[h8]at p;injection p with p
   subst p;obtain⟨w1,w2,_⟩:=g.wr j u (by rw[h7];simp);exact⟨h7,H (nro i o r),by rw[w1,h7],w2⟩
 have found: ∀i,i<bs.length->∀d,(ad ct.S (c.S.length+i)).dim=O d->(∃x,st.m[i]?=O (O x)/\((ad ct.S (c.S.length+i)).frozen=Zb∨sk.noRo=Za->(ad C.S x.k).frozen=Zb)/\(ad C.S x.k).dim≠Y/\ct.μ (c.S.length+i)=C.μ x.k)∨ct.μ (c.S.length+i)=Y:=by
  intro i E d p;obtain⟨b,x,o,h1,q,r,t,w,H⟩:=D i E;rw[t]at p;rcases H with⟨_,H⟩|⟨H,h7⟩
  .subst H;cases p
  .cases x with
   |none=>exact .inr w
   |some x=>
    obtain⟨k,cut⟩:=x;obtain⟨h7,d2,h8,_⟩:=h7;refine .inl ⟨_,h1,λhz=>h7 ?_,by rw[h8];simp,w⟩;rcases hz with hz|hz
    .rw[t,H]at hz;exact hz
    .exact nro2 i o hz r
 have B: ∀k b,(ad ct.S k).dim≠Y->ct.μ k=O b->(k<c.S.length/\(∀j,j∈fx->f j≠k)/\c.μ k=O b)∨
   ∃s,(s∈fx∨s∈sY st.m)/\((ad ct.S k).frozen=Zb∨sk.noRo=Za->(ad C.S s).frozen=Zb)/\(ad C.S s).dim≠Y/\C.μ s=O b/\((s∈fx/\k=f s)∨∃i x,st.m[i]?=O (O x)/\x.k=s/\k=c.S.length+i):=by
  intro k b A K;cases X:(ad ct.S k).dim with
  |none=>exact(A X).elim
  |some d=>
   rcases F k A with⟨j,u,rfl⟩|⟨h1,q⟩|⟨i,E,rfl⟩
   .obtain⟨h1,q,r,t⟩:=J j u d X;exact .inr ⟨j, .inl u,λ_=>q,by rw[h1];simp,by rw[t,<-g.μo _ (g.fixlt j u)];exact K, .inl ⟨u,rfl⟩⟩
   .exact .inl ⟨h1,q,by rw[<-g.μo k h1];exact K⟩
   .rcases found i E d X with⟨x,h1,q,h2',r⟩|h1
    .exact .inr ⟨x.k, .inr (BV h1),q,h2',by rw[<-r];exact K, .inr ⟨i,x,h1,rfl,rfl⟩⟩
    .rw[h1]at K;cases K
 have v: ∀k,k<c.S.length->(∀j,j∈fx->f j≠k)->(ad ct.S k).dim≠Y->(ad ct.S k=ad c.S k∨ad ct.S k=(ad c.S k).freeze):=by
  intro k h1 q r;rcases g.oth k h1 q with h|h|⟨h,_⟩
  .exact .inl h
  .exact .inr h
  .rw[h]at r;exact(r rfl).elim
 have P: ∀k,k<c.S.length->(∀j,j∈fx->f j≠k)->(ad ct.S k).frozen=Zb->ad ct.S k=ad c.S k:=by
  intro k h1 q r;rcases v k h1 q (rk r)with h|h
  .exact h
  .rw[h,pY]at r;cases r
 have hle:Le c ct:=by
  refine⟨by rw[g.len];exact fD _ _,λk d A p=>⟨?_,g.μo k A⟩,λk hz I=> ?_,λk d b y A p K hy=> ?_,λb y hy V=>by rw[g.Z];exact g.un b y hy V,λb y hy V=> ?_,by rw[g.Z];exact g.n,g.fb⟩
  .rcases F k (by rw[p];simp)with⟨j,u,rfl⟩|⟨h1,q⟩|⟨i,E,rfl⟩
   .exact(J j u d p).2.2.1
   .rcases v k h1 q (by rw[p];simp)with h|h
    .rw[<-h];exact p
    .rw[h,gy]at p;exact p
   .omega
  .have A:=py I;by_cases q: ∃j,j∈fx/\f j=k
   .obtain⟨j,u,rfl⟩:=q;exact(aO5 (g.wrz j u) I hz).elim
   .rcases g.oth k A (λj u e=>q ⟨j,u,e⟩)with h|h|⟨_,h⟩
    .exact h
    .rw[h,DI hz]
    .rw[h]at hz;cases hz
  .rw[g.Z];rcases F k (by rw[p];simp)with⟨j,u,rfl⟩|⟨h1,q⟩|⟨i,E,rfl⟩
   .obtain⟨h1,q,r,t⟩:=J j u d p;exact(g.wr j u (by rw[h1];simp)).2.2 b y K hy
   .exact⟨y,g.oun k h1 q (by rw[p];simp) b y K hy,rfl⟩
   .omega
  .rintro⟨k,h1,q⟩;rcases B k b (rk h1) q with⟨r,t,w⟩|⟨s,r,t,_,w,_⟩
   .exact V ⟨k,by rw[<-P k r t h1];exact h1,w⟩
   .exact g.ow b y hy V ⟨s,t (.inl h1),w⟩
 have hT:Tell C ct N f st:=by
  have hsp: ∀k b,(ad ct.S k).frozen=Zb->ct.μ k=O b->(k<c.S.length/\(∀j,j∈fx->f j≠k)/\c.μ k=O b)∨∃s,(s∈fx∨s∈po sk.free st.m)/\(ad C.S s).frozen=Zb/\C.μ s=O b:=by
   intro k b h1 q;rcases B k b (rk h1) q with h|⟨s,r,t,_,w,H⟩
   .exact .inl h
   .refine .inr ⟨s, ?_,t (.inl h1),w⟩;rcases H with⟨H,_⟩|⟨i,x,H,h7,h8⟩
    .exact .inl H
    .refine .inr ?_
     have E:i<bs.length:=by
      rw[<-y1];rcases bB i st.m.length with h|h
      .exact h
      .rw[bD h]at H;cases H
     obtain⟨b',x',o,Q,U,q3,q4,q5,W⟩:=D i E;rw[<-h7];refine JW H q3 ?_;rcases W with⟨W,_⟩|⟨W,_⟩
     .rw[W];rfl
     .rw[<-W,<-q4,<-h8];exact h1
  refine⟨⟨g.Z,λb y hy V=> ?_⟩,λj x hl=> ?_,λs hs hsd b K=> ?_⟩
  .rintro(⟨k,h1,q⟩|h)
   .rcases hsp k b h1 q with⟨r,t,w⟩|⟨s,r,t,w⟩
    .exact V (g.onm k r t h1 b y w hy)
    .exact V (.inl ⟨s,t,w⟩)
   .rw[g.fb]at h;exact V (g.fbm b h)
  .rcases hl with⟨h1,rfl⟩|⟨h1,q⟩
   .by_cases u:j∈fx
    .refine⟨by rw[g.len];exact gD (g.fixlt j u) (fD _ _),λd' p=> ?_⟩;obtain⟨Q,U,q3,q4⟩:=J j u d' p;exact⟨d',Q,rfl,by rw[g.μo _ (g.fixlt j u),q4],rfl⟩
    .exact g.lk j h1 u
   .rw[Ap]at q
    have E:j-N<bs.length:=by
     rw[<-y1];rcases bB (j-N) st.m.length with h|h
     .exact h
     .rw[bD h]at q;cases q
    have hfj:f j=c.S.length+(j-N):=by rw[<-g.fN];congr 1;omega
    rw[hfj];refine⟨by rw[g.len];omega,λd' p=> ?_⟩;obtain⟨b,x',o,Q,U,q3,q4,q5,W⟩:=D (j-N) E;rw[q]at Q;injection Q with Q
    subst Q;rw[q4]at p;rcases W with⟨_,W⟩|⟨W,q7⟩
    .subst W;cases p
    .cases x with
     |none=>
      obtain⟨_,s,q8⟩:=q7;subst q8;injection p with p
      subst p;exact⟨by simp,q5⟩
     |some x=>
      obtain⟨k,cut⟩:=x;obtain⟨q8,d,q9,q10,q11⟩:=q7;refine⟨d,q9, ?_⟩;cases cut with
      |none=>
       simp only at q10;rw[q10]at p;injection p with p
       subst p;exact⟨rfl,q5,rfl⟩
      |some n=>
       simp only at q10;rw[q10]at p;injection p with p
       subst p;exact⟨rfl,q5,rfl⟩
  .rintro(⟨k,h1,q⟩|h)
   .rcases hsp k b h1 q with⟨r,t,w⟩|⟨s',r,t,w⟩
    .exact g.olent k r t h1 s hs hsd b K w
    .have:=L.inj s' s b t hsd w K;subst this;exact Nr ap2 (List.mem_append.2 r) hs
   .rw[g.fb]at h;exact g.fbk s b hsd K h
 obtain⟨vs1,fs1,bs1,r1,r2,r3,r4⟩:=Kn L hT hd hf;rw[he]at r1;injection r1 with r1
 injection r1 with e1 r1
 injection r1 with e2 e3
 subst e1;subst e2;subst e3;obtain⟨_,_,x4⟩:=r3.get;obtain⟨_,_,y4⟩:=r4.get;refine⟨hle,⟨by rw[g.Z];exact L.ok,λk k' b A M K hm'=> ?_,λk=> ?_,λk b A K hb=> ?_,λb hb=> ?_⟩,r2⟩
 .rcases B k b (rk A) K with⟨h1,q,r⟩|⟨s,h1,q,_,r,t⟩
  .rcases B k' b M hm' with⟨g1,g2,g3⟩|⟨s',g1,g2,_,g3,g4⟩
   .refine hR.inj k k' b (by rw[<-P k h1 q A];exact A) ?_ r g3;rcases v k' g1 g2 M with h|h
    .rw[<-h];exact M
    .rw[h,gy]at M;exact M
   .rcases g.roz with V|hz
    .exact(g.odis k h1 q (rk A) s' g1 (g2 (.inr V)) b g3 r).elim
    .rw[hz k h1 q (rk A)]at A;cases A
  .rcases B k' b M hm' with⟨g1,g2,g3⟩|⟨s',g1,_,g2,g3,g4⟩
   .exact(g.odis k' g1 g2 M s h1 (q (.inl A)) b r g3).elim
   .have:=L.inj s s' b (q (.inl A)) g2 r g3;subst this;rcases t with⟨t,w⟩|⟨i,x,t,w,H⟩
    .rcases g4 with⟨g4,g5⟩|⟨i',x',g4,g5,g6⟩
     .rw[w,g5]
     .subst g5;exact(nd3 _ t _ (BV g4) rfl).elim
    .rcases g4 with⟨g4,g5⟩|⟨i',x',g4,g5,g6⟩
     .subst w;exact(nd3 _ g4 _ (BV t) rfl).elim
     .rw[H,g6,Jr nd2 t g4 (w.trans g5.symm)]
 .by_cases I:(ad ct.S k).dim=Y
  .intro d p;rw[I]at p;cases p
  .rcases F k I with⟨j,u,rfl⟩|⟨h1,q⟩|⟨i,E,rfl⟩
   .obtain⟨i,b,o,Q,U,q3,q4,q5⟩:=fxget j u;obtain⟨o',W,q7⟩:=x4 i j b Q U;refine q7.blkRel L g.Z q4 λhb=> ?_
    cases X:(ad ct.S (f j)).dim with
    |none=>exact(I X).elim
    |some d=>
     obtain⟨_,_,_,q8⟩:=J j u d X;rw[g.μo _ (g.fixlt j u),<-q8];rfl
   .intro d p;have r:=v k h1 q I
    have hdc:(ad c.S k).dim=O d:=by
     rcases r with h|h
     .rw[<-h];exact p
     .rw[h,gy]at p;exact p
    have hvc:(ad ct.S k).vals=(ad c.S k).vals:=by
     rcases r with h|h
     .rw[h]
     .rw[h,LD]
    obtain⟨Q,U⟩:=hR.blk k d hdc;refine⟨Q, ?_⟩;rcases U with⟨U,q3⟩|⟨b,y,cs,rest,U,q3,q4,q5,W,q7⟩
    .exact .inl ⟨U,(g.μo k h1).trans q3⟩
    .refine .inr ⟨b,y,cs,rest,(g.μo k h1).trans U,by rw[g.Z];exact g.oun k h1 q I b y U q3,q4,λhz=> ?_,W,by rw[hvc];exact VRel.frames hle q7⟩;rw[P k h1 q hz]at hz;exact q5 hz
   .obtain⟨b,x,o,Q,U,q3,q4,q5,W⟩:=D i E;obtain⟨o',q7,q8⟩:=y4 i x b Q U;exact q8.blkRel L g.Z q4 λ_=>q5
 .rw[g.fb]at hb;rcases B k b A K with⟨h1,q,r⟩|⟨s,h1,_,q,r,_⟩
  .refine hR.fbk k b ?_ r hb;rcases v k h1 q A with h|h
   .rw[<-h];exact A
   .rw[h,gy]at A;exact A
  .exact g.fbk s b q r hb
 .rw[g.fb]at hb;rw[g.Z];exact gD (hR.fbl b hb) g.n
end
section
open Bool renaming or_eq_false_iff -> aB
open List renaming cons_append -> bB, length_append -> bD, mem_of_getElem? -> cB, nodup_append -> cD
open Nat renaming zero_add -> aD, add_sub_cancel_left -> dB
theorem rj {fx mov:List Nat}{fz:Bool}: ∀{S:ah} {i:Nat},(ov fx mov fz i S).length=S.length
 |[],_=>rfl
 |_::r,i=>by simp[ov,rj (S:=r)]
theorem ri {fx mov:List Nat}{fz:Bool}: ∀{S:ah} {i k:Nat},k<S.length->ad (ov fx mov fz i S) k=cond (qm (i+k) mov) (cond (ad S k).frozen (ad S k) .dead) (cond (qm (i+k) fx) (ad S k) (cond fz (ad S k).freeze (ad S k)))
 |[],_,_,h=>by simp at h
 |b::r,i,0,_=>rfl
 |b::r,i,k+1,h=>by
  have:=ri (fx:=fx) (mov:=mov) (fz:=fz) (S:=r) (i:=i+1) (k:=k) (by simpa using h);rw[show i+1+k=i+(k+1)by omega]at this;exact this
theorem pn : ∀{js:List Nat} {bs:List Blk} {S S':ah},zS js bs S=O S'->js.length=bs.length/\S'.length=S.length/\(∀k,k∉js->ad S' k=ad S k)/\
  (js.Nodup->∀(i j:Nat) (b:Blk),js[i]?=O j->bs[i]?=O b->j<S.length->ad S' j=b)
 |[],[],S,S',h=>by
  injection h with h;subst h
  exact⟨rfl,rfl,λ_ _=>rfl,λ_ i j b h=>by simp at h⟩
 |[],_::_,S,S',h=>by cases h
 |_::_,[],S,S',h=>by cases h
 |j::js,b::bs,S,S',h=>by
  simp only[zS]at h;obtain⟨u,v,p,w⟩:=pn h;refine⟨by simp[u],by rw[v,B0],λk q=> ?_,λn i A t g f r=> ?_⟩
  .rw[p k (λe=>q (List.mem_cons_of_mem _ e))];exact aE3 (λe=>q (by rw[e];exact List.mem_cons_self))
  .rw[List.nodup_cons]at n;cases i with
   |zero=>
    simp at g f;subst g;subst f;rw[p j n.1];exact Xl r
   |succ i=>
    simp at g f;exact w n.2 i A t g f (by rw[B0];exact r)
theorem zP : ∀{l:List Blk} {i:Nat} {b:Blk},l[i]?=O b->ad l i=b
 |[],i,b,h=>by simp at h
 |a::l,0,b,h=>by simpa[ad]using h
 |a::l,i+1,b,h=>zP (l:=l) (by simpa using h)
structure Within (c c1:Ctx)(fx mov:List Nat):Prop where
 le:Le c c1
 fr: ∀k,k<c.S.length->k∉fx->(k∉mov∨(ad c.S k).frozen=Za)->ad c1.S k=(ad c.S k).freeze
 un: ∀k,k<c.S.length->k∉fx->(k∉mov∨(ad c.S k).frozen=Za)->(ad c.S k).dim≠Y->∀b y,c.μ k=O b->c.Z.m b=O y->c1.Z.m b=O y
theorem qW (h:L0 S fx=Za)(n:j∈fx):j<S.length/\(ad S j).may=Za:=by
 simp only[L0,List.all_eq_true,Bool.and_eq_true]at h;obtain⟨f,g⟩:=h j n;exact⟨Nat.le_of_ble_eq_true f,g⟩
theorem oz (h:k∉l):qm k l=Zb:=by
 cases f:qm k l with
 |false=>rfl
 |true=>exact(h (pj.1 f)).elim
theorem AV {fz:Bool}(p:k<S.length)(n:k∉fx)(f:(ad (ov fx mov fz 0 S) k).dim≠Y):(k∉mov∨(ad S k).frozen=Za)/\ad (ov fx mov fz 0 S) k=cond fz (ad S k).freeze (ad S k):=by
 rw[ri p,aD,oz n]at f⊢;by_cases g:k∈mov
 .rw[pj.2 g]at f⊢;cases h:(ad S k).frozen with
  |false=>rw[h]at f;exact(f rfl).elim
  |true=>exact⟨.inr rfl,by cases fz<;>simp[DI h]⟩
 .rw[oz g];exact⟨.inl g,rfl⟩
theorem leave {c1 v:Ctx}(hR:Rel c)(P:Rel v)(hw:Within c c1 fx mov)(hR1:Rel c1)(Q:Le c1 v)
  (F:L0 c.S fx=Za) (hro:sk.fxRo=Za) (hd:rL v.S c.S.length fx sk vals=O st) (he:ud id sk st.ls=O (vs,fs,bs)) (hf:F2 (VRel v) vals as) (hS:zS fx fs (ov fx mov Za 0 c.S)=O S'):
  ∃ct:Ctx,ct.Z=v.Z/\ct.S=S'++bs/\ct.fb=c.fb/\(∀k,k<c.S.length->ct.μ k=c.μ k)/\Le c ct/\Rel ct/\F2 (VRel ct) vs as/\
   (∀k,k<c.S.length->k∉fx->(ad ct.S k).dim≠Y->(k∉mov∨(ad c.S k).frozen=Za)/\∀b y,c.μ k=O b->c.Z.m b=O y->ct.Z.m b=O y):=by
 obtain⟨s1,s2,s3,s4⟩:=pn hS;rw[rj]at s2 s4;obtain⟨ap1,_⟩:=uc hd;have hnd:=ua ap1;rw[cD]at hnd;obtain⟨nd1,_,_⟩:=hnd;have t:=hw.le.trans Q;have X:v.fb=c.fb:=t.fb
 let ct:Ctx:=⟨λi=>if i<c.S.length then c.μ i else match st.m[i-c.S.length]? with
  |some x=>DY v x
  |none=>Y,S'++bs,v.Z,c.fb⟩
 have K: ∀k,k<c.S.length->ad ct.S k=ad S' k:=λk h=>rP (by rw[s2];exact h)
 have L: ∀k,k<c.S.length->k∉fx->ad ct.S k=ad (ov fx mov Za 0 c.S) k:=λk h q=>by rw[K k h,s3 k q]
 have p: ∀k,k<c.S.length->k∉fx->(ad ct.S k).dim≠Y->(k∉mov∨(ad c.S k).frozen=Za)/\ad ct.S k=(ad c.S k).freeze/\ad v.S k=(ad c.S k).freeze/\v.μ k=c.μ k/\(ad c.S k).dim≠Y:=by
  intro k h q f;rw[L k h q]at f⊢;obtain⟨C,w⟩:=AV h q f;have D:=hw.fr k h q C;rw[w]at f;simp only[zC]at f w;rw[gy]at f
  have H:ad v.S k=(ad c.S k).freeze:=by
   rw[Q.fz k (by rw[D,pY]) (by rw[D,gy];exact f),D]
  refine⟨C,w,H, ?_,f⟩;cases r:(ad c.S k).dim with
  |none=>exact(f r).elim
  |some d=>exact(t.al k d h (by rw[H,gy];exact r)).2
 have M: ∀k,k<c.S.length->k∉fx->(ad ct.S k).dim≠Y->∀b y,c.μ k=O b->c.Z.m b=O y->v.Z.m b=O y:=by
  intro k h q f b y u V;obtain⟨C,w,D,H,J⟩:=p k h q f;have h6:=hw.un k h q C J b y u V;have h7:=hw.fr k h q C
  have hmu1:c1.μ k=O b:=by
   cases r:(ad c.S k).dim with
   |none=>exact(J r).elim
   |some d=>rw[(hw.le.al k d h (by rw[h7,gy];exact r)).2];exact u
  have h8: ¬c1.mut b:=hR1.fz_mut (by rw[h7,pY]) (by rw[h7,gy];exact J) hmu1;exact Q.un b y h6 λe=>h8 (.inl e)
 have g:GT c v ct c.S.length id fx sk st fs bs:=by
  refine⟨rfl,rfl,by simp[ct,s2],λk h q=> ?_,λi j b hi W=> ?_,λj A=>(qW F A).1,λi b W=> ?_,λ_=>rfl,λk h=>zE h,λi x hx=> ?_,t.un,t.ow,t.n,λk h q f b y u V=> ?_,λk h q f s hs B b u e=> ?_,λj A f=> ?_,λj A=>(qW F A).2,
   λ_ _ _ _ e=>e,λk b f u=> ?_,λj A q=> ?_,λk h q B b y u V=> ?_,λk h q B s hs hsd b u e=> ?_,λb W=> ?_,λj A=>(qW F A).1,hro, .inr λk h q f=>by rw[(p k h (λe=>q k e rfl) f).2.1,pY]⟩
  .have U:k∉fx:=λe=>q k e rfl
   rw[L k h U];by_cases f:(ad (ov fx mov Za 0 c.S) k).dim=Y
   .rw[ri h,aD,oz U]at f⊢;by_cases u:k∈mov
    .rw[pj.2 u]at f⊢;cases B:(ad c.S k).frozen with
     |false=>exact .inr (.inr ⟨rfl,rfl⟩)
     |true=>exact .inl rfl
    .rw[oz u];exact .inr (.inl rfl)
   .exact .inr (.inl (AV h U f).2)
  .have A:=cB hi;have E:=(qW F A).1;show ad ct.S j=b;rw[K j E];exact s4 nd1 i j b hi W E
  .show ad (S'++bs) (c.S.length+i)=b;rw[<-s2,wc];exact zP W
  .show(if c.S.length+i<c.S.length then _ else _)=_;rw[Zh,dB,hx]
  .exact M k h (λe=>q k e rfl) f b y u V
  .obtain⟨C,w,D,H,J⟩:=p k h (λe=>q k e rfl) f;have:=P.inj s k b B (by rw[D,gy];exact J) u (H.trans e);subst this;rw[D,pY]at B;cases B
  .have E:=(qW F A).1;cases r:(ad v.S j).dim with
   |none=>exact(f r).elim
   |some d=>
    obtain⟨C,w⟩:=t.al j d E r;exact⟨C,w,λb y u V=>t.ln j d b y E r u V⟩
  .rw[<-X];exact P.fbk k b f u
  .refine⟨by simp only[id,ct,bD,s2];omega,λd' I=> ?_⟩;obtain⟨C,w,D,H,J⟩:=p j A q (by rw[show id j=j from rfl]at I;rw[I];simp);rw[show id j=j from rfl,w]at I;refine⟨d',by rw[D];exact I,rfl, ?_,rfl⟩;show(if j<c.S.length then c.μ j else _)=_;rw[zE A,H]
  .obtain⟨C,w,D,H,J⟩:=p k h (λe=>q k e rfl) (rk B);rw[w,pY]at B;cases B
  .obtain⟨C,w,D,H,J⟩:=p k h (λe=>q k e rfl) (rk B);rw[w,pY]at B;cases B
  .exact .inr (by rw[X];exact W)
 obtain⟨r1,r2,r3⟩:=g.all hR P hd he hf;exact⟨ct,rfl,rfl,rfl,λk h=>zE h,r1,r2,r3,λk h q f=>⟨(p k h q f).1,M k h q f⟩⟩
end
section
open Bool renaming or_eq_false_iff -> aB
open List renaming cons_append -> bB, length_append -> bD, mem_of_getElem? -> cB, nodup_append -> cD
open Nat renaming zero_add -> aD, add_sub_cancel_left -> dB
theorem X2 (K:Rel c)
  (A:L0 c.S fx=Za) (P:sk.fxRo=Za) (U:rL c.S c.S.length fx sk vals=O st) (he:ud id sk st.ls=O (vs,fs,bs)) (hf:F2 (VRel c) vals as) (hS:zS fx fs (ov fx (sY st.m) Za 0 c.S)=O S'):
  ∃ct:Ctx,ct.Z=c.Z/\ct.S=S'++bs/\ct.fb=c.fb/\(∀k,k<c.S.length->ct.μ k=c.μ k)/\Le c ct/\Rel ct/\F2 (VRel ct) vs as:=by
 obtain⟨s1,I,s3,W⟩:=pn hS;rw[rj]at I W;obtain⟨M,_⟩:=uc U;have H:=ua M;rw[cD]at H;obtain⟨Q,_,_⟩:=H
 let ct:Ctx:=⟨λi=>if i<c.S.length then c.μ i else match st.m[i-c.S.length]? with
  |some x=>DY c x
  |none=>Y,S'++bs,c.Z,c.fb⟩
 have B: ∀k,k<c.S.length->ad ct.S k=ad S' k:=λk n=>rP (by rw[I];exact n)
 have C: ∀k,k<c.S.length->k∉fx->ad ct.S k=ad (ov fx (sY st.m) Za 0 c.S) k:=λk n q=>by rw[B k n,s3 k q]
 have p: ∀k,k<c.S.length->k∉fx->(ad ct.S k).dim≠Y->(k∉sY st.m∨(ad c.S k).frozen=Za)/\ad ct.S k=(ad c.S k).freeze/\(ad c.S k).dim≠Y:=by
  intro k n q f;rw[C k n q]at f⊢;obtain⟨h1,u⟩:=AV n q f;rw[u]at f;simp only[zC]at f u;rw[gy]at f;exact⟨h1,u,f⟩
 have g:GT c c ct c.S.length id fx sk st fs bs:=by
  refine⟨rfl,rfl,by simp[ct,I],λk n q=> ?_,λi j b V E=> ?_,λj t=>(qW A t).1,λi b E=> ?_,λ_=>rfl,λk n=>zE n,λi x hx=> ?_,λ_ _ h _=>h,λ_ _ _ h=>h,Nat.le_refl _,λk n q f b y w L=>L,λk n q f s hs r b w e=> ?_,λj t f=>⟨rfl,rfl,λb y _ L=>⟨y,L,rfl⟩⟩,λj t=>(qW A t).2,
   λ_ _ _ _ e=>e,λk b f w=>K.fbk k b f w,λj t q=> ?_,λk n q r b y w L=> ?_,λk n q r s hs hsd b w e=> ?_,λb E=> .inr E,λj t=>(qW A t).1,P, .inr λk n q f=>by rw[(p k n (λe=>q k e rfl) f).2.1,pY]⟩
  .have D:k∉fx:=λe=>q k e rfl
   rw[C k n D];by_cases f:(ad (ov fx (sY st.m) Za 0 c.S) k).dim=Y
   .rw[ri n,aD,oz D]at f⊢;by_cases w:k∈sY st.m
    .rw[pj.2 w]at f⊢;cases r:(ad c.S k).frozen with
     |false=>exact .inr (.inr ⟨rfl,rfl⟩)
     |true=>exact .inl rfl
    .rw[oz w];exact .inr (.inl rfl)
   .exact .inr (.inl (AV n D f).2)
  .have t:=cB V;have F:=(qW A t).1;show ad ct.S j=b;rw[B j F];exact W Q i j b V E F
  .show ad (S'++bs) (c.S.length+i)=b;rw[<-I,wc];exact zP E
  .show(if c.S.length+i<c.S.length then _ else _)=_;rw[Zh,dB,hx]
  .obtain⟨h1,u,J⟩:=p k n (λe=>q k e rfl) f;have:=K.inj s k b r J w e;subst this;rcases hs with hs|hs
   .exact q s hs rfl
   .rcases h1 with h1|h1
    .exact h1 hs
    .rw[h1]at r;cases r
  .refine⟨by simp only[id,ct,bD,I];omega,λX v=> ?_⟩;obtain⟨h1,u,J⟩:=p j t q (by rw[show id j=j from rfl]at v;rw[v];simp);rw[show id j=j from rfl,u,gy]at v;refine⟨X,v,rfl, ?_,rfl⟩;show(if j<c.S.length then c.μ j else _)=_;rw[zE t]
  .obtain⟨h1,u,J⟩:=p k n (λe=>q k e rfl) (rk r);rw[u,pY]at r;cases r
  .obtain⟨h1,u,J⟩:=p k n (λe=>q k e rfl) (rk r);rw[u,pY]at r;cases r
 obtain⟨r1,r2,r3⟩:=g.all K K U he hf;exact⟨ct,rfl,rfl,rfl,λk n=>zE n,r1,r2,r3⟩
theorem Qp {c1:Ctx}(f:Le c c1)(t:zS fx fs (ov fx mov Za 0 c.S)=O S')(r:c1.S=S'++bs)
  (h: ∀k,k<c.S.length->k∉fx->(k∉mov∨(ad c.S k).frozen=Za)->(ad c.S k).dim≠Y->∀b y,c.μ k=O b->c.Z.m b=O y->c1.Z.m b=O y):Within c c1 fx mov:=by
 obtain⟨v,q,u,w⟩:=pn t;rw[rj]at q;refine⟨f,λk n p g=> ?_,h⟩;rw[r,rP (by rw[q];exact n),u k p,ri n,aD,oz p];rcases g with g|hz
 .rw[oz g];rfl
 .cases qm k mov with
  |false=>rfl
  |true=>rw[hz];simp[DI hz]
section
variable {ctf ct:Ctx}
theorem VRel.thaw (t:ct.μ=ctf.μ)(w:ct.Z=ctf.Z)(r:ct.S.length=ctf.S.length)(q: ∀k,(ad ct.S k).dim=(ad ctf.S k).dim): ∀{v:VV} {a:Value},VRel ctf v a->alV v=Zb->VRel ct v a
 |_,_, .undef a,_=> .undef a
 |_,_, .bool b,_=> .bool b
 |_,_, .int k n,_=> .int k n
 |_,_, .str A,_=> .str A
 |_,_, .nilp,_=> .nilp
 |_,_, .nils,_=> .nils
 |_,_, .nilf,_=> .nilf
 |_,_, .ptr p f g,_=> .ptr (by rw[r];exact p) f λd h=>by rw[q]at h;rw[t];exact g d h
 |_,_, .it p f A g,_=> .it (by rw[r];exact p) f A λd h=>by rw[q]at h;rw[t];exact g d h
 |_,_, .bld p f g,_=> .bld (by rw[r];exact p) f λd h=>by rw[q]at h;rw[t];exact g d h
 |_,_, .pix p f C g,_=> .pix (by rw[r];exact p) f C λd h=>by rw[q]at h;rw[t];exact g d h
 |_,_, .pel p f g,_=> .pel (by rw[r];exact p) f λd h=>by rw[q]at h;rw[t];exact g d h
 |_,_, .pin _ _ _ _,h=>by cases h
 |_,_, .lstn _,h=>by cases h
 |_,_, .tgtn _,h=>by cases h
 |_,_, .tgt _ _ _ _ _,h=>by cases h
 |_,_, .lst _ _ _ _ _ _ _,h=>by cases h
 |_,_, .full p f g,_=> .full (by rw[r];exact p) f λd h=>by
  rw[q]at h;obtain⟨n,B,u⟩:=g d h;refine⟨n,B, ?_⟩;unfold IN at u⊢;rw[t,w];exact u
 |_,_, .part p f g,_=> .part (by rw[r];exact p) f λd h=>by
  rw[q]at h;have u:=g d h;unfold IN at u⊢;rw[t,w];exact u
 |_,_, .fn f g,h=>by
  simp only[alV,aB]at h;exact .fn (go f h.1) (go g h.2)
 |_,_, .agg f,h=>by
  simp only[alV]at h;exact .agg (go f h)
 |_,_, .tup f,h=>by
  simp only[alV]at h;exact .tup (go f h)
where
 go: ∀{l:List VV} {m:List Value},F2 (VRel ctf) l m->QO l=Zb->F2 (VRel ct) l m
  |_,_, .nil,_=> .nil
  |_,_, .cons f g,h=>by
   simp only[QO,aB]at h;exact .cons (VRel.thaw t w r q f h.1) (go g h.2)
theorem IL : ∀{s:Sh} (x:El s),s.al=Zb->QO (dx s x)=Zb
 | .int _,_,_=>rfl
 | .bool,_,_=>rfl
 | .str,_,_=>rfl
 | .list _,_,h=>by cases h
 | .pair a b,x,h=>by
  simp only[Sh.al,aB]at h;have f:=IL x.1 h.1;have g:=IL x.2 h.2;simp only[dx];revert f;generalize dx a x.1=l;intro f;induction l with
  |nil=>exact g
  |cons v l n=>
   simp only[QO,aB,bB]at f⊢;exact⟨f.1,n f.2⟩
theorem at8 {l m:List VV}(f:QO l=Zb)(g:QO m=Zb):QO (l++m)=Zb:=by
 induction l with
 |nil=>exact g
 |cons v l h=>
  simp only[QO,aB,bB]at f⊢;exact⟨f.1,h f.2⟩
theorem ab0 (h:alB b=Zb):QO b.vals=Zb:=by
 cases b with
 |dead=>rfl
 |cells g z l=>exact h
 |arr s z l=>
  simp only[Blk.vals];induction l with
  |nil=>rfl
  |cons x l f=>rw[jd];exact at8 (IL x h) (f h)
theorem thaw {c:Ctx}{S2:ah}{vs:List VV}{as:List Value}(hR:Rel c)(g:Le c ctf)(r:Rel ctf)(hf:F2 (VRel ctf) vs as)(hal:QO vs=Zb)(A:S2.length=ctf.S.length)(W: ∀k,k<c.S.length->ctf.μ k=c.μ k)
  (Q: ∀k,(ad S2 k=ad ctf.S k/\((ad ctf.S k).dim≠Y->((ad ctf.S k).frozen=Zb/\alB (ad ctf.S k)=Zb)∨(k<c.S.length/\ad ctf.S k=ad c.S k/\∀b y,c.μ k=O b->c.Z.m b=O y->ctf.Z.m b=O y)))∨
   (k<c.S.length/\ad S2 k=ad c.S k/\ad ctf.S k=(ad c.S k).freeze/\((ad c.S k).dim≠Y->∀b y,c.μ k=O b->c.Z.m b=O y->ctf.Z.m b=O y))):
  Le c ⟨ctf.μ,S2,ctf.Z,ctf.fb⟩/\Rel ⟨ctf.μ,S2,ctf.Z,ctf.fb⟩/\F2 (VRel ⟨ctf.μ,S2,ctf.Z,ctf.fb⟩) vs as:=by
 have J: ∀k,(ad S2 k).dim=(ad ctf.S k).dim:=by
  intro k;rcases Q k with⟨h,_⟩|⟨_,q,f,_⟩
  .rw[h]
  .rw[q,f,gy]
 have F:Le c ⟨ctf.μ,S2,ctf.Z,ctf.fb⟩:=by
  refine⟨by rw[A];exact g.len,λk d L h=>g.al k d L (by rw[<-J];exact h),λk V t=> ?_,λk d b y L h=>g.ln k d b y L (by rw[<-J];exact h),g.un,λb y hy hn=> ?_,g.n,g.fb⟩
  .rcases Q k with⟨h,_⟩|⟨_,q,f,_⟩
   .rw[h];exact g.fz k V t
   .exact q
  .rintro⟨k,q,f⟩;rcases Q k with⟨h,_⟩|⟨B,P,h5,_⟩
   .exact g.ow b y hy hn ⟨k,by rw[<-h];exact q,f⟩
   .exact hn ⟨k,by rw[<-P];exact q,by rw[<-W k B];exact f⟩
 have hth: ∀{v:VV} {a:Value},VRel ctf v a->alV v=Zb->VRel ⟨ctf.μ,S2,ctf.Z,ctf.fb⟩ v a:=λq f=>VRel.thaw (ctf:=ctf) (ct:=⟨ctf.μ,S2,ctf.Z,ctf.fb⟩) rfl rfl A J q f
 have H: ∀{l:List VV} {m:List Value},F2 (VRel ctf) l m->QO l=Zb->F2 (VRel ⟨ctf.μ,S2,ctf.Z,ctf.fb⟩) l m:=λq f=>VRel.thaw.go (ctf:=ctf) (ct:=⟨ctf.μ,S2,ctf.Z,ctf.fb⟩) rfl rfl A J q f
 refine⟨F,⟨r.ok,λk E b V t U D=> ?_,λk=> ?_,λk b t U=>r.fbk k b (by rw[<-J];exact t) U,r.fbl⟩,H hf hal⟩
 .have w:(ad ctf.S E).dim≠Y:=by rw[<-J];exact t
  rcases Q k with⟨h,_⟩|⟨B,P,h5,_⟩
  .exact r.inj k E b (by rw[<-h];exact V) w U D
  .rw[P]at V;rw[W k B]at U
   have I:(E<c.S.length/\(ad c.S E).dim≠Y)∨(ad ctf.S E).frozen=Zb:=by
    rcases Q E with⟨g1,C⟩|⟨g1,C,g3,_⟩
    .rcases C w with⟨C,_⟩|⟨C,g3,_⟩
     .exact .inr C
     .exact .inl ⟨C,by rw[<-g3];exact w⟩
    .exact .inl ⟨g1,by rw[<-C];exact t⟩
   rcases I with⟨g1,C⟩|g1
   .rw[W E g1]at D;exact hR.inj k E b V C U D
   .exact(r.inj E k b g1 (by rw[h5,gy];exact rk V) D (by rw[W k B];exact U)).symm
 .intro d K
  have old:k<c.S.length->ad S2 k=ad c.S k->(∀b y,c.μ k=O b->c.Z.m b=O y->ctf.Z.m b=O y)->1<=d.1/\
   ((d.2=0/\ctf.μ k=Y)∨∃b y M p,ctf.μ k=O b/\ctf.Z.m b=O y/\y.es=d.1/\((ad S2 k).frozen=Zb->y.own=Za)/\y.cells=M++p/\F2 (VRel ⟨ctf.μ,S2,ctf.Z,ctf.fb⟩) (ad S2 k).vals M):=by
   intro q f B;obtain⟨q1,u⟩:=hR.blk k d (by rw[<-f];exact K);refine⟨q1, ?_⟩;rcases u with⟨u,q3⟩|⟨b,y,M,p,u,q3,q4,q5,q6,q7⟩
   .exact .inl ⟨u,(W k q).trans q3⟩
   .exact .inr ⟨b,y,M,p,(W k q).trans u,B b y u q3,q4,by rw[f];exact q5,q6,by rw[f];exact VRel.frames F q7⟩
  rcases Q k with⟨h,h'⟩|⟨B,P,h5,h6⟩
  .have X:(ad ctf.S k).dim=O d:=by rw[<-J];exact K
   rcases h' (by rw[X];simp)with⟨q,f⟩|⟨q,f,B⟩
   .obtain⟨q1,u⟩:=r.blk k d X;refine⟨q1, ?_⟩;rcases u with u|⟨b,y,M,p,u,q3,q4,q5,q6,q7⟩
    .exact .inl u
    .exact .inr ⟨b,y,M,p,u,q3,q4,by rw[h];exact q5,q6,by rw[h];exact H q7 (ab0 f)⟩
   .exact old q (h.trans f) B
  .exact old B P (h6 (by rw[<-P,K];simp))
end
end
end Go.V
