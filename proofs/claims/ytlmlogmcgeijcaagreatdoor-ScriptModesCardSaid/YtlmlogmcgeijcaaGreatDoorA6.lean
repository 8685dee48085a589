/- A part of the proof. No condition. -/
import Derived.Test.YtlmlogmcgeijcaaGreatDoorA5
set_option linter.unusedVariables false
set_option linter.unusedSimpArgs false
set_option linter.unusedSectionVars false
namespace Go.V
open Go.Ab
open Option renaming some->O,none->Y
open Bool renaming true->Za,false->Zb
open Decidable renaming decide->Zc
variable {i x z:Operand}{a:Value}{s:Sh}{b:Int}{blk:Blk}{op:AOp}{l:Zd}{kd:IntKind}{Z:Hp}
section
open Bool renaming and_eq_true -> bB
open List renaming drop_take -> cM, length_append -> cS
open Nat renaming eq_of_beq_eq_true -> aB, mul_le_mul_right -> aD, le_refl -> bD, add_mul -> cB, le_of_ble_eq_true -> cD, beq -> cK, le_trans -> cL, add_assoc -> cN, eq_of_mul_eq_mul_right -> cO, mul_div_cancel -> cP, zero_add -> cQ
open Option renaming map_some -> cR, map_none -> cT
section
variable {β:Type} {T:fM} {c:Ctx} {e:cm} {ea:cf} {k:VV->ai->Option β} {y:β} {d:List Nat}
theorem Ga.len {q g n:Nat}{dm:Nat×Nat}(h:Ga c q g n dm a): ∃p f,a= .slice p n f/\n<=f:=by
 rcases h with⟨rfl,_,rfl,_,_⟩|⟨b,f,x,rfl,_,_,h,_⟩
 .exact⟨Y,0,rfl,bD _⟩
 .exact⟨_,f,rfl,h⟩
theorem Yb (D:dv c){v:VV}{n:Nat}(h:lenOf c.S v=O n)(r:VRel c v a)(H: ∀l,v≠ .str l): ∃p A,a= .slice p n A/\n<=A:=by
 cases v<;>simp only[lenOf]at h<;>try(cases h;done)
 case nils=>injection h with h;subst h;cases r;exact⟨Y,0,rfl,bD _⟩
 case str l=>exact(H l rfl).elim
 case lst s l=>
  injection h with h;subst h
  cases r with
  |lstn=>exact⟨_,0,rfl,bD _⟩
  |lst _ _ _ f j _ _=>subst f;exact⟨_,_,rfl,j⟩
 case part q lo m=>
  cases u:(ae c.S q).live with
  |false=>rw[u]at h;cases h
  |true=>
   rw[u]at h;injection h with h;subst h
   obtain⟨C,E⟩:=ti u;cases r with
   |part F _ o=>exact(o C E).len
 case full q=>
  cases r with
  |full F _ o=>
   cases g:ae c.S q with
   |dead=>rw[g]at h;cases h
   |arr s z l=>
    rw[g]at h;injection h with h;subst h
    obtain⟨n,f,j⟩:=o (s.w,l.length*s.w) (by rw[g];rfl);have:n=l.length:=cO (mM s) f;subst this;exact j.len
   |cells t z l=>
    rw[g]at h;injection h with h;subst h
    obtain⟨n,f,j⟩:=o (t,l.length) (by rw[g];rfl);have B:=(D.blk q (t,l.length) (by rw[g];rfl)).1
    have:n=l.length / t:=by
     simp only at f B;rw[<-f,cP _ B]
    subst this;exact j.len
theorem aC4 (f:dv c)(j:au c e ea){n:Nat}(o: ∀l,ev e x≠ .str l)(m:lenOf c.S (ev e x)=O n)(h:k (.int .i64 n) c.S=O y):bu T (.len x) ea c.Z (gx c d k y):=by
 obtain⟨p,q,g,_⟩:=Yb f m (bv j x) o;exact bw (by simp only[AOp.run,g]) (gx.same f (.int _ _) h)
theorem al3 (m:dv c)(n:au c e ea)(o:ev e x= .str l)(h:k (.int .i64 l.length) c.S=O y):bu T (.lenS x) ea c.Z (gx c d k y):=by
 have f:=bv n x;rw[o]at f;obtain⟨s,g,j⟩:=f.str_inv;refine bw (v:= .int .i64 s.size) (by simp only[AOp.run,g]) (gx.same m ?_ h);rw[<-j,rC];exact .int _ _
theorem GD (n:au c e ea){f:Option Operand}{a:Int}{m:Nat}(h:CI (f.map (ev e))=O a)(g:0<=a)(o:a<=m):mS m 0 (f.map ea.ev)=O a.toNat:=by
 cases f with
 |none=>
  simp only[cT,CI]at h;injection h with h;subst h
  rfl
 |some x=>
  simp only[cR,CI]at h⊢;obtain⟨kd,j⟩:=La h (bv n x);rw[j];exact zE ⟨g,o⟩
theorem GC (o:au c e ea){f:Option Operand}{n g:Nat}(h:wc n (f.map (ev e))=O b)(j:0<=b)(q:b<=n)(p:n<=g):mS g n (f.map ea.ev)=O b.toNat:=by
 cases f with
 |none=>
  simp only[cT,wc]at h;injection h with h;subst h
  simp[mS]
 |some x=>
  simp only[cR,wc]at h⊢;obtain⟨kd,m⟩:=La h (bv o x);rw[m];exact zE ⟨j,by omega⟩
theorem rD {a:Int}{n:Nat}(h:eY a b n=Za):0<=a/\a<=b/\b<=n:=by
 unfold eY at h;rw[bB,bB]at h;exact⟨of_decide_eq_true h.1.1,of_decide_eq_true h.1.2,of_decide_eq_true h.2⟩
theorem EW (r:au c e ea){es:Nat}{j t:Option Operand}{p:Option Addr}{n f:Nat}{a:Int}(F:ea.ev x= .slice p n f)(D:n<=f)(E:f≠0->∀q,p=O q->∃z,c.Z.m q.block=O z/\z.es=es)
  (h:CI (j.map (ev e))=O a) (g:wc n (t.map (ev e))=O b) (B:eY a b n=Za):(AOp.slice es x j t).run ea c.Z=O (.slice (p.map (MR · (a.toNat*es))) (b.toNat-a.toNat) (f-a.toNat),c.Z):=by
 obtain⟨u,H,v⟩:=rD B
 have C:(f==0||Au c.Z es p j)=Za:=by
  by_cases o:f=0
  .simp[o]
  .unfold Au;split
   .simp
   .simp
   .rename_i q;obtain⟨z,w,A⟩:=E o q rfl;rw[w];simp[A]
 simp only[AOp.run,F,C,if_true,GC r g (by omega) v D,GD r h u (m:=b.toNat) (by omega)]
theorem Ga.cut {q v n:Nat}{dm:Nat×Nat}{p:Option Addr}{f A B:Nat}(h:Ga c q v n dm (.slice p n f))(E:A<=B)(F:B<=n):Ga c q (v+A) (B-A) dm (.slice (p.map (MR · (A*dm.1))) (B-A) (f-A)):=by
 rcases h with⟨m,r,t,u,o⟩|⟨b,w,z,m,r,t,u,o,D⟩
 .injection m with g C j
  subst g;subst j;have:A=0:=by omega
  have:B=0:=by omega
  subst A;subst B;exact .inl ⟨rfl,by omega,rfl,u,o⟩
 .injection m with g C j
  subst g;subst j;refine .inr ⟨b,f-A,z, ?_,r,cL (aD _ (by omega)) t,by omega,o,cL (aD _ (by omega)) D⟩;simp only[cR,MR,cB]
theorem Ga.es (v:dv c){q B n j:Nat}{dm:Nat×Nat}{p:Option Addr}(w:(ae c.S q).dim=O dm)(h:Ga c q B n dm (.slice p n j)): ∀z,p=O z->∃blk,c.Z.m z.block=O blk/\blk.es=dm.1:=by
 intro z A;subst A;rcases h with⟨g,_⟩|⟨b,o,x,g,r,_,_,E,_⟩
 .cases g
 .injection g with f C D
  injection f with f
  subst f;obtain⟨blk,_,_,t,u,_⟩:=v.block w r;exact⟨blk,t,u⟩
theorem G6 (u:dv c)(C:au c e ea){es q o n:Nat}{dm:Nat×Nat}{B w:Option Operand}{a:Int}(j:(ae c.S q).dim=O dm)(m:es=dm.1)(g:Ga c q o n dm (ea.ev x))
  (t:CI (B.map (ev e))=O a) (r:wc n (w.map (ev e))=O b) (v:eY a b n=Za) (h:k (.part q (o+a.toNat) (b.toNat-a.toNat)) c.S=O y):bu T (.slice es x B w) ea c.Z (gx c d k y):=by
 obtain⟨p,E,A,D⟩:=g.len;rw[A]at g;obtain⟨H,I,J⟩:=rD v;subst m;refine bw (EW C A D (λ_=>g.es u j) t r v) (gx.same u ?_ h);refine .part (me (by rw[j];simp)) rfl λF f=> ?_
 rw[j]at f;injection f with f
 subst f;exact g.cut (by omega) (by omega)
theorem tdt {α:Type}(L:List α){A B N p:Nat}(h:B<=N):((((L.drop p).take N).take B).drop A)=(L.drop (p+A)).take (B-A):=by
 rw[List.take_take,Nat.min_eq_left h,cM,List.drop_drop]
theorem Y8 (H:dv c)(D:au c e ea){es:Nat}{X V:Option Operand}(h:Tn c.S es (ev e x) (X.map (ev e)) (V.map (ev e)) k=O y):bu T (.slice es x X V) ea c.Z (gx c d k y):=by
 have B:=bv D x;unfold Tn at h;cases f:lenOf c.S (ev e x)with
 |none=>rw[f]at h;cases h
 |some n=>
  rw[f]at h;simp only at h;cases g:CI (X.map (ev e))with
  |none=>rw[g]at h;cases h
  |some a=>
   cases j:wc n (V.map (ev e))with
   |none=>rw[g,j]at h;cases h
   |some b=>
    rw[g,j]at h;simp only at h;split at h
    .rename_i I;rw[I]at B f;obtain⟨t,u⟩:=aw h
     have hn0:n=0:=by
      simp only[lenOf]at f;injection f with f
      exact f.symm
     subst hn0;obtain⟨v,A,F⟩:=rD t;have ha0:a=0:=by omega
     have hb0:b=0:=by omega
     subst a;subst b;have hxe:ea.ev x= .slice Y 0 0:=by generalize ea.ev x=xa at B;cases B;rfl
     exact bw (EW D hxe (bD _) (λ_ q h=>by cases h) g j t) (gx.same H .nils u)
    .rename_i s l I;rw[I]at B f;simp only[lenOf]at f;injection f with f
     subst f;obtain⟨t,u⟩:=aw h;have M:=aB t
     have U:eY a b l.length=Za->k (.lst s (pm l a b)) c.S=O y->bu T (.slice es x X V) ea c.Z (gx c d k y):=by
      intro N W;obtain⟨v,A,F⟩:=rD N;generalize Q:ea.ev x=xa at B;cases B with
      |lstn hq=>
       have hb0:b=0:=by simp at F;omega
       have ha0:a=0:=by omega
       subst a;subst b;refine bw (EW D Q (bD _) (λh=>(h rfl).elim) g j N) (gx.same H ?_ W);refine .lstn λz hz=> ?_
       obtain⟨z',_,h'⟩:=Option.map_eq_some_iff.1 hz;rw[<-h'];rfl
      |lst hn hy L C h7 h8 h9=>
       rename_i bb p cp z;refine bw (EW D Q h7 (λ_ q h=>by injection h with h;subst h;exact⟨z,hy,L.trans M.symm⟩) g (by rw[C];exact j) (by rw[C];exact N)) (gx.same H ?_ W);subst M;have P:(pm l a b).length=b.toNat-a.toNat:=by simp only[pm,List.length_drop,List.length_take];omega
       refine .lst hn hy L P.symm (by omega) ?_ ?_
       .have:a.toNat*s.w+(b.toNat-a.toNat)*s.w<=l.length*s.w:=by rw[<-cB];exact aD _ (by omega)
        simp only;rw[C]at h8;omega
       .simp only[pm];rw[yr,kA];have J:=(h9.take (b.toNat*s.w)).drop (a.toNat*s.w);rw[tdt _ (by rw[C];exact aD _ (by omega)),<-Nat.sub_mul]at J;exact J
     split at u
     .rename_i e1 e2
      have N:eY a b l.length=Za:=by
       rw[e1]at g;rw[e2]at j;simp only[CI]at g;simp only[wc]at j;injection g with g
       injection j with j
       subst g;subst j;simp[eY]
      refine U N ?_;rw[e1]at g;rw[e2]at j;simp only[CI]at g;simp only[wc]at j;injection g with g
      injection j with j
      subst g;subst j;simp only[pm,Int.toNat_natCast,Int.toNat_zero,List.drop_zero,List.take_length];exact u
     .obtain⟨v,A⟩:=aw u;exact U v A
    .rename_i q I;rw[I]at B f;cases B with
     |full W _ K=>
      cases r:ae c.S q with
      |dead=>rw[r]at h;cases h
      |arr s z l=>
       rw[r]at h;obtain⟨t,u⟩:=aw h;obtain⟨v,A⟩:=aw u;simp only[lenOf,r]at f;injection f with f
       obtain⟨n',F,C⟩:=K (s.w,l.length*s.w) (by rw[r];rfl);have:n'=n:=by rw[<-f];exact cO (mM s) F
       subst this;exact G6 H D (by rw[r];rfl) (aB t) C g j v (by rw[cQ];exact A)
      |cells E z l=>
       rw[r]at h;obtain⟨t,u⟩:=aw h;obtain⟨v,A⟩:=aw u;rw[bB]at t;simp only[lenOf,r]at f;injection f with f
       obtain⟨n',F,C⟩:=K (E,l.length) (by rw[r];rfl);have he1:=aB t.1;have he2:=cD t.2
       have:n'=n:=by
        simp only at F;rw[<-f,<-F,cP _ (by omega)]
       subst this;exact G6 H D (by rw[r];rfl) he1 C g j v (by rw[cQ];exact A)
    .rename_i q o m I;rw[I]at B f;cases B with
     |part W _ K=>
      simp only[lenOf]at f;cases r:ae c.S q with
      |dead=>rw[r]at h;cases h
      |arr s z l=>
       rw[r]at h f;injection f with f
       subst f;obtain⟨t,u⟩:=aw h;obtain⟨v,A⟩:=aw u;exact G6 H D (dm:=(s.w,l.length*s.w)) (by rw[r];rfl) (aB t) (K _ (by rw[r];rfl)) g j v A
      |cells E z l=>
       rw[r]at h f;injection f with f
       subst f;obtain⟨t,u⟩:=aw h;obtain⟨v,A⟩:=aw u;rw[bB]at t;exact G6 H D (dm:=(E,l.length)) (by rw[r];rfl) (aB t.1) (K _ (by rw[r];rfl)) g j v A
    .cases h
theorem KQ (s:ByteArray)(a b:Nat):cw (s.extract a b)=((cw s).take b).drop a:=by
 simp[cw,ByteArray.data_extract,Array.toList_extract,List.extract_eq_take_drop,List.map_drop,List.map_take,cM]
theorem RC (A:dv c)(g:au c e ea){q o:Option Operand}(h:Ip c.S (ev e x) (q.map (ev e)) (o.map (ev e)) k=O y):bu T (.sliceStr x q o) ea c.Z (gx c d k y):=by
 have p:=bv g x;unfold Ip at h;split at h
 .rename_i l B;rw[B]at p;obtain⟨s,r,rfl⟩:=p.str_inv;split at h
  .rename_i a b j f;obtain⟨t,u⟩:=aw h;obtain⟨w,C,n⟩:=rD t;rw[rC]at n f;refine bw (v:= .string (s.extract a.toNat b.toNat)) ?_ (gx.same A (.str (KQ s _ _)) u);simp only[AOp.run,r,GC g f (by omega) n (bD _),GD g j w (m:=b.toNat) (by omega)]
  .cases h
 .cases h
theorem MC {dm:Nat×Nat}(h:blk.dim=O dm):blk.vals.length=dm.2:=by
 cases blk with
 |dead=>cases h
 |cells f z l=>injection h with h;subst h;rfl
 |arr s z l=>injection h with h;subst h;exact gk
theorem RB (V:dv c)(N:au c e ea){es n:Nat}{lo hi:Option Operand}(h:Io c.S es n (ev e x) (lo.map (ev e)) (hi.map (ev e)) k=O y):bu T (.sliceArr es n x lo hi) ea c.Z (gx c d k y):=by
 have hx:=bv N x;unfold Io at h;split at h
 .rename_i q o hv;rw[hv]at hx;split at h
  .rename_i es' l M;split at h
   .rename_i a b H F;obtain⟨K,X⟩:=aw h;simp only[bB]at K;obtain⟨⟨⟨⟨⟨D,h4⟩,E⟩,I⟩,h7⟩,L⟩:=K;have D:=aB D;have h4:=cD h4;have E:=aB E;have I:=cD I;have L:=of_decide_eq_true L;obtain⟨h9,W,A⟩:=rD h7;subst D;cases hx with
    |ptr hk _ hd=>
     have f:(ae c.S q).dim=O (es,l.length):=by rw[M];rfl
     obtain⟨J,Q,hp⟩:=hd _ f;obtain⟨z,cs,U,j,B,p,C,u⟩:=V.block f Q;rw[M]at p u;have P:=u.length;simp only[Blk.vals]at P;have hzl:l.length<=z.cells.length:=by rw[C,cS,P];omega
     have t:o / es*es=o:=Nat.div_mul_cancel (Nat.dvd_of_mod_eq_zero E);have hae:(o / es+a.toNat)*es=o+a.toNat*es:=by rw[cB,t]
     refine bw (v:= .slice (O ⟨J,o+a.toNat*es,Y⟩) (b.toNat-a.toNat) (n-a.toNat)) (Z':=c.Z) ?_ (gx.same V ?_ X)
     .simp only[AOp.run,hp,j];rw[zE ⟨p rfl,B,by omega⟩,GC N F (by omega) A (bD _)];simp only;rw[GD N H h9 (m:=b.toNat) (by omega)];simp only;rw[Zg]
     .refine .part hk rfl λd' g=> ?_
      rw[f]at g;injection g with g
      subst g;refine .inr ⟨J,n-a.toNat,z,by simp only[hae],Q, ?_,by omega,j, ?_⟩
      .have r:o / es+a.toNat+(b.toNat-a.toNat)=o / es+b.toNat:=by omega
       simp only;rw[r,cB,t];have:b.toNat*es<=n*es:=aD _ (by omega);omega
      .have r:o / es+a.toNat+(n-a.toNat)=o / es+n:=by omega
       simp only;rw[r,cB,t];omega
   .cases h
  .rename_i s l M;split at h
   .rename_i a b H F;obtain⟨K,X⟩:=aw h;simp only[bB]at K;obtain⟨⟨⟨⟨D,E⟩,I⟩,h7⟩,L⟩:=K;have D:=aB D;have E:=aB E;have I:=cD I;have L:=of_decide_eq_true L;obtain⟨h9,W,A⟩:=rD h7;subst D;subst E;cases hx with
    |ptr hk _ hd=>
     have f:(ae c.S q).dim=O (s.w,l.length*s.w):=by rw[M];rfl
     obtain⟨J,Q,hp⟩:=hd _ f;obtain⟨z,cs,U,j,B,p,C,u⟩:=V.block f Q;have P:=u.length;rw[MC f]at P;rw[M]at p;have hle:n*s.w<=l.length*s.w:=aD _ I;have hzl:l.length*s.w<=z.cells.length:=by rw[C,cS];simp only at P;omega
     have r:(a.toNat+(b.toNat-a.toNat))*s.w<=l.length*s.w:=aD _ (by omega);have h18:(a.toNat+(n-a.toNat))*s.w<=l.length*s.w:=aD _ (by omega);refine bw (v:= .slice (O ⟨J,0+a.toNat*s.w,Y⟩) (b.toNat-a.toNat) (n-a.toNat)) (Z':=c.Z) ?_ (gx.same V ?_ X)
     .simp only[AOp.run,hp,j];rw[zE ⟨p rfl,B,by omega⟩,GC N F (by omega) A (bD _)];simp only;rw[GD N H h9 (m:=b.toNat) (by omega)];simp only;rw[Zg]
     .refine .part hk rfl λd' g=> ?_
      rw[f]at g;injection g with g
      subst g;exact .inr ⟨J,n-a.toNat,z,by simp only[cQ],Q,r,by omega,j,by simp only;omega⟩
   .cases h
  .cases h
 .cases h
theorem aD4 (H:dv c)(I:au c e ea){n:Nat}(h:Ws c.S (an0 c.S n (ev e x)) k=O y):bu T (.off n x) ea c.Z (gx c d k y):=by
 have C:=bv I x
 have p: ∀w b o,ea.ev x= .pointer (O ⟨b,o,Y⟩)->VRel c w (.pointer (O ⟨b,o+n,Y⟩))->k w c.S=O y->bu T (.off n x) ea c.Z (gx c d k y):=by
  intro w b o F L r;exact bw (by simp only[AOp.run,F]) (gx.same H L r)
 generalize ev e x=N at*;cases N<;>simp only[an0]at h<;>try(cases h;done)
 case ptr q o=>
  cases g:(ae c.S q).live with
  |false=>rw[g]at h;cases h
  |true=>
   rw[g]at h;obtain⟨t,f⟩:=ti g;cases C with
   |ptr r _ u=>
    obtain⟨b,v,B⟩:=u t f;exact p _ b o B (.ptr r rfl λE _=>⟨b,v,rfl⟩) h
 case pix q o m i=>
  cases g:(ae c.S q).live with
  |false=>rw[g]at h;cases h
  |true=>
   rw[g]at h;obtain⟨t,f⟩:=ti g;cases C with
   |pix r F K u=>
    obtain⟨b,v,B⟩:=u t f;cases A:cK n 0 with
    |false=>rw[A]at h;cases h
    |true=>
     rw[A]at h;have:=aB A;subst this;exact p _ b (o+i) B (.pix r rfl K λE _=>⟨b,v,rfl⟩) h
 case pel q i o=>
  cases g:(ae c.S q).live with
  |false=>rw[g]at h;cases h
  |true=>
   rw[g]at h;obtain⟨t,f⟩:=ti g;cases C with
   |pel r _ u=>
    obtain⟨b,v,B⟩:=u t f;refine p _ b _ B (.pel r rfl λE j=>⟨b,v, ?_⟩) h;rw[f]at j;injection j with j
    subst j;rw[cN]
 case pin s z o=>
  generalize D:ea.ev x=P at C;cases C with
  |pin A M g J=>
   refine p _ _ _ D ?_ h;rw[cN];exact .pin A M g J
theorem Up {es:Nat}{b o n f:Nat}{z:Int}(m:ea.ev x= .slice (O ⟨b,o,Y⟩) n f)(h:ea.ev i= .int kd z)(g:0<=z)(j:z<n):
  (AOp.idx es x i).run ea c.Z=O (.pointer (O ⟨b,o+z.toNat*es,Y⟩),c.Z):=by
 simp only[AOp.run,m,h];rw[zE ⟨g,j⟩]
theorem A6 (j:dv c)(B:au c e ea){es q o n:Nat}{dm:Nat×Nat}{z:Int}{w:VV}(t:Ga c q o n dm (ea.ev x))(m:ea.ev i= .int kd z)(f:0<=z)(r:z<n)
  (u: ∀b,c.μ q=O b->VRel c w (.pointer (O ⟨b,o*dm.1+z.toNat*es,Y⟩))) (p:k w c.S=O y):bu T (.idx es x i) ea c.Z (gx c d k y):=by
 rcases t with⟨_,_,A,_,_⟩|⟨b,v,C,g,h,_⟩
 .omega
 .exact bw (Up g m f r) (gx.same j (u b h) p)
theorem aB5 (K:dv c)(J:au c e ea){es:Nat}(h:aj9 c.S es (ev e x) (ev e i) k=O y):bu T (.idx es x i) ea c.Z (gx c d k y):=by
 have M:=bv J x;have D:=bv J i;unfold aj9 at h;split at h
 .rename_i kd z hz;rw[hz]at D;have D:=D.int_inv;split at h
  .rename_i s l X;rw[X]at M;obtain⟨t,E⟩:=aw h;have t:=aB t;obtain⟨el,F,r⟩:=ah E;obtain⟨A,u,H⟩:=UN F;generalize hxa:ea.ev x=xa at M;cases M with
   |lstn=>simp at u;omega
   |lst hn hy he' I W Q v=>
    rename_i b p cp blk;subst t;refine bw (Up hxa D A (by rw[I];exact u)) (gx.same K ?_ r);have U:z.toNat*s.w+s.w<=l.length*s.w:=by rw[<-Nat.succ_mul];exact aD _ (by omega)
    have V:=(v.drop (z.toNat*s.w)).take s.w;rw[HY H,cM,List.drop_drop,List.take_take,Nat.min_eq_left (by rw[I];omega)]at V;exact VRel.pin (o:=0) hn hy (by rw[I]at Q;exact cL (Nat.le_of_eq (cN _ _ _)) (cL (Nat.add_le_add_left U _) Q)) V
  .rename_i q X;rw[X]at M;cases M with
   |full L _ N=>
    cases B:ae c.S q with
    |dead=>rw[B]at h;cases h
    |arr s z' l=>
     rw[B]at h;obtain⟨t,E⟩:=aw h;obtain⟨j,F,r⟩:=ah E;obtain⟨A,u,rfl,H⟩:=EL F;have f:(ae c.S q).dim=O (s.w,l.length*s.w):=by rw[B];rfl
     obtain⟨n,I,W⟩:=N _ f;have:n=l.length:=cO (mM s) I;subst this;refine A6 K J W D A u (λb C=> .pel L rfl λP g=>⟨b,C, ?_⟩) r;rw[f]at g;injection g with g
     subst g;rw[aB t];simp
    |cells es' z' l=>
     rw[B]at h;obtain⟨t,E⟩:=aw h;rw[bB]at t;have v:=aB t.1;have U:=cD t.2;subst v;obtain⟨j,F,r⟩:=ah E;obtain⟨A,u,rfl,H⟩:=EL F;have f:(ae c.S q).dim=O (es,l.length):=by rw[B];rfl
     obtain⟨n,I,W⟩:=N _ f
     have hn:n=l.length / es:=by
      simp only at I;rw[<-I,cP _ (by omega)]
     cases m:cK es 1 with
     |true=>
      rw[m]at r;have m:=aB m;subst m;refine A6 K J W D A (by rw[hn];exact u) (λb C=> .pix L rfl (by rw[Nat.div_one]at H;exact H) λP g=>⟨b,C,by simp⟩) r
     |false=>
      rw[m]at r;refine A6 K J W D A (by rw[hn];exact u) (λb C=> .ptr L rfl λP g=>⟨b,C,by simp⟩) r
  .rename_i q o n X;rw[X]at M;cases M with
   |part L _ N=>
    cases B:ae c.S q with
    |dead=>rw[B]at h;cases h
    |arr s z' l=>
     rw[B]at h;obtain⟨t,E⟩:=aw h;obtain⟨j,F,r⟩:=ah E;obtain⟨A,u,rfl,H⟩:=EL F;have f:(ae c.S q).dim=O (s.w,l.length*s.w):=by rw[B];rfl
     refine A6 K J (N _ f) D A u (λb C=> .pel L rfl λP g=>⟨b,C, ?_⟩) r;rw[f]at g;injection g with g
     subst g;rw[aB t,cB];simp
    |cells es' z' l=>
     rw[B]at h;obtain⟨t,E⟩:=aw h;rw[bB]at t;have v:=aB t.1;subst v;obtain⟨j,F,r⟩:=ah E;obtain⟨A,u,rfl,H⟩:=EL F;have f:(ae c.S q).dim=O (es,l.length):=by rw[B];rfl
     cases m:cK es 1 with
     |true=>
      rw[m]at r;have m:=aB m;subst m;refine A6 K J (N _ f) D A u (λb C=> .pix L rfl H λP g=>⟨b,C,by simp⟩) r
     |false=>
      rw[m]at r;refine A6 K J (N _ f) D A u (λb C=> .ptr L rfl λP g=>⟨b,C,by simp[cB]⟩) r
  .cases h
 .cases h
theorem aj8 (t:dv c)(u:au c e ea){ln es:Nat}(h:Uo c.S ln es (ev e x) (ev e i) k=O y):bu T (.idxA ln es x i) ea c.Z (gx c d k y):=by
 have A:=bv u x;have n:=bv u i;unfold Uo at h;split at h
 .rename_i q o kd z L M;rw[L]at A;rw[M]at n;have n:=n.int_inv;obtain⟨J,h⟩:=aw h;obtain⟨j,D,m⟩:=ah h;obtain⟨E,F,rfl,H⟩:=EL D;cases A with
  |ptr v _ I=>
    obtain⟨C,r⟩:=ti J;obtain⟨b,w,K⟩:=I C r
    have g:(AOp.idxA ln es x i).run ea c.Z=O (.pointer (O ⟨b,o+z.toNat*es,Y⟩),c.Z):=by
     simp only[AOp.run,K,n];rw[zE ⟨E,F⟩]
    refine bw g ?_;cases f:cK es 1 with
    |true=>
     rw[f]at m;have f:=aB f;subst f;exact gx.same t (.pix v rfl H λB p=>⟨b,w,by simp⟩) m
    |false=>
     rw[f]at m;exact gx.same t (.ptr v rfl λB p=>⟨b,w,rfl⟩) m
 .cases h
end
end
section
open Bool renaming and_eq_true -> bB
open List renaming length_append -> cD, length_take -> cK, take_of_length_le -> cL, replicate -> cQ, length_drop -> cS, length_nil -> cT, drop_zero -> cV, replicate_succ -> cW, append_assoc -> cX, flatten_cons -> cY, take_take -> cZ, drop_eq_nil_of_le -> dG, getD_eq_getElem?_getD -> dH, length_cons -> dI, take_append_of_le_length -> dJ
open Nat renaming beq -> aB, eq_of_beq_eq_true -> aD, le_refl -> bD, zero_add -> cB, add_mul -> cM, le_of_ble_eq_true -> cN, eq_of_mul_eq_mul_right -> cO, mul_le_mul_right -> cP, ble -> cR, min_eq_left -> cU, eq_zero_or_pos -> dA, min_le_left -> dB, mul_div_cancel -> dC, mul_one -> dD, mul_pos -> dE, zero_mul -> dF, le_of_mul_le_mul_right -> dK, mul_le_mul_left -> dL
open Option renaming getD_some -> dM
section
variable {β:Type} {T:fM} {c:Ctx} {e:cm} {ea:cf} {k:VV->ai->Option β} {y:β} {d:List Nat}
theorem Bf : ∀{z:List Value} {s:Sh},I6 z=O s->F2 (VRel c) (dq s (tx s)) z
 |[],s,h=>by simp[I6]at h
 |v::r,s,h=>by
  unfold I6 at h;split at h
  .rename_i f;injection f with g j
   subst g;subst j;injection h with h;subst h
   exact .cons (.int _ _) .nil
  .rename_i f;injection f with g j
   subst g;subst j;injection h with h;subst h
   exact .cons (.bool _) .nil
  .rename_i f;injection f with g j
   subst g;subst j;obtain⟨o,n,m⟩:=ah h;injection m with m;subst m
   exact .cons (.int _ _) (Bf n)
  .rename_i f;injection f with g j
   subst g;subst j;obtain⟨o,n,m⟩:=ah h;injection m with m;subst m
   exact .cons (.bool _) (Bf n)
  .cases h
theorem qO {s:Sh}{x:El s}: ∀n,ff s (cQ n x)=(cQ n (dq s x)).flatten
 |0=>rfl
 |n+1=>by rw[cW,gf,qO n,cW,cY]
theorem NN (z:List Value)(m n:Nat):eb z (m+n)=eb z m++eb z n:=by
 simp only[eb];rw[<-List.replicate_append_replicate,List.flatten_append]
theorem NO (z:List Value)(n:Nat):(eb z n).length=n*z.length:=by
 simp[eb,List.length_flatten,List.map_replicate]
theorem al9 (g:dv c)(E:au c e ea){es bytes:Nat}{z:List Value}{l m:Operand}(h:Yi c.S es bytes z (ev e l) (ev e m) k=O y):bu T (.makeSlice es bytes z l m) ea c.Z (gx c d k y):=by
 have H:=bv E l;have I:=bv E m;unfold Yi at h;split at h
 .rename_i U a V b s L M P;rw[L]at H;rw[M]at I;obtain⟨F,N⟩:=aw h;simp only[bB]at F;obtain⟨⟨⟨⟨p,r⟩,t⟩,B⟩,C⟩:=F;have p:=aD p;have r:=of_decide_eq_true r;have t:=of_decide_eq_true t;have B:=of_decide_eq_true B;have C:=cN C;have J:=Bf (c:=c) P;have A:z.length=s.w:=by rw[<-J.length,ec]
  have D:b<=bytes*b:=by
   have:(1:Int)*b<=bytes*b:=Int.mul_le_mul_of_nonneg_right (by omega) (by omega);omega
  refine bw (v:= .slice (O ⟨c.Z.n,0,Y⟩) a.toNat b.toNat) (Z':=c.Z.add ⟨eb z b.toNat,Za,es⟩) ?_ ?_
  .simp only[AOp.run,H.int_inv,I.int_inv];rw[zE ⟨r,t,by omega,by omega⟩]
  .have j:eb z b.toNat=eb z a.toNat++eb z (b.toNat-a.toNat):=by rw[<-NN];congr 1;omega
   have o:F2 (VRel c) (ff s (cQ a.toNat (tx s))) (eb z a.toNat):=by
    rw[qO];clear j;generalize a.toNat=n;induction n with
    |zero=>exact .nil
    |succ n K=>
     simp only[eb,cW,cY]at K⊢;exact J.append K
   have u:Moves c Y (O c.Z.n) (.arr s Zb (cQ a.toNat (tx s))) (c.Z.add ⟨eb z b.toNat,Za,es⟩):=by
    refine⟨(λb h _ D=>by injection h with h;subst h;exact Nat.lt_irrefl _ (g.fbl _ D)),(λ_ h=>by cases h),λq x f=> ?_,Nat.le_succ _,λi x f _=> ?_,(s.w,(cQ a.toNat (tx s)).length*s.w),rfl,mM s, .inr ⟨c.Z.n,⟨eb z b.toNat,Za,es⟩,eb z a.toNat,eb z (b.toNat-a.toNat),rfl,zE rfl,p,λ_=>rfl,j,o, .inl λw Q=> ?_⟩⟩
    .simp only[Hp.add]at f⊢;split at f
     .omega
     .have:=g.ok q x f;omega
    .have:=g.ok i x f;simp only[Hp.add];rw[Zh];exact f
    .have:=g.ok _ _ Q;omega
   refine gx.new (kill:=Y) g u (λ_ h=>by cases h) (vA (dm:=(s.w,(cQ a.toNat (tx s)).length*s.w)) (n:=a.toNat) (m:=b.toNat) (yb:=⟨eb z b.toNat,Za,es⟩) rfl (by simp) (by omega) (zE rfl) ?_) N;rw[NO,A];exact bD _
 .cases h
def More.cellsOf :More->List VV
 | .cells l=>l
 | .lst s l=>ff s l
theorem Lx {x:Ab.Blk}{o n m:Nat}(h:o+n<=x.cells.length)(f:m<=n):pz x o m=O (((x.cells.drop o).take n).take m):=by
 unfold pz;rw[Zg,cZ,cU f]
theorem ES (E:dv c){q o n es:Nat}{dm:Nat×Nat}(f:(ae c.S q).dim=O dm)(F:dm.1=es)(H:Ga c q o n dm a):
  ∃g,C9 a=O n/\(∀m,m<=n->c.Z.slice es a m=O (g.take (m*es)))/\g.length=n*es/\F2 (VRel c) (((ae c.S q).vals.drop (o*es)).take (n*es)) g:=by
 subst F;rcases H with⟨rfl,rfl,rfl,w,N⟩|⟨b,J,x,rfl,w,C,K,A,L⟩
 .refine⟨[],rfl,λm h=> ?_,by simp,by simp;exact .nil⟩;have:m=0:=by omega
  subst this;simp[Hp.slice]
 .obtain⟨P,r,B,p,_,_,u,v⟩:=E.block f w;rw[A]at p;injection p with p
  subst p;have M:=v.length
  have I:(ae c.S q).vals.length=dm.2:=by
   generalize ae c.S q=blk at f;cases blk with
   |dead=>cases f
   |cells es z l=>injection f with f;subst f;rfl
   |arr s z l=>injection f with f;subst f;exact gk
  rw[cM]at C;have D:((r.drop (o*dm.1)).take (n*dm.1)).length=n*dm.1:=by rw[cK,cS];omega
  refine⟨(r.drop (o*dm.1)).take (n*dm.1),rfl,λm h=> ?_,D,(v.drop _).take _⟩;have t:m*dm.1<=n*dm.1:=cP _ h;by_cases j:m=0
  .subst j;simp[Hp.slice]
  simp only[Hp.slice,A,zF j];rw[Lx (n:=n*dm.1) (by rw[u,cD];omega) t,u,List.drop_append_of_le_length (by omega),dJ (l₁:=r.drop (o*dm.1)) (by rw[cS];omega)]
theorem uu (M:dv c){es:Nat}{v:VV}{m:More}(h:gW c.S es v=O m)(L:VRel c v a):
  ∃n j,C9 a=O n/\(∀i,i<=n->c.Z.slice es a i=O (j.take (i*es)))/\j.length=n*es/\F2 (VRel c) m.cellsOf j/\(∀s l,m= .lst s l->es=s.w/\n=l.length):=by
 cases v<;>simp only[gW]at h<;>try(cases h;done)
 case nils=>
  injection h with h;subst h
  cases L;refine⟨0,[],rfl,λi H=> ?_,by simp, .nil,λs l h=>by cases h⟩;have:i=0:=by omega
  subst this;simp[Hp.slice]
 case str l=>
  cases g:aB es 1 with
  |false=>rw[g]at h;cases h
  |true=>
   rw[g]at h;have g:=aD g;subst g;injection h with h;subst h
   obtain⟨s,rfl,rfl⟩:=L.str_inv;refine⟨s.size,s.data.toList.map λb=> .int .u8 b.toNat,rfl,λi H=> ?_,by simp, ?_,λI l h=> ?_⟩
   .simp only[Hp.slice,if_true,dD];simp[ByteArray.data_extract,Array.toList_extract,List.extract_eq_take_drop,List.map_take]
   .simp only[More.cellsOf,cw,ff];generalize s.data.toList=l;induction l with
    |nil=>exact .nil
    |cons b l V=>exact .cons (.int _ _) V
   .injection h with t r
    subst t;cases r;exact⟨rfl,(rC s).symm⟩
 case lst s l=>
  cases g:aB es s.w with
  |false=>rw[g]at h;cases h
  |true=>
   rw[g]at h;have g:=aD g;subst g;injection h with h;subst h
   refine⟨l.length, ?_⟩;rcases L.listAt with⟨W,rfl,rfl,P⟩|⟨b,p,X,x,rfl,t,r,D,C,B⟩
   .refine⟨[],rfl,λi H=> ?_,by simp, .nil,λI l h=>by injection h with t r;subst t;cases r;exact⟨rfl,rfl⟩⟩;have:i=0:=by simp at H;exact H
    subst this;cases W with
    |none=>simp[Hp.slice]
    |some z=>
     have:=P z rfl;obtain⟨zb,zo,zs⟩:=z;simp only at this;subst this;simp[Hp.slice]
   .refine⟨(x.cells.drop p).take (l.length*s.w),rfl,λi H=> ?_,by rw[<-B.length,gk],B,λI N h=>by injection h with t r;subst t;cases r;exact⟨rfl,rfl⟩⟩;by_cases K:i=0
    .subst K;simp[Hp.slice]
    simp only[Hp.slice,t,zF K];exact Lx C (cP _ H)
 case full q=>
  cases L with
  |full U _ J=>
   cases u:ae c.S q with
   |dead=>rw[u]at h;cases h
   |arr s z l=>
    rw[u]at h;cases g:aB es s.w with
    |false=>simp only[g]at h;cases h
    |true=>
     simp only[g]at h;have g:=aD g;subst g;injection h with h;subst h
     have f:(ae c.S q).dim=O (s.w,l.length*s.w):=by rw[u];rfl
     obtain⟨n,t,r⟩:=J _ f;have:n=l.length:=cO (mM s) t;subst this;obtain⟨j,D,C,B,A⟩:=ES M f rfl r;rw[u,dF,cV,cL (by simp[Blk.vals,gk])]at A;exact⟨_,j,D,C,B,A,λI N h=>by injection h with t r;subst t;cases r;exact⟨rfl,rfl⟩⟩
   |cells E z l=>
    rw[u]at h;cases g:(aB es E&&cR 1 es)with
    |false=>simp only[g]at h;cases h
    |true=>
     simp only[g]at h;rw[bB]at g;have F:=aD g.1;subst F;injection h with h;subst h
     have f:(ae c.S q).dim=O (es,l.length):=by rw[u];rfl
     obtain⟨n,t,r⟩:=J _ f;obtain⟨j,D,C,B,A⟩:=ES M f rfl r;simp only at t;rw[u,dF,cV,t,cL (by exact bD _)]at A;exact⟨_,j,D,C,B,A,λI N h=>by cases h⟩
 case part q o n=>
  cases L with
  |part U _ J=>
   cases u:ae c.S q with
   |dead=>rw[u]at h;cases h
   |arr s z l=>
    rw[u]at h;cases g:aB es s.w with
    |false=>simp only[g]at h;cases h
    |true=>
     simp only[g]at h;have g:=aD g;subst g;injection h with h;subst h
     have f:(ae c.S q).dim=O (s.w,l.length*s.w):=by rw[u];rfl
     have r:=J _ f;obtain⟨j,D,C,B,A⟩:=ES M f rfl r;rw[u]at A;simp only[Blk.vals]at A;rw[<-yr,<-kA]at A
     have Q:n=((l.drop o).take n).length:=by
      have:=A.length;rw[gk,B]at this;exact(cO (mM s) this).symm
     exact⟨_,j,D,C,B,A,λI N h=>by injection h with t r;subst t;cases r;exact⟨rfl,Q⟩⟩
   |cells E z l=>
    rw[u]at h;cases g:(aB es E&&cR 1 es)with
    |false=>simp only[g]at h;cases h
    |true=>
     simp only[g]at h;rw[bB]at g;have F:=aD g.1;subst F;injection h with h;subst h
     have f:(ae c.S q).dim=O (es,l.length):=by rw[u];rfl
     have r:=J _ f;obtain⟨j,D,C,B,A⟩:=ES M f rfl r;rw[u]at A;exact⟨_,j,D,C,B,A,λI N h=>by cases h⟩
def Base.cellsOf :Base->List VV
 | .none=>[]
 | .cells _ l=>l
 | .arr s l=>ff s l
structure BaseAt (c:Ctx)(es sl:Nat)(base:Base)(kill:Option Nat)(a:Value):Prop where
 no:kill=Y->a= .slice Y 0 0/\sl=0/\base= .none
 yes: ∀q,kill=O q->∃dm,(ae c.S q).dim=O dm/\dm.1=es/\(ae c.S q).frozen=Zb/\Ga c q 0 sl dm a/\base.cellsOf=(ae c.S q).vals.take (sl*es)
 es: ∀e l,base= .cells e l->e=es/\1<=es
theorem BY {dm:Nat×Nat}(h:blk.dim=O dm):blk.vals.length=dm.2:=by
 cases blk with
 |dead=>cases h
 |cells f z l=>injection h with h;subst h;rfl
 |arr s z l=>injection h with h;subst h;exact gk
theorem Vq {es:Nat}{v:VV}{p:Base}{kill:Option Nat}(M:dv c)(h:Ap c.S es v=O (p,kill))(C:VRel c v a): ∃H,BaseAt c es H p kill a/\p.cellsOf.length=H*es/\(∀s l,p= .arr s l->es=s.w/\H=l.length):=by
 cases v<;>try(cases h;done)
 case nils=>
  simp only[Ap]at h;injection h with h
  injection h with j g
  subst j;subst g;cases C;exact⟨0,⟨λ_=>⟨rfl,rfl,rfl⟩,(λq h=>by cases h),(λe l h=>by cases h)⟩,by simp[Base.cellsOf],λs l h=>by cases h⟩
 case full q=>
  simp only[Ap]at h;cases C with
  |full K _ B=>
   cases o:ae c.S q with
   |dead=>rw[o]at h;cases h
   |arr s z l=>
    rw[o]at h;cases z with
    |true=>cases h
    |false=>
     simp only at h;cases m:aB es s.w with
     |false=>rw[m]at h;cases h
     |true=>
      rw[m]at h;have m:=aD m;subst m;injection h with h
      injection h with j g
      subst j;subst g;have f:(ae c.S q).dim=O (s.w,l.length*s.w):=by rw[o];rfl
      obtain⟨n,j,g⟩:=B _ f;have:n=l.length:=cO (mM s) j;subst this;refine⟨l.length,⟨(λh=>by cases h),λE h=> ?_,(λe l h=>by cases h)⟩,gk,λF D h=>by injection h with j g;subst j;cases g;exact⟨rfl,rfl⟩⟩;injection h with h
      subst h;refine⟨_,f,rfl,by rw[o];rfl,g, ?_⟩;rw[o];exact(cL (by rw[show(Base.arr s l).cellsOf=ff s l from rfl,gk];exact bD _)).symm
   |cells t z l=>
    rw[o]at h;cases z with
    |true=>cases h
    |false=>
     simp only at h;cases m:(aB es t&&cR 1 es)with
     |false=>rw[m]at h;cases h
     |true=>
      rw[m]at h;rw[bB]at m;have A:=aD m.1;subst A;injection h with h
      injection h with j g
      subst j;subst g;have f:(ae c.S q).dim=O (es,l.length):=by rw[o];rfl
      obtain⟨n,j,g⟩:=B _ f;simp only at j;refine⟨n,⟨(λh=>by cases h),λE h=> ?_,λe l h=>by injection h with j g;exact⟨j.symm,cN m.2⟩⟩,j.symm,λF D h=>by cases h⟩;injection h with h
      subst h;refine⟨_,f,rfl,by rw[o];rfl,g, ?_⟩;rw[o,j];exact(cL (bD _)).symm
 case part q I n=>
  cases I with
  |succ I=>cases h
  |zero=>
   simp only[Ap]at h;cases C with
   |part K _ B=>
    cases o:ae c.S q with
    |dead=>rw[o]at h;cases h
    |arr s z l=>
     rw[o]at h;cases z with
     |true=>cases h
     |false=>
      simp only at h;cases m:aB es s.w with
      |false=>rw[m]at h;cases h
      |true=>
       rw[m]at h;have m:=aD m;subst m;injection h with h
       injection h with j g
       subst j;subst g;have f:(ae c.S q).dim=O (s.w,l.length*s.w):=by rw[o];rfl
       have g:=B _ f
       have L:n<=l.length:=by
        rcases g with⟨_,_,u,_,_⟩|⟨b,J,x,_,_,u,_⟩
        .omega
        .rw[cB]at u;exact dK u (mM s)
       have r:(l.take n).length=n:=by rw[cK];omega
       refine⟨n,⟨(λh=>by cases h),λE h=> ?_,(λe l h=>by cases h)⟩,by simp only[Base.cellsOf];rw[gk,r],λF D h=>by injection h with j g;subst j;cases g;exact⟨rfl,r.symm⟩⟩;injection h with h
       subst h;refine⟨_,f,rfl,by rw[o];rfl,g, ?_⟩;rw[o];exact kA
    |cells t z l=>
     rw[o]at h;cases z with
     |true=>cases h
     |false=>
      simp only at h;cases m:(aB es t&&cR 1 es)with
      |false=>rw[m]at h;cases h
      |true=>
       rw[m]at h;rw[bB]at m;have A:=aD m.1;subst A;injection h with h
       injection h with j g
       subst j;subst g;have f:(ae c.S q).dim=O (es,l.length):=by rw[o];rfl
       have g:=B _ f
       have L:n*es<=l.length:=by
        rcases g with⟨_,_,u,_,_⟩|⟨b,J,x,_,_,u,_⟩
        .subst u;simp
        .rwa [cB]at u
       refine⟨n,⟨(λh=>by cases h),λE h=> ?_,λe l h=>by injection h with j g;exact⟨j.symm,cN m.2⟩⟩,by simp only[Base.cellsOf];rw[cK];omega,λF D h=>by cases h⟩;injection h with h
       subst h;exact⟨_,f,rfl,by rw[o];rfl,g,by rw[o];rfl⟩
theorem Y5 {vs cs:List Value}(h:cs.length=vs.length):kD cs 0 vs=vs:=by
 induction vs generalizing cs with
 |nil=>simp only[kD];exact List.length_eq_zero_iff.1 h
 |cons v vs j=>
  cases cs with
  |nil=>simp at h
  |cons a cs=>
   have g:cs.length=vs.length:=by simpa using h
   show kD ((a::cs).set 0 v) (0+1) vs=_;have f:=yB vs [v] cs 0;simp only[dI,cT,List.singleton_append,cB]at f;rw[List.set_cons_zero,f,j g]
theorem Pp {vs cs:List Value}{p:Nat}(h:p+vs.length<=cs.length):kD cs p vs=cs.take p++(vs++cs.drop (p+vs.length)):=by
 have:=LU (vs:=vs) (cs:=cs) (p:=p) (o:=0) (w:=vs.length) (by omega) h;rw[Nat.add_zero,Y5 (by rw[cK,cS];omega)]at this;exact this
theorem Ou {x z:Ab.Blk}{b i:Nat}(h:((Z.set b Y).add x).m i=O z):i=Z.n∨(i≠b/\Z.m i=O z):=by
 by_cases j:i=Z.n
 .exact .inl j
 .refine .inr ?_;have o:((Z.set b Y).add x).m i=(Z.set b Y).m i:=zF j;rw[o]at h;by_cases f:i=b
  .have g:(Z.set b Y).m i=Y:=zE f;rw[g]at h;cases h
  .have g:(Z.set b Y).m i=Z.m i:=zF f;exact⟨f,g▸h⟩
theorem PV {x:Ab.Blk}{b i:Nat}(f:i≠Z.n)(h:i≠b):((Z.set b Y).add x).m i=Z.m i:=by
 have g:((Z.set b Y).add x).m i=(Z.set b Y).m i:=zF f;have j:(Z.set b Y).m i=Z.m i:=zF h;exact g.trans j
structure Grown (c:Ctx)(base more:List VV)(es n:Nat)(blk:Blk):Prop where
 dim:blk.dim=O (es,n*es)
 fz:blk.frozen=Zb
 rel: ∀bs ms,F2 (VRel c) base bs->F2 (VRel c) more ms->F2 (VRel c) blk.vals (bs++ms)
theorem ru {c1:Ctx}{es bytes g n:Nat}{D:Base}{kill:Option Nat}{W:List VV}{s:Operand}{all:List Value}(w:dv c1)(hS:tB c.S c1.S)(hμ:c1.μ=c.μ)(H:c1.Z=c.Z)(hle:Le c c1)(hcalm:uR d c c1)
  (A:1<=es) (hb:BaseAt c es g D kill (ea.ev s)) (K: ∀q,kill=O q->(ae c1.S q).frozen=Zb)
  (C: ∀a sl' sc,ea.ev s= .slice a sl' sc->op.run ea c.Z=mE es bytes c.Z a sl' sc n all) (h3:all.length=n*es) (h4:F2 (VRel c1) W all) (h5:all.all one=Za) (B:Grown c1 D.cellsOf W es (g+n) blk)
  (hf:fB (g+n) bytes=Za) (hd: ∀q,kill=O q->q∈d) (hk:k (.full c1.S.length) (px c1.S kill++[blk])=O y):bu T op ea c.Z (gx c d k y):=by
 have p:(g+n)*bytes<=140737488355328/\g+n<=9223372036854775807:=by
  unfold fB at hf;rw[bB]at hf;have g1:=of_decide_eq_true hf.1;have g2:=cN hf.2;refine⟨g1, ?_⟩;have:(g+n)*1<=(g+n)*bytes:=dL _ g2;omega
 have hnew:all=[]->n=0:=by
  intro h;subst h;simp only[cT]at h3;rcases dA n with h|h
  .exact h
  .have:=dE h A;omega
 have u: ∀{v:Value} {Z':Hp} {b1:Option Nat},Moves c1 kill b1 blk Z'->VRel ⟨tX c1 b1,px c1.S kill++[blk],Z',c1.fb⟩ (.full c1.S.length) v->gx c d k y v Z':=by
  intro v Z' b1 hm hv;exact⟨_,_,rfl,hle.trans (hm.le w),hm.rel w,hcalm.trans (hm.calm w hd) hle,hv,hk⟩
 cases kill with
 |none=>
  obtain⟨M,e2,e3⟩:=hb.no rfl;subst e2;subst e3;by_cases U:n=0
  .subst U;have:all=[]:=by simpa using h3
   subst this;have r:Moves c1 Y Y blk c1.Z:=⟨(λ_ h=>by cases h),(λ_ h=>by cases h),w.ok,bD _,λ_ _ h _=>h,_,B.dim,A, .inl ⟨rfl,by simp⟩⟩;refine bw (v:= .slice Y 0 0) (Z':=c.Z) ?_ ?_
   .rw[C _ _ _ M];unfold mE;rw[zE (by simp)];simp
   .rw[<-H];refine u r (.full (by simp[px]) rfl λd' j=> ?_);simp only[kf,if_true]at j;rw[B.dim]at j;injection j with j
    subst j;exact⟨0,by simp, .inl ⟨rfl,rfl,rfl,by simp[tX],by simp⟩⟩
  .have r:=PW w (blk:=blk) (x:=⟨all,Za,es⟩) B.dim A rfl rfl (by have:=B.rel [] all .nil h4;simpa using this);refine bw (v:= .slice (O ⟨c.Z.n,0,Y⟩) n n) (Z':=c.Z.add ⟨all,Za,es⟩) ?_ ?_
   .rw[C _ _ _ M];unfold mE;rw[Zh,zE ⟨p.1,p.2,h5⟩];simp
   .rw[<-H];refine u r (vA (yb:=⟨all,Za,es⟩) B.dim (by simp) (bD _) (zE rfl) ?_);show n*es<=all.length;omega
 |some q=>
  obtain⟨f,g1,g2,g3,g4,g5⟩:=hb.yes q rfl;subst g2;have I:(ae c1.S q).dim=O f:=by rw[hS.dim];exact g1
  have Q:(ae c1.S q).vals=(ae c.S q).vals:=hS.vals q;rcases g4 with⟨M,_,e2,e3,e4⟩|⟨b,cp,yb,M,e3,e4,e5,e6,e7⟩
  .subst e2;have hbase:D.cellsOf=[]:=by rw[g5];simp
   by_cases U:n=0
   .subst U;have:all=[]:=by simpa using h3
    subst this;have r:Moves c1 (O q) Y blk c1.Z:=⟨(λ_ h=>by cases h),(λ_ h=>by injection h with h;subst h;exact K q rfl),w.ok,bD _,λ_ _ h _=>h,_,B.dim,A, .inl ⟨rfl,by simp⟩⟩;refine bw (v:= .slice Y 0 0) (Z':=c.Z) ?_ ?_
    .rw[C _ _ _ M];unfold mE;rw[zE (by simp)];simp
    .rw[<-H];refine u r (.full (by simp[xr]) rfl λd' j=> ?_);simp only[kf,if_true]at j;rw[B.dim]at j;injection j with j
     subst j;exact⟨0,by simp, .inl ⟨rfl,rfl,rfl,by simp[tX],by simp⟩⟩
   .have r:Moves c1 (O q) (O c1.Z.n) blk (c1.Z.add ⟨all,Za,f.1⟩):=by
     have N:=PW w (blk:=blk) (x:=⟨all,Za,f.1⟩) B.dim A rfl rfl (by have:=B.rel [] all (by rw[hbase];exact .nil) h4;simpa using this);refine⟨N.fr,(λ_ h=>by injection h with h;subst h;exact K q rfl),N.ok,N.n,λi z t _=>N.old i z t (λ⟨_,h,_⟩=>by cases h), ?_⟩;obtain⟨dd,k1,k2,k3⟩:=N.one;refine⟨dd,k1,k2, ?_⟩;rcases k3 with k3|⟨b',y',F,X,k3,k4,k5,k6,k7,k8,k9⟩
     .exact .inl k3
     .refine .inr ⟨b',y',F,X,k3,k4,k5,k6,k7,k8, .inl ?_⟩;rcases k9 with k9|⟨_,k9,_⟩
      .exact k9
      .cases k9
    refine bw (v:= .slice (O ⟨c.Z.n,0,Y⟩) n n) (Z':=c.Z.add ⟨all,Za,f.1⟩) ?_ ?_
    .rw[C _ _ _ M];unfold mE;rw[Zh,zE ⟨p.1,p.2,h5⟩];simp
    .rw[<-H];refine u r (vA (yb:=⟨all,Za,f.1⟩) B.dim (by simp) (bD _) (zE rfl) ?_);show n*f.1<=all.length;omega
  .rw[dF]at M;rw[cB]at e4 e7;have P:c1.μ q=O b:=by rw[hμ];exact e3
   obtain⟨yb',F,X,f1,f2,f3,f4,f5⟩:=w.block I P;rw[H]at f1;rw[e6]at f1;injection f1 with f1
   subst f1;have L:=f3 (K q rfl);have hcl:F.length=f.2:=by rw[<-f5.length];exact BY I
   have hbs:F2 (VRel c1) D.cellsOf (F.take (g*f.1)):=by rw[g5,<-Q];exact f5.take _
   have V:=B.rel _ _ hbs h4;have E:yb.cells.take (g*f.1)=F.take (g*f.1):=by rw[f4,dJ (by omega)]
   have hcp:g*f.1<=cp*f.1:=cP _ e5;by_cases o:g+n<=cp
   .have hroom':g*f.1+n*f.1<=cp*f.1:=by rw[<-cM];exact cP _ o
    have hset:kD yb.cells (g*f.1) all=F.take (g*f.1)++(all++yb.cells.drop (g*f.1+all.length)):=by rw[Pp (by omega),E]
    have mk: ∀Z':Hp,Z'.Ok->Z'.n=c1.Z.n->(∀i,i≠b->Z'.m i=c1.Z.m i)->Z'.m b=O ⟨kD yb.cells (g*f.1) all,Za,yb.es⟩->Moves c1 (O q) (O b) blk Z':=by
     intro Z' ho U hm hb';refine⟨(λb' h t _=>by injection h with h;subst h;exact t _ (by rw[H];exact e6)),(λ_ h=>by injection h with h;subst h;exact K q rfl),ho,by omega,λi z t hK=> ?_,(f.1,(g+n)*f.1),B.dim,A, .inr ⟨b,_,F.take (g*f.1)++all,yb.cells.drop (g*f.1+all.length),rfl,hb',f2,λ_=>rfl,by show kD _ _ _=_;rw[hset,cX],V, .inr ⟨q,rfl,P⟩⟩⟩;have:i≠b:=by rintro rfl;exact hK ⟨q,rfl,P⟩
     rw[hm i this];exact t
    have J: ∀Z':Hp,Z'.m b=O ⟨kD yb.cells (g*f.1) all,Za,yb.es⟩->VRel ⟨tX c1 (O b),px c1.S (O q)++[blk],Z',c1.fb⟩ (.full c1.S.length) (.slice (O ⟨b,0,Y⟩) (g+n) cp):=by
     intro Z' hb';refine vA B.dim rfl o hb' ?_;show cp*f.1<=(kD yb.cells (g*f.1) all).length;rw[Be];exact e7
    by_cases U:all=[]
    .have hself:yb=⟨kD yb.cells (g*f.1) all,Za,yb.es⟩:=by
      subst U;cases yb;simp only[kD]at*;simp[L]
     refine bw (v:= .slice (O ⟨b,0,Y⟩) (g+n) cp) (Z':=c.Z) ?_ ?_
     .rw[C _ _ _ M];unfold mE;rw[zE o];simp[U]
     .rw[<-H];have e6':c1.Z.m b=O ⟨kD yb.cells (g*f.1) all,Za,yb.es⟩:=by rw[<-hself,H];exact e6
      exact u (mk c1.Z w.ok rfl (λ_ _=>rfl) e6') (J _ e6')
    .refine bw (v:= .slice (O ⟨b,0,Y⟩) (g+n) cp) (Z':=c.Z.set b (O ⟨kD yb.cells (g*f.1) all,Za,yb.es⟩)) ?_ ?_
     .rw[C _ _ _ M];unfold mE;rw[zE o];simp only[U,if_false,e6,cB];rw[E1 L (by omega) h5]
     .rw[<-H];refine u (mk _ (λi z t=> ?_) rfl (λi hi=>by simp[Hp.set,hi]) (by simp[Hp.set])) (J _ (by simp[Hp.set]));simp only[Hp.set]at t;split at t
      .rename_i e;subst e;exact w.ok _ _ (by rw[H];exact e6)
      .exact w.ok _ _ t
   .have r:Moves c1 (O q) (O c1.Z.n) blk ((c1.Z.set b Y).add ⟨F.take (g*f.1)++all,Za,f.1⟩):=by
     refine⟨(λb h _ hb=>by injection h with h;subst h;exact Nat.lt_irrefl _ (w.fbl _ hb)),(λ_ h=>by injection h with h;subst h;exact K q rfl),λi z t=> ?_,Nat.le_succ _,λi z t hK=> ?_,(f.1,(g+n)*f.1),B.dim,A, .inr ⟨c1.Z.n,_,F.take (g*f.1)++all,[],rfl,zE rfl,rfl,λ_=>rfl,by simp,V, .inl λz t=> ?_⟩⟩
     .show i<c1.Z.n+1;rcases Ou t with N|⟨_,N⟩
      .omega
      .have:=w.ok i z N;omega
     .have N:i≠b:=by rintro rfl;exact hK ⟨q,rfl,P⟩
      have h9:=w.ok i z t;rw[PV (by omega) N];exact t
     .have:=w.ok _ _ t;omega
    refine bw (v:= .slice (O ⟨c.Z.n,0,Y⟩) (g+n) (g+n)) (Z':=(c.Z.set b Y).add ⟨F.take (g*f.1)++all,Za,f.1⟩) ?_ ?_
    .rw[C _ _ _ M];unfold mE;rw[zF o,zE ⟨p.1,p.2,h5⟩];simp only[e6];rw[zE ⟨L,f2⟩]
     have:pz yb 0 (g*f.1)=O (F.take (g*f.1)):=by
      unfold pz;rw[Zg,cV,E]
     rw[this]
    .rw[<-H];refine u r (vA (yb:=⟨F.take (g*f.1)++all,Za,f.1⟩) B.dim rfl (bD _) (zE rfl) ?_);show(g+n)*f.1<=(F.take (g*f.1)++all).length;rw[cD,cK,cM];omega
theorem Iw {S:ai}{cs:List VV}{l:List (El s)}{c1:Ctx}(f:dv c1)(g:c1.S=S)(h:U3 S s cs=O l):cs.length=l.length*s.w/\∀as,F2 (VRel c1) cs as->F2 (VRel c1) (ff s l) as:=by
 subst g;exact HN (jZ f s) _ _ _ h
theorem Kx (hR:dv c)(he:au c e ea){es bytes:Nat}{s:Operand}{mo:Option More}(hd: ∀q,vp (ev e s)=O q->q∈d)(h:JR c.S es bytes (Ap c.S es (ev e s)) mo k=O y)
  (hm: ∀m,mo=O m->∃n all,(∀a sl' sc,ea.ev s= .slice a sl' sc->op.run ea c.Z=mE es bytes c.Z a sl' sc n all)/\all.length=n*es/\F2 (VRel c) m.cellsOf all/\(∀s l,m= .lst s l->es=s.w/\n=l.length)):bu T op ea c.Z (gx c d k y):=by
 have hs:=bv he s;unfold JR at h;cases f:Ap c.S es (ev e s)with
 |none=>rw[f]at h;cases h
 |some p=>
  obtain⟨U,o⟩:=p;cases mo with
  |none=>rw[f]at h;cases U<;>cases h
  |some m=>
   obtain⟨sl,P,u,hba⟩:=Vq hR f hs;obtain⟨n,all,C,N,t,h5⟩:=hm m rfl
   have B: ∀q,o=O q->q∈d:=by
    intro q hq;refine hd q ?_;subst hq;cases hv:ev e s<;>rw[hv]at f<;>try(cases f;done)
    case full b=>
     simp only[Ap]at f;split at f
     .rename_i s' l hbb;cases v:aB es s'.w with
      |false=>rw[v]at f;cases f
      |true=>rw[v]at f;simp only[zC,Option.some.injEq,Prod.mk.injEq]at f;rw[<-f.2];rfl
     .rename_i W l hbb;cases v:(aB es W&&cR 1 es)with
      |false=>rw[v]at f;cases f
      |true=>rw[v]at f;simp only[zC,Option.some.injEq,Prod.mk.injEq]at f;rw[<-f.2];rfl
     .cases f
    case part b lo m=>
     cases lo with
     |succ lo=>cases f
     |zero=>
      simp only[Ap]at f;split at f
      .rename_i s' l hbb;cases v:aB es s'.w with
       |false=>rw[v]at f;cases f
       |true=>rw[v]at f;simp only[zC,Option.some.injEq,Prod.mk.injEq]at f;rw[<-f.2];rfl
      .rename_i W l hbb;cases v:(aB es W&&cR 1 es)with
       |false=>rw[v]at f;cases f
       |true=>rw[v]at f;simp only[zC,Option.some.injEq,Prod.mk.injEq]at f;rw[<-f.2];rfl
      .cases f
   have Q: ∀q,o=O q->(ae c.S q).frozen=Zb:=by
    intro q hq;obtain⟨_,_,_,h,_⟩:=P.yes q hq;exact h
   rw[f]at h;have j: ∀(c1:Ctx) (l:List VV),F2 (VRel c1) l all->oC l=Za->all.all one=Za:=λc1 l h1 h2=>ku h1 h2
   cases U with
   |arr s' l=>
    obtain⟨g1,H⟩:=hba s' l rfl;subst g1;cases m with
    |lst s2 l'=>
     simp only at h;obtain⟨l2,k1,k2⟩:=ah h;obtain⟨ee,k3⟩:=lG k1;cases ee;subst k3;obtain⟨r,M⟩:=aw k2;obtain⟨_,D⟩:=h5 _ _ rfl;refine ru hR (tB.refl _) rfl rfl (Le.refl c) (uR.refl d c) (mM _) P Q C N t (j c _ t (rE _ _)) ⟨?_,rfl,λbs ms E F=> ?_⟩ (by rw[H,D];exact r) B M
     .simp only[Blk.dim,cD,H,D]
     .simp only[Blk.vals];rw[xq];exact E.append F
    |cells A=>
     simp only at h;split at h
     .rename_i s3 l3 K;obtain⟨l2,k1,k2⟩:=ah h;obtain⟨r,M⟩:=aw k2;have g:=EJ c.S A;have J:dv ⟨c.μ,Gf c.S A,c.Z,c.fb⟩:=g.rel hR;obtain⟨D,k7⟩:=Iw J rfl k1;have I:F2 (VRel ⟨c.μ,Gf c.S A,c.Z,c.fb⟩) A all:=VRel.frames g.le t
      have k8:n=l2.length:=by
       have:=t.length;simp only[More.cellsOf]at this;rw[D,N]at this;exact(cO (mM _) this).symm
      have L: ∀q,o=O q->(ae (Gf c.S A) q).frozen=Zb:=by
       intro q hq;subst hq;simp only[dM]at K;rw[K];rfl
      refine ru (c1:=⟨c.μ,Gf c.S A,c.Z,c.fb⟩) J g rfl rfl g.le (g.calm d) (mM _) P L C N I (j _ _ (k7 _ I) (rE _ _)) ⟨?_,rfl,λbs ms E F=> ?_⟩ (by rw[H,k8];exact r) B M
      .simp only[Blk.dim,cD,H,k8]
      .simp only[Blk.vals];rw[xq];exact E.append (k7 _ F)
     .cases h
   |cells X l=>
    obtain⟨g1,H⟩:=P.es _ _ rfl;subst g1;cases m with
    |lst s2 l'=>
     simp only at h;obtain⟨w1,w2⟩:=h5 _ _ rfl;subst w1;split at h
     .rename_i s3 l3 K;obtain⟨l1,k1,k2⟩:=ah h;obtain⟨r,M⟩:=aw k2;have g:=EJ c.S l;have J:dv ⟨c.μ,Gf c.S l,c.Z,c.fb⟩:=g.rel hR;obtain⟨D,k7⟩:=Iw J rfl k1;have I:F2 (VRel ⟨c.μ,Gf c.S l,c.Z,c.fb⟩) (ff s2 l') all:=VRel.frames g.le t
      have k8:sl=l1.length:=by
       simp only[Base.cellsOf]at u;rw[D]at u;exact(cO (mM _) u).symm
      have L: ∀q,o=O q->(ae (Gf c.S l) q).frozen=Zb:=by
       intro q hq;subst hq;simp only[dM]at K;rw[K];rfl
      refine ru (c1:=⟨c.μ,Gf c.S l,c.Z,c.fb⟩) J g rfl rfl g.le (g.calm d) (mM _) P L C N I (j _ _ I (rE _ _)) ⟨?_,rfl,λbs ms E F=> ?_⟩ (by rw[w2,k8];exact r) B M
      .simp only[Blk.dim,cD,w2,k8]
      .simp only[Blk.vals];rw[xq];exact(k7 _ E).append F
     .cases h
    |cells A=>
     simp only at h;obtain⟨r,M⟩:=aw h;rw[bB]at r;simp only[Base.cellsOf]at u;simp only[More.cellsOf]at t;have D:A.length=n*X:=by rw[t.length];exact N
     refine ru (blk:= .cells X Zb (l++A)) hR (tB.refl _) rfl rfl (Le.refl c) (uR.refl d c) H P Q C N t (j c _ t r.2) ⟨?_,rfl,λbs ms E F=>F2.append (l:=l) E F⟩ ?_ B M
     .simp only[Blk.dim,cD,u,D,cM]
     .have:(l.length+A.length) / X=sl+n:=by rw[u,D,<-cM,dC _ H]
      rw[<-this];exact r.1
   |none=>
    have hsl:o=Y->sl=0:=λv=>(P.no v).2.1
    have V: ∀(q:Nat),1<=es->sl=0:=by
     intro _ v;simp only[Base.cellsOf,cT]at u;rcases dA sl with h|h
     .exact h
     .have:=dE h v;omega
    cases m with
    |lst s2 l'=>
     simp only at h;obtain⟨w1,w2⟩:=h5 _ _ rfl;subst w1;have hz:=V 0 (mM _);subst hz;obtain⟨r,M⟩:=aw h;refine ru hR (tB.refl _) rfl rfl (Le.refl c) (uR.refl d c) (mM _) P Q C N t (j c _ t (rE _ _)) ⟨?_,rfl,λbs ms E F=> ?_⟩ (by rw[w2];exact r) B M
     .simp only[Blk.dim,cD,w2,cT]
     .cases E;exact F
    |cells A=>
     simp only at h;obtain⟨r,M⟩:=aw h;rw[bB,bB]at r;have H:=cN r.1.2;have hz:=V 0 H;subst hz;simp only[More.cellsOf]at t;have D:A.length=n*es:=by rw[t.length];exact N
     refine ru (blk:= .cells es Zb A) hR (tB.refl _) rfl rfl (Le.refl c) (uR.refl d c) H P Q C N t (j c _ t r.2) ⟨?_,rfl,λbs ms E F=>by cases E;exact F⟩ ?_ B M
     .simp only[Blk.dim,D,cB]
     .have:A.length / es=0+n:=by rw[D,dC _ H,cB]
      rw[<-this];exact r.1.1
theorem WQ {l:List (El s)}{bytes n:Nat}{all:List Value}(F:VRel c (.tgt s l) a)(J:all.length=n*s.w)(I:1<=n)(j:all.all one=Za)(m:fB (l.length+n) bytes=Za):
  ∃p t g,a= .slice p l.length t/\F2 (VRel c) (ff s l) g/\mE s.w bytes c.Z p l.length t n all=O (.slice (O ⟨c.Z.n,0,Y⟩) (l.length+n) (l.length+n),c.Z.add ⟨g++all,Za,s.w⟩):=by
 have f:(l.length+n)*bytes<=140737488355328/\l.length+n<=9223372036854775807:=by
  unfold fB at m;rw[bB]at m;have v:=of_decide_eq_true m.1;have A:=cN m.2;refine⟨v, ?_⟩;have:(l.length+n)*1<=(l.length+n)*bytes:=dL _ A;omega
 cases F with
 |tgtn E=>
  simp only[cT,cB]at f⊢;rcases E with rfl|⟨b,o,rfl⟩
  .refine⟨Y,0,[],rfl, .nil, ?_⟩;unfold mE;rw[Zh,zE (by rw[cB];exact⟨f.1,f.2,j⟩)];simp
  .refine⟨_,0,[],rfl, .nil, ?_⟩;unfold mE;rw[Zh,zE (by rw[cB];exact⟨f.1,f.2,j⟩)];simp
 |tgt K H C B q=>
  rename_i b p u;by_cases r:l=[]
  .subst r;simp only[cT,cB]at f⊢;refine⟨_,0,[],rfl, .nil, ?_⟩;unfold mE;rw[Zh,zE (by rw[cB];exact⟨f.1,f.2,j⟩)];simp
  .have D:l.length≠0:=λh=>r (List.eq_nil_of_length_eq_zero h)
   refine⟨_,_,_,rfl,q, ?_⟩;unfold mE;rw[Zh,zE ⟨f.1,f.2,j⟩];simp only[D,if_false,H,C,if_true]
   have:pz u p (l.length*s.w)=O ((u.cells.drop p).take (l.length*s.w)):=by
    unfold pz;rw[zE B]
   rw[this]
theorem L0 {c1:Ctx}{bytes n:Nat}{l m:List (El s)}{I:Operand}{all:List Value}(u:dv c1)(F:c1.Z=c.Z)(o:Le c c1)(g:uR d c c1)
  (Q:VRel c1 (.tgt s l) (ea.ev I)) (A: ∀a t B,ea.ev I= .slice a t B->op.run ea c.Z=mE s.w bytes c.Z a t B n all) (E:all.length=n*s.w) (N:F2 (VRel c1) (ff s m) all) (P:all.all one=Za) (H:n=m.length) (M:1<=n)
  (h:Qt c1.S bytes s Y l m k=O y):bu T op ea c.Z (gx c d k y):=by
 unfold Qt at h;obtain⟨D,L⟩:=aw h;rw[<-H]at D;obtain⟨p,B,f,J,C,K⟩:=WQ Q E M P D;have r:F2 (VRel c1) (ff s (l++m)) (f++all):=by rw[xq];exact C.append N
 have j:=PW u (blk:= .arr s Zb (l++m)) (x:=⟨f++all,Za,s.w⟩) (d:=(s.w,(l++m).length*s.w)) rfl (mM s) rfl rfl r;refine bw (v:= .slice (O ⟨c.Z.n,0,Y⟩) (l.length+n) (l.length+n)) (Z':=c.Z.add ⟨f++all,Za,s.w⟩) ?_ ?_
 .rw[A _ _ _ J,<-F,K]
 .rw[<-F];refine⟨_,_,rfl,o.trans (j.le u),j.rel u,g.trans (j.calm u (λq h=>by cases h)) o, ?_,L⟩;refine vA (yb:=⟨f++all,Za,s.w⟩) (dm:=(s.w,(l++m).length*s.w)) rfl (by simp[H]) (bD _) (zE rfl) ?_;show(l.length+n)*s.w<=(f++all).length;rw[cD,<-C.length,gk,E,cM];exact bD _
theorem ab2 (K:dv c)(V:au c e ea){es bytes:Nat}{l:List (El s)}{H:Operand}{F:Option More}(X:ev e H= .tgt s l)(h:Tx c.S es bytes s l F k=O y)
  (W: ∀m,F=O m->∃n f,(∀a t P,ea.ev H= .slice a t P->op.run ea c.Z=mE es bytes c.Z a t P n f)/\f.length=n*es/\F2 (VRel c) m.cellsOf f/\(∀s l,m= .lst s l->es=s.w/\n=l.length)):bu T op ea c.Z (gx c d k y):=by
 have B:=bv V H;rw[X]at B;unfold Tx at h;cases F with
 |none=>cases h
 |some m=>
  obtain⟨n,f,r,A,u,U⟩:=W m rfl;cases m with
  |lst s' l'=>
   simp only at h;obtain⟨N,C,D⟩:=ah h;obtain⟨Q,k3⟩:=lG C;cases Q;subst k3;obtain⟨j,E⟩:=aw D;rw[bB]at j;have I:=aD j.1;have J:=cN j.2;subst I;obtain⟨_,v⟩:=U _ _ rfl;exact L0 K rfl (Le.refl c) (uR.refl d c) B r A u (ku u (rE _ _)) v (by rw[v];exact J) E
  |cells o=>
   simp only at h;obtain⟨N,C,D⟩:=ah h;obtain⟨j,E⟩:=aw D;rw[bB]at j;have I:=aD j.1;have J:=cN j.2;subst I;have g:=EJ c.S o;have q:dv ⟨c.μ,Gf c.S o,c.Z,c.fb⟩:=g.rel K;obtain⟨v,L⟩:=Iw q rfl C;have p:F2 (VRel ⟨c.μ,Gf c.S o,c.Z,c.fb⟩) o f:=VRel.frames g.le u
   have M:n=N.length:=by
    have:=u.length;simp only[More.cellsOf]at this;rw[v,A]at this;exact(cO (mM _) this).symm
   exact L0 (c1:=⟨c.μ,Gf c.S o,c.Z,c.fb⟩) q rfl g.le (g.calm d) (B.frame g.le) r A (L _ p) (ku (L _ p) (rE _ _)) M (by rw[M];exact J) E
theorem RF (t:dv c){v:VV}{S1:ai}{l:List (El s)}(h:LZ c.S v=O (S1, .arr s l))(p:VRel c v a):tB c.S S1/\VRel ⟨c.μ,S1,c.Z,c.fb⟩ (.lst s l) a:=by
 unfold LZ at h;split at h
 .simp only[Option.some.injEq,Prod.mk.injEq,Base.arr.injEq]at h;obtain⟨m,rfl,f⟩:=h;have f:=eq_of_heq f;subst m;subst f;exact⟨tB.refl _,p⟩
 .rename_i q;split at h
  .rename_i r z w n;simp only[Option.some.injEq,Prod.mk.injEq,Base.arr.injEq]at h;obtain⟨m,rfl,f⟩:=h;have f:=eq_of_heq f;subst m;subst f;have g:tB c.S (kE c.S q (ae c.S q).freeze):=tB.put;refine⟨g, ?_⟩;have j:=g.rel t;have u:q<c.S.length:=me (by rw[n];simp[Blk.dim]);have o:ae (kE c.S q (ae c.S q).freeze) q= .arr r Za w:=by rw[UV u,n];rfl
   refine Li j (jZ j r) (v:= .full q) ?_ (p.frame g.le);show cond (ae (kE c.S q (ae c.S q).freeze) q).frozen _ _=_;rw[o];simp only[Blk.frozen,zC,D4,o,xc,jY]
  .cases h
 .cases h
theorem af5 (j:dv c)(m:au c e ea)(n:ev e x= .nils)(h:k (.int .i64 0) c.S=O y):bu T (.capN x) ea c.Z (gx c d k y):=by
 have f:=bv m x;rw[n]at f;have g:ea.ev x= .slice Y 0 0:=by generalize ea.ev x=q at f;cases f;rfl
 refine bw (v:= .int .i64 0) (Z':=c.Z) ?_ (gx.same j (.int _ _) h);simp only[AOp.run,g]
theorem WG (N:dv c)(Q:au c e ea){E K:Operand}(h:Ps c.S (ev e x) (ev e E) (ev e K) k=O y):bu T (.sliceX x E K) ea c.Z (gx c d k y):=by
 have B:=bv Q x;have I:=bv Q E;have J:=bv Q K;unfold Ps at h;split at h
 .rename_i X f km zm eh em;rw[eh]at I;rw[em]at J;have q1:ea.ev E= .int X f:=I.int_inv;have q2:ea.ev K= .int km zm:=J.int_inv;obtain⟨M,g⟩:=aw h;clear h;have M:=of_decide_eq_true M;subst M;have h:=g;clear g
  have run: ∀(p:Option Addr) (n C:Nat) (r:Value),ea.ev x= .slice p n C->0<=f->f<=C->(match p with
    |none=>O (Value.slice Y 0 0,c.Z)
    |some ⟨b,o,Y⟩=>O (.slice (O ⟨b,o,O 0⟩) f.toNat f.toNat,c.Z)
    |_=>Y)=O (r,c.Z)->(AOp.sliceX x E K).run ea c.Z=O (r,c.Z):=by
   intro p n C r hp V g hr;have b1:mS C 0 (O (.int km f))=O f.toNat:=zE ⟨V,g⟩;have b2:mS f.toNat 0 (O (.int X f))=O f.toNat:=zE ⟨V,by omega⟩;simp only[AOp.run,hp,q1,q2,b1,b2,if_true];exact hr
  split at h
  .rename_i hx;rw[hx]at B;obtain⟨D,g⟩:=aw h;clear h;have h:=g;clear g;have D:=of_decide_eq_true D;subst D;have e1:ea.ev x= .slice Y 0 0:=by generalize ea.ev x=q at B;cases B;rfl
   exact bw (run _ _ _ (.slice Y 0 0) e1 (by simp) (by simp) rfl) (gx.same N .nils h)
  .split at h
   .rename_i S1 s l H;obtain⟨D,g⟩:=aw h;clear h;have h:=g;clear g;obtain⟨c1,c2,c3⟩:=rD D;obtain⟨t,L⟩:=RF N H B;have P:=t.rel N;have u: ∀v:Value,VRel ⟨c.μ,S1,c.Z,c.fb⟩ (.tgt s (l.take f.toNat)) v->gx c d k y v c.Z:=λv B=>⟨_,⟨c.μ,S1,c.Z,c.fb⟩,rfl,t.le,P,t.calm d,B,h⟩
    cases j:ea.ev x with
    |slice p n C=>
     rw[j]at L;cases L with
     |lstn hq=>
      have z0:f=0:=by simp at c3;omega
      subst z0;cases p with
      |none=>exact bw (run _ _ _ (.slice Y 0 0) j (by simp) (by simp) rfl) (u _ (.tgtn (.inl rfl)))
      |some A=>
       obtain⟨b,o,sp⟩:=A;have:sp=Y:=hq _ rfl;subst this;exact bw (run _ _ _ (.slice (O ⟨b,o,O 0⟩) 0 0) j (by simp) (by simp) rfl) (u _ (.tgtn (.inr ⟨_,_,rfl⟩)))
     |lst hn hy U g h2 h3 hf=>
      rename_i b o yb;refine bw (run _ _ _ (.slice (O ⟨b,o,O 0⟩) f.toNat f.toNat) j c2 (by omega) rfl) (u _ ?_);have m:(l.take f.toNat).length=f.toNat:=by rw[cK];omega
      have F:f.toNat*s.w<=n*s.w:=cP _ (by omega)
      have:=VRel.tgt (c:=⟨c.μ,S1,c.Z,c.fb⟩) (l:=l.take f.toNat) hn hy U (p:=o) (by rw[m];omega) (by
       rw[m,kA];have W:=hf.take (f.toNat*s.w);rw[cZ,cU F]at W
       exact W)
      rw[m]at this;exact this
    |_=>rw[j]at L;cases L
   .cases h
 .cases h
theorem Si (r:dv c)(t:au c e ea){es bytes:Nat}{s:Operand}(D: ∀q,vp (ev e s)=O q->q∈d)(h:Ky c.S es bytes (ev e s) (ev e x) k=O y)(j:OA c.S es bytes (ev e s) (ev e x) k=O y->bu T (.append es bytes s x) ea c.Z (gx c d k y)):bu T (.append es bytes s x) ea c.Z (gx c d k y):=by
 unfold Ky at h;split at h
 .rename_i E l p;refine ab2 r t p h λm o=> ?_
  obtain⟨n,g,u,v,w,A,B⟩:=uu r o (bv t x);have f:=v n (bD _);rw[cL (by omega)]at f;refine⟨n,g,λa C F p=> ?_,w,A,B⟩;simp only[AOp.run,p,u,f]
 .exact j h
theorem Vl (o:dv c)(p:au c e ea){es bytes:Nat}{s:Operand}(A: ∀q,vp (ev e s)=O q->q∈d)(h:OA c.S es bytes (ev e s) (ev e x) k=O y):bu T (.append es bytes s x) ea c.Z (gx c d k y):=by
 refine Kx o p A h λm j=> ?_
 obtain⟨n,g,r,t,u,v,w⟩:=uu o j (bv p x);have f:=t n (bD _);rw[cL (by omega)]at f;refine⟨n,g,λa C D B=> ?_,u,v,w⟩;simp only[AOp.run,B,r,f]
theorem Sj (I:dv c)(j:au c e ea){es bytes:Nat}{z:List Value}{s:Operand}(J: ∀q,vp (ev e s)=O q->q∈d)(h:Kz c.S es bytes z (ev e s) (ev e x) k=O y):bu T (.appendZ es bytes z s x) ea c.Z (gx c d k y):=by
 have v:=bv j x;unfold Kz at h;split at h
 .rename_i kd l K;rw[K]at v;obtain⟨g,h⟩:=aw h;unfold lJ at g;rw[bB,bB]at g;have C:=of_decide_eq_true g.1;have D:=of_decide_eq_true g.2.1;have E:=of_decide_eq_true g.2.2;refine Kx I j J h λm f=> ?_
  unfold RU at f;split at f
  .rename_i o L;cases r:aB es o.w with
   |false=>rw[r]at f;cases f
   |true=>
    rw[r]at f;simp only[zC,Option.some.injEq]at f;subst f;have j:=aD r;subst j;have A:=Bf (c:=c) L;have u:z.length=o.w:=by rw[<-A.length,ec]
    refine⟨l.toNat,eb z l.toNat,λa M Q t=> ?_,by rw[xk,u], ?_,λP N F=> ?_⟩
    .simp only[AOp.run,t,v.int_inv];rw[zE ⟨C,D,E⟩]
    .show F2 (VRel c) (ff o (cQ l.toNat (tx o))) (eb z l.toNat);rw[qO];generalize l.toNat=n;induction n with
     |zero=>exact .nil
     |succ n B=>
      simp only[eb,cW,cY]at B⊢;exact A.append B
    .injection F with H p
     subst H;have p:=eq_of_heq p;rw[<-p,List.length_replicate];exact⟨rfl,rfl⟩
  .cases f
 .cases h
theorem WI {S:ai}{q:Nat}:kE S q (ae S q)=S:=by
 induction S generalizing q with
 |nil=>rfl
 |cons a r f=>
  cases q with
  |zero=>rfl
  |succ q=>simp only[kE,ae,f]
theorem Y6 {b:Nat}{x:Ab.Blk}(h:Z.m b=O x):Z.set b (O x)=Z:=by
 have:(λi=>if i=b then O x else Z.m i)=Z.m:=by
  funext i
  by_cases f:i=b
  .rw[zE f,f,h]
  .rw[zF f]
 show Hp.mk _ _=_;rw[this]
theorem XF {es n m b o r:Nat}{all:List Value}{f:Ab.Blk}(v:ea.ev x= .slice (O ⟨b,o,Y⟩) n r)(t:C9 (ea.ev z)=O m)(u:c.Z.slice es (ea.ev z) (min m n)=O all)(q:c.Z.m b=O f)
  (g:f.own=Za) (h:o+all.length<=f.cells.length) (j:all.all one=Za):(AOp.copy es x z).run ea c.Z=O (.int .i64 (min m n:Nat),c.Z.set b (O ⟨kD f.cells o all,Za,f.es⟩)):=by
 simp only[AOp.run,v,t,u];by_cases p:all=[]
 .rw[zE p];subst p;have:(⟨kD f.cells o [],Za,f.es⟩:Ab.Blk)=f:=by cases f;simp only[kD]at*;simp[g]
  rw[this,Y6 q]
 .rw[zF p,q];simp only[E1 g h j]
theorem M2 (h:dv c){es q o n m:Nat}{dm:Nat×Nat}{all:List Value}(f:(ae c.S q).dim=O dm)(E:dm.1=es)(P:(ae c.S q).frozen=Zb)(hs:Ga c q o n dm (ea.ev x))
  (L:C9 (ea.ev z)=O m) (M:c.Z.slice es (ea.ev z) (min m n)=O all) (N:all.length=min m n*es) (W:all.all one=Za) (X:q∈d) (C:blk.dim=O dm) (D:blk.frozen=Zb) (p:dm.2=0->blk=ae c.S q)
  (r: ∀cs,F2 (VRel c) (ae c.S q).vals cs->F2 (VRel c) blk.vals (kD cs (o*es) all)) (F:k (.int .i64 (min m n:Nat)) (kE c.S q blk)=O y):bu T (.copy es x z) ea c.Z (gx c d k y):=by
 subst E;rcases hs with⟨B,u,I,Q,g⟩|⟨b,cp,A,B,u,I,Q,g,e6⟩
 .subst u;subst I;have:all=[]:=by simpa using N
  subst this;refine bw (v:= .int .i64 (min m 0:Nat)) (Z':=c.Z) ?_ (gx.same h (.int _ _) ?_)
  .simp only[AOp.run,B,L,M];simp
  .rw[p g,WI]at F;exact F
 .obtain⟨y0,cs,t,w,U,V,J,K⟩:=h.block f u;rw[g]at w;injection w with w
  subst w;have hl:=K.length;rw[BY f]at hl
  have hle:o*dm.1+min m n*dm.1<=dm.2:=by
   have:(o+min m n)*dm.1<=(o+n)*dm.1:=cP _ (by omega);rw[cM]at this;omega
  have j:o*dm.1+all.length<=A.cells.length:=by rw[J,cD,N];omega
  have H:Writes c q b blk ⟨kD A.cells (o*dm.1) all,Za,A.es⟩:=⟨P,u,C.trans f.symm,D,A,kD cs (o*dm.1) all,t,dm,g,f,U,rfl,Be _ _ _,by show kD _ _ _=_;rw[J,Ea _ _ _ _ (by omega)],r cs K⟩;exact bw (XF B L M g (V P) j W) ⟨_,_,rfl,H.le h,H.rel h,H.calm h X, .int _ _,F⟩
theorem Ig {kd:IntKind}: ∀{cs r:List VV} {m ml:Zd} {j:Nat} {as g:List Value},G4 kd m j cs=O r->F2 (VRel c) cs as->F2 (VRel c) (ml.map (VV.int kd)) g->ml=(m.drop j).take cs.length->
  F2 (VRel c) r (g++as.drop g.length)
 |[],r,m,ml,j,as,g,h,w,q,f=>by
  simp only[G4]at h;injection h with h;subst h
  cases w;simp at f;subst f;cases q;exact .nil
 |v::cs,r,m,ml,j,as,g,h,w,q,f=>by
  cases v<;>simp only[G4]at h<;>try(cases h;done)
  rename_i I n;cases p:Zc (I=kd)with
  |false=>rw[p]at h;cases h
  |true=>
   rw[p,zC]at h;have p:=of_decide_eq_true p;subst p;obtain⟨J,D,t⟩:=ah h;injection t with t
   subst t;cases w with
   |cons A o=>
    rename_i a as;have F:=A.int_inv;subst F;by_cases E:j<m.length
    .have u:m.drop j=m[j]::m.drop (j+1):=List.drop_eq_getElem_cons E;rw[u]at f;simp only[dI,List.take_succ_cons]at f;subst f;cases q with
     |cons B C=>
      rename_i b g;have H:=B.int_inv;subst H;have:=Ig D o C rfl;rw[dH,List.getElem?_eq_getElem E];exact .cons (.int _ _) this
    .have u:m.drop j=[]:=dG (by omega);rw[u]at f;simp only[List.take_nil]at f;subst f;cases q;have:=Ig (ml:=[]) D o .nil (by rw[dG (by omega)];simp);rw[dH,List.getElem?_eq_none (by omega)];exact .cons (.int _ _) this
theorem Nz {kd:IntKind}{m:Zd}: ∀{cs r:List VV} {j:Nat},G4 kd m j cs=O r->r.length=cs.length
 |[],r,j,h=>by injection h with h;subst h;rfl
 |v::cs,r,j,h=>by
  cases v<;>simp only[G4]at h<;>try(cases h;done)
  rename_i p n;cases g:Zc (p=kd)with
  |false=>rw[g]at h;cases h
  |true=>
   rw[g,zC]at h;obtain⟨q,o,f⟩:=ah h;injection f with f
   subst f;simp[Nz o]
theorem QG {m:Zd}:ff (.int kd) m=m.map (VV.int kd):=by
 induction m with
 |nil=>rfl
 |cons a m f=>rw[gf,f];rfl
theorem HJ {α:Type}{l m:List α}{o n:Nat}(h:o+n<=l.length):AU l o n m=l.take o++(m.take (min m.length n)++l.drop (o+min m.length n)):=by
 unfold AU;rw[Nat.min_comm n m.length]
 congr 2
 by_cases f:n<=m.length
 .rw[Nat.min_eq_right f]
 .rw[cU (by omega),cL (by omega),cL (by omega)]
theorem Xt {α:Type}{l m:List α}{o n:Nat}(h:o+n<=l.length):(AU l o n m).length=l.length:=by
 rw[HJ h];simp only[cD,cK,cS];omega
theorem Qb (N:dv c){es q o n:Nat}{l v:List (El s)}{mc:List VV}{m:Nat}{g:List Value}(u:ae c.S q= .arr s Zb l)(H:Ga c q o n (s.w,l.length*s.w) (ea.ev x))(Q:es=s.w)
  (J:C9 (ea.ev z)=O m) (K: ∀i,i<=m->c.Z.slice es (ea.ev z) i=O (g.take (i*es))) (L:g.length=m*es) (M:F2 (VRel c) (ff s v) g) (F:m=v.length) (P:q∈d)
  (D:k (.int .i64 (min v.length n:Nat)) (kE c.S q (.arr s Zb (AU l o n v)))=O y):bu T (.copy es x z) ea c.Z (gx c d k y):=by
 subst Q;have t:(ae c.S q).dim=O (s.w,l.length*s.w):=by rw[u];rfl
 have j:o+n<=l.length:=by
  rcases H with⟨_,X,C,_,_⟩|⟨b,V,yb,_,_,C,_⟩
  .omega
  .exact dK C (mM s)
 have A:=K (min m n) (dB _ _)
 have r:(g.take (min m n*s.w)).length=min m n*s.w:=by
  rw[cK,L,cU];exact cP _ (dB _ _)
 have p:=M.take (min m n*s.w);rw[<-kA]at p;rw[<-F]at D;refine M2 N t rfl (by rw[u];rfl) H J A r (ku p (rE _ _)) P ?_ rfl (λI=> ?_) (λW f=> ?_) D
 .simp only[Blk.dim,Xt j]
 .have:l.length=0:=by
   rcases dA l.length with h|h
   .exact h
   .have:=dE h (mM s);simp only at I;omega
  rw[u,HJ j];rw[List.length_eq_zero_iff]at this;subst this;have U:n=0:=by simp at j;omega
  subst U;simp
 .rw[u]at f;simp only[Blk.vals]at f⊢;have B:=f.length;rw[gk]at B;have E:o*s.w+min m n*s.w<=l.length*s.w:=by rw[<-cM];exact cP _ (by omega)
  rw[Pp (by rw[r];omega),HJ j,xq,xq,kA,yr,r,<-F,cM];exact(f.take _).append (p.append (f.drop _))
theorem ag2 (L:dv c)(he:au c e ea){es:Nat}(hd: ∀q,vp (ev e x)=O q->q∈d)(h:XD c.S es (ev e x) (ev e z) k=O y):bu T (.copy es x z) ea c.Z (gx c d k y):=by
 have hx:=bv he x;have hz:=bv he z;unfold XD at h
 have go: ∀(q o n:Nat) (P:Nat×Nat),(ae c.S q).dim=O P->q∈d->Ga c q o n P (ea.ev x)->
   (match ae c.S q,gW c.S es (ev e z)with
   | .arr s Zb l,O (.lst s' l')=>(kZ (.list s') (.list s) l').bind λJ=>gd (aB es s.w) (k (.int .i64 (min J.length n:Nat)) (kE c.S q (.arr s Zb (AU l o n J))))
   | .arr s Zb l,O (.cells K)=>(vz .u64 K).bind λm=>(kZ (.list (.int .u64)) (.list s) m).bind λJ=>gd (aB es s.w) (k (.int .i64 (min J.length n:Nat)) (kE c.S q (.arr s Zb (AU l o n J))))
   | .cells 1 Zb l,O (.lst (.int kd) m)=>gd (aB es 1&&cR (o+n) l.length) (match G4 kd m 0 ((l.drop o).take n)with
    |some c'=>k (.int .i64 (min m.length n:Nat)) (kE c.S q (.cells 1 Zb (l.take o++c'++l.drop (o+n))))
    |none=>Y)
   |_,_=>Y)=O y->bu T (.copy es x z) ea c.Z (gx c d k y):=by
  intro q o n P f N hs h;split at h
  .rename_i s l s' l' g V;obtain⟨m,p,t,u,v,A,X⟩:=uu L V hz;obtain⟨J,H,I⟩:=ah h;obtain⟨ee,k3⟩:=lG H;cases ee;subst k3;obtain⟨k4,k5⟩:=aw I;rw[g]at f;injection f with f
   subst f;exact Qb (mc:=[]) L g hs (aD k4) t u v A (X _ _ rfl).2 N k5
  .rename_i s l K g V;obtain⟨m,p,t,u,v,A,X⟩:=uu L V hz;obtain⟨ml,k0,H⟩:=ah h;obtain⟨J,H,I⟩:=ah H;obtain⟨ee,k3⟩:=lG H;cases ee;subst k3;obtain⟨k4,k5⟩:=aw I;rw[g]at f;injection f with f
   subst f;have j:=H9 k0;simp only[More.cellsOf]at A;rw[j,<-QG]at A;have D:=aD k4
   have E:m=J.length:=by
    have:=A.length;rw[gk,v,D]at this;exact(cO (mM _) this).symm
   exact Qb (mc:=[]) L g hs D t u v A E N k5
  .rename_i l kd ml g V;obtain⟨m,p,t,u,v,A,X⟩:=uu L V hz;obtain⟨H,I⟩:=aw h;rw[bB]at H;have D:=aD H.1;have hle:=cN H.2;subst D;split at I
   .rename_i c' F;have E:=(X _ _ rfl).2;rw[g]at f;injection f with f
    subst f;have h2':=u (min m n) (dB _ _);have M:(p.take (min m n*1)).length=min m n*1:=by rw[cK,v,cU];omega
    simp only[More.cellsOf]at A;have Q:F2 (VRel c) (ff (.int kd) (ml.take (min m n))) (p.take (min m n*1)):=by rw[kA];exact A.take (min m n*1)
    have hc':=Nz F;have U:((l.drop o).take n).length=n:=by rw[cK,cS];omega
    rw[<-E]at I;refine M2 L (by rw[g];rfl) rfl (by rw[g];rfl) hs t h2' M (ku Q (rE _ _)) N ?_ rfl (λh0=> ?_) (λK j=> ?_) I
    .simp only[Blk.dim,cD,cK,cS,hc']
     congr 2
     omega
    .simp only at h0;have:l=[]:=List.length_eq_zero_iff.1 h0;subst this;rw[g];simp at hle;have r:n=0:=by omega
     subst r;simp[G4]at F;subst F;simp
    .rw[g]at j;simp only[Blk.vals]at j⊢;have hcl:=j.length;rw[Pp (by rw[M];omega),cX,dD];refine(j.take _).append ?_;have h6:=Ig (ml:=ml.take (min m n)) F ((j.drop o).take n) (by rw[<-QG];exact Q) (by rw[U,cV,E,Nat.min_comm,<-cZ,cL (l:=ml) (bD _)])
     have h7:K.drop (o+(p.take (min m n*1)).length)=((K.drop o).take n).drop (p.take (min m n*1)).length++K.drop (o+n):=by
      rw[M,dD,List.drop_take,List.drop_drop]
      conv=>lhs;rw[<-List.take_append_drop (n-min m n) (K.drop (o+min m n))]
      rw[List.drop_drop]
      congr 2
      omega
     rw[h7,<-cX];exact h6.append (j.drop _)
   .cases I
  .cases h
 generalize ev e x=xv at*;cases xv<;>try(cases h;done)
 case full q=>
  simp only at h;cases hx with
  |full hk _ B=>
   split at h
   .rename_i n r;cases g:ae c.S q with
    |dead=>simp only[lenOf,g]at r;cases r
    |arr s z' l=>
     simp only[lenOf,g]at r;injection r with r
     have f:(ae c.S q).dim=O (s.w,l.length*s.w):=by rw[g];rfl
     obtain⟨W,t,u⟩:=B _ f;have:W=n:=by rw[<-r];exact cO (mM s) t
     subst this;exact go q 0 W _ f (hd q rfl) u h
    |cells es' z' l=>
     simp only[lenOf,g]at r;injection r with r
     have f:(ae c.S q).dim=O (es',l.length):=by rw[g];rfl
     obtain⟨W,t,u⟩:=B _ f;have v:=(L.blk q _ f).1
     have:W=n:=by
      simp only at t v;rw[<-r,<-t,dC _ v]
     subst this;exact go q 0 W _ f (hd q rfl) u h
   .cases h
 case part q o n=>
  simp only at h;cases hx with
  |part hk _ B=>
   cases C:(ae c.S q).dim with
   |none=>
    have:ae c.S q= .dead:=by
     generalize ae c.S q=blk at C;cases blk<;>first|rfl|(cases C;done)
    rw[this]at h;cases h
   |some P=>exact go q o n P C (hd q rfl) (B P C) h
end
end
section
open List renaming append_assoc -> aD, foldl_cons -> bD, getD_eq_getElem?_getD -> cB, getElem?_map -> cD, take_of_length_le -> cK
open Nat renaming le_refl -> aB, le_of_ble_eq_true -> cL
open Option renaming map_some -> bB
section
variable {β:Type} {T:Ab.fM} {c:Ctx} {e:cm} {ea:cf} {d:List Nat} {k:VV->ai->Option β} {y:β}
theorem Vx (s:ByteArray)(j:Nat):((cw s).getD j 0).toNat=(s.get! j).toNat:=by
 have f:s.get! j=s.data[j]!:=rfl;rw[f];unfold cw;rcases Nat.lt_or_ge j s.data.size with h'|h'
 .rw[getElem!_pos s.data j h',cB,cD,Array.getElem?_toList,Array.getElem?_eq_getElem h'];rfl
 .rw[getElem!_neg s.data j (by omega),cB,cD,Array.getElem?_toList,Array.getElem?_eq_none h'];rfl
theorem yk (s:ByteArray):(cw s).length=s.size:=by
 simp[cw]
theorem M4 (s:ByteArray)(i:Nat):Utf8.decode s i=NE (cw s) i:=by
 unfold Utf8.decode NE;simp only[Vx,yk]
theorem YR (f:dv c)(j:au c e ea)(p:ev e x= .str l)(h:k (.it c.S.length l) (c.S++[.cells 1 Zb [.int .i64 0]])=O y):bu T (.range x) ea c.Z (gx c d k y):=by
 have g:=bv j x;rw[p]at g;obtain⟨s,o,m⟩:=g.str_inv;refine bw (v:= .iface c.Z.n (.string s)) (Z':=c.Z.add ⟨[.int .i64 0],Za,1⟩) (by simp only[AOp.run,o]) ?_;refine gx.new (kill:=Y) f (PW f (blk:= .cells 1 Zb [.int .i64 0]) (x:=⟨[.int .i64 0],Za,1⟩) (d:=(1,1)) rfl (aB _) rfl rfl (.cons (.int _ _) .nil)) (λ_ h=>by cases h) ?_ h;refine .it (by simp[px]) rfl m λq _=>⟨c.Z.n, ?_,rfl⟩
 simp[tX]
theorem am4 (f:dv c)(h:k (.bld c.S.length) (c.S++[.cells 1 Zb [.str []]])=O y):bu T .newB ea c.Z (gx c d k y):=by
 refine bw (v:= .iface c.Z.n .nilFunc) (Z':=c.Z.add ⟨[.string ByteArray.empty],Za,1⟩) (by simp only[AOp.run]) ?_;refine gx.new (kill:=Y) f (PW f (blk:= .cells 1 Zb [.str []]) (x:=⟨[.string ByteArray.empty],Za,1⟩) (d:=(1,1)) rfl (aB _) rfl rfl (.cons (.str rfl) .nil)) (λ_ h=>by cases h) ?_ h;refine .bld (by simp[px]) rfl λg _=>⟨c.Z.n, ?_,rfl⟩
 simp[tX]
theorem VRel.it_inv {q:Nat}(h:VRel c (.it q l) a): ∃s,cw s=l/\∀d,(ae c.S q).dim=O d->∃b,c.μ q=O b/\a= .iface b (.string s):=by
 cases h with
 |it _ _ g f=>exact⟨_,g,f⟩
theorem am5 (m:dv c)(M:au c e ea)(L: ∀q,vp (ev e x)=O q->q∈d)(h:Ys c.S (ev e x) k=O y):bu T (.next x) ea c.Z (gx c d k y):=by
 have K:=bv M x;generalize ev e x=v at*;unfold Ys at h;split at h
 .rename_i q l;split at h
  .rename_i es p r j;obtain⟨B,w⟩:=aw h;rw[Bool.and_eq_true]at B;have I:=of_decide_eq_true B.1;have N:=cL B.2;generalize n:ea.ev x=a at K;obtain⟨s,J,o⟩:=K.it_inv
   .skip
    obtain⟨b,H,rfl⟩:=o (es,(VV.int .i64 p::r).length) (by rw[j];rfl);obtain⟨A,cs,g,D,Q,E,U,F⟩:=m.block (k:=q) (d:=(es,(VV.int .i64 p::r).length)) (by rw[j];rfl) H;rw[j]at E F;simp only[Blk.vals]at F;cases F with
    |cons V W=>
     rename_i X u;cases V;have f:A.cells= .int .i64 p::(u++g):=U;have P:s.size=l.length:=by rw[<-J,yk]
     by_cases t:p<l.length
     .rw[zB t,zC]at w
      have C:Writes c q b (.cells es Zb (.int .i64 (Ro l p)::r)) ⟨.int .i64 (Ro l p)::(u++g),Za,A.es⟩:=by
       refine⟨by rw[j];rfl,H,by rw[j];rfl,rfl,A, .int .i64 (Ro l p)::u,g,(es,_),D,by rw[j];rfl,Q,rfl,by rw[f];rfl,rfl, .cons (.int _ _) W⟩
      refine bw (v:= .tuple #[.bool Za, .int .i64 p, .int .i32 (Y0 l p)]) (Z':=c.Z.set b (O ⟨.int .i64 (Ro l p)::(u++g),Za,A.es⟩)) ?_ ⟨.tup [.bool Za, .int .i64 p, .int .i32 (Y0 l p)],_,rfl,C.le m,C.rel m,C.calm m (L q rfl), .tup (.cons (.bool _) (.cons (.int _ _) (.cons (.int _ _) .nil))),w⟩;simp only[AOp.run,n,D];rw[zE (E rfl),f];simp only[];rw[zE I,Zg,M4,J];rfl
     .rw[zA t,zD]at w;refine bw (v:= .tuple #[.bool Zb]) (Z':=c.Z) ?_ (gx.same m (.tup (.cons (.bool _) .nil)) w);simp only[AOp.run,n,D];rw[zE (E rfl),f];simp only[];rw[zE I,Zh]
  .cases h
 .cases h
theorem ah3 (m:dv c)(o:au c e ea){n:Int}(f:GO (ev e x)=O n)(h:k (.str (L7 n)) c.S=O y):bu T (.encR x) ea c.Z (gx c d k y):=by
 have j:=bv o x
 have g:X3 (ea.ev x)=O n:=by
  generalize ea.ev x=a at j;generalize ev e x=v at*;cases j<;>simp only[GO]at f<;>first|(cases f;done)|exact f
 refine bw (v:= .string (Utf8.encode n)) (Z':=c.Z) ?_ (gx.same m (.str rfl) h);simp only[AOp.run,g,bB]
theorem Qu : ∀{cs:List VV} {as:List Value} {l:Zd},vz .u8 cs=O l->F2 (VRel c) cs as->Ar as=O l
 |[],_,l,h,f=>by
  cases f;injection h with h
  subst h;rfl
 |v::cs,_,l,h,f=>by
  cases f with
  |cons m o=>
   cases v with
   |int p n=>
    unfold vz at h;by_cases j:p= .u8
    .subst j;rw[zB rfl,zC]at h;cases g:vz .u8 cs with
     |none=>rw[g]at h;cases h
     |some r=>
      rw[g]at h;injection h with h
      subst h;cases m;unfold Ar;rw[Qu g o];rfl
    .rw[zA j]at h;cases h
   |_=>cases h
theorem K2 : ∀{l:Zd} {as:List Value},F2 (VRel c) (ff (.int .u8) l) as->Ar as=O l
 |[],_,f=>by cases f;rfl
 |n::l,_,f=>by
  cases f with
  |cons g h=>
   cases g;unfold Ar;rw[K2 (l:=l) h];rfl
theorem aF4 (l:Zd):cw (Tr l)=l.map KO:=by
 have f: ∀(l:Zd) (s:ByteArray),cw (l.foldl (λr n=>r.push (UInt8.ofNat n.toNat)) s)=cw s++l.map KO:=by
  intro l;induction l with
  |nil=>intro s;simp
  |cons n l g=>
   intro s;rw[bD,g,List.map_cons]
   have:cw (s.push (UInt8.ofNat n.toNat))=cw s++[KO n]:=by
    simp[cw,KO,ByteArray.push]
   rw[this,aD];rfl
 have:=f l ByteArray.empty;simpa[Tr,cw]using this
theorem aa4 (L:dv c)(X:au c e ea)(h:Ts c.S (ev e x) k=O y):bu T (.strOf x) ea c.Z (gx c d k y):=by
 have N:=bv X x
 have u: ∀(m:More) (l:Zd),(∀t,ev e x≠ .str t)->gW c.S 1 (ev e x)=O m->(∀w,F2 (VRel c) m.cellsOf w->Ar w=O l)->k (.str (l.map KO)) c.S=O y->bu T (.strOf x) ea c.Z (gx c d k y):=by
  intro m l g f W hk;obtain⟨n,C,K,Q,h3,U,_⟩:=uu L f N;have D:=Q n (aB _);rw[Nat.mul_one,cK (by omega)]at D;have V:=W C U
  obtain⟨p,J,M⟩: ∃p J,ea.ev x= .slice p n J:=by
   generalize ea.ev x=a at*;cases a<;>simp[C9]at K
   .generalize ev e x=v at*
    have r: ∀q,(gW c.S 1 (.full q)=O m∨∃o n,gW c.S 1 (.part q o n)=O m)->∃d,(ae c.S q).dim=O d:=by
     intro q A;cases hg:ae c.S q with
     |dead=>rcases A with A|⟨_,_,A⟩<;>simp[gW,hg]at A
     |cells es z l=>exact⟨_,rfl⟩
     |arr s z l=>exact⟨_,rfl⟩
    cases N with
    |str _=>exact(g _ rfl).elim
    |undef=>simp[gW]at f
    |ptr _ _ _=>simp[gW]at f
    |it _ _ _ _=>simp[gW]at f
    |bld _ _ _=>simp[gW]at f
    |pix _ _ _ _=>simp[gW]at f
    |pel _ _ _=>simp[gW]at f
    |tgtn _=>simp[gW]at f
    |full _ _ F=>
     obtain⟨d,j⟩:=r _ (.inl f);obtain⟨_,_,B⟩:=F d j;rcases B with⟨e,_⟩|⟨_,_,_,e,_⟩<;>cases e
    |part _ _ F=>
     obtain⟨d,j⟩:=r _ (.inr ⟨_,_,f⟩);rcases F d j with⟨e,_⟩|⟨_,_,_,e,_⟩<;>cases e
   .subst K;exact⟨_,_,rfl⟩
  refine bw (v:= .string (Tr l)) (Z':=c.Z) ?_ (gx.same L (.str (aF4 l)) hk);rw[M]at D;simp only[AOp.run,M,D,V,bB]
 unfold Ts at h;split at h
 .cases h
 .rename_i g;split at h
  .rename_i s l f;by_cases B:s= .int .u8
   .subst B;rw[jY]at h;exact u _ l (λt I=>g t I) f (λw E=>K2 E) h
   .unfold kZ at h;rw[dif_neg (λe=>B (by injection e))]at h;cases h
  .rename_i P f;cases H:vz .u8 P with
   |none=>rw[H]at h;cases h
   |some l=>
    rw[H]at h;exact u _ l (λt I=>g t I) f (λw E=>Qu H E) h
  .cases h
theorem Nl : ∀{cs:List VV} {as:List Value} {l:Zd},vz .i32 cs=O l->F2 (VRel c) cs as->Ax as=O l
 |[],_,l,h,f=>by
  cases f;injection h with h
  subst h;rfl
 |v::cs,_,l,h,f=>by
  cases f with
  |cons m o=>
   cases v with
   |int p n=>
    unfold vz at h;by_cases j:p= .i32
    .subst j;rw[zB rfl,zC]at h;cases g:vz .i32 cs with
     |none=>rw[g]at h;cases h
     |some r=>
      rw[g]at h;injection h with h
      subst h;cases m;unfold Ax;rw[Nl g o];rfl
    .rw[zA j]at h;cases h
   |_=>cases h
theorem K3 : ∀{l:Zd} {as:List Value},F2 (VRel c) (ff (.int .i32) l) as->Ax as=O l
 |[],_,f=>by cases f;rfl
 |n::l,_,f=>by
  cases f with
  |cons g h=>
   cases g;unfold Ax;rw[K3 (l:=l) h];rfl
theorem aF5 (l:Zd):cw (Tt l)=l.flatMap L7:=by
 have f: ∀(l:Zd) (s:ByteArray),cw (l.foldl (λr n=>r++Utf8.encode n) s)=cw s++l.flatMap L7:=by
  intro l;induction l with
  |nil=>intro s;simp
  |cons n l g=>
   intro s;rw[bD,g,List.flatMap_cons,KP,aD];rfl
 have:=f l ByteArray.empty;simpa[Tt,cw]using this
theorem ar5 (L:dv c)(X:au c e ea)(h:aa5 c.S (ev e x) k=O y):bu T (.strOfR x) ea c.Z (gx c d k y):=by
 have N:=bv X x
 have u: ∀(m:More) (l:Zd),(∀t,ev e x≠ .str t)->gW c.S 1 (ev e x)=O m->(∀w,F2 (VRel c) m.cellsOf w->Ax w=O l)->k (.str (l.flatMap L7)) c.S=O y->bu T (.strOfR x) ea c.Z (gx c d k y):=by
  intro m l g f W hk;obtain⟨n,C,K,Q,h3,U,_⟩:=uu L f N;have D:=Q n (aB _);rw[Nat.mul_one,cK (by omega)]at D;have V:=W C U
  obtain⟨p,J,M⟩: ∃p J,ea.ev x= .slice p n J:=by
   generalize ea.ev x=a at*;cases a<;>simp[C9]at K
   .generalize ev e x=v at*
    have r: ∀q,(gW c.S 1 (.full q)=O m∨∃o n,gW c.S 1 (.part q o n)=O m)->∃d,(ae c.S q).dim=O d:=by
     intro q A;cases hg:ae c.S q with
     |dead=>rcases A with A|⟨_,_,A⟩<;>simp[gW,hg]at A
     |cells es z l=>exact⟨_,rfl⟩
     |arr s z l=>exact⟨_,rfl⟩
    cases N with
    |str _=>exact(g _ rfl).elim
    |undef=>simp[gW]at f
    |ptr _ _ _=>simp[gW]at f
    |it _ _ _ _=>simp[gW]at f
    |bld _ _ _=>simp[gW]at f
    |pix _ _ _ _=>simp[gW]at f
    |pel _ _ _=>simp[gW]at f
    |tgtn _=>simp[gW]at f
    |full _ _ F=>
     obtain⟨d,j⟩:=r _ (.inl f);obtain⟨_,_,B⟩:=F d j;rcases B with⟨e,_⟩|⟨_,_,_,e,_⟩<;>cases e
    |part _ _ F=>
     obtain⟨d,j⟩:=r _ (.inr ⟨_,_,f⟩);rcases F d j with⟨e,_⟩|⟨_,_,_,e,_⟩<;>cases e
   .subst K;exact⟨_,_,rfl⟩
  refine bw (v:= .string (Tt l)) (Z':=c.Z) ?_ (gx.same L (.str (aF5 l)) hk);rw[M]at D;simp only[AOp.run,M,D,V,bB]
 unfold aa5 at h;split at h
 .cases h
 .rename_i g;split at h
  .rename_i s l f;by_cases B:s= .int .i32
   .subst B;rw[jY]at h;exact u _ l (λt I=>g t I) f (λw E=>K3 E) h
   .unfold kZ at h;rw[dif_neg (λe=>B (by injection e))]at h;cases h
  .rename_i P f;cases H:vz .i32 P with
   |none=>rw[H]at h;cases h
   |some l=>
    rw[H]at h;exact u _ l (λt I=>g t I) f (λw E=>Nl H E) h
  .cases h
theorem Rp (s:ByteArray): ∀(b i:Nat) (acc:Array Value),(Conv.runesFrom s b i acc).toList=acc.toList++(LN b (cw s) i).map (Value.int .i32)
 |0,i,acc=>by simp[Conv.runesFrom,LN]
 |b+1,i,acc=>by
  unfold Conv.runesFrom LN;rw[yk];by_cases h:i<s.size
  .rw[zE h,zE h,Rp s b];simp only[Array.toList_push,aD,List.map_cons,M4];rfl
  .rw[zF h,zF h];simp
theorem WE (s:ByteArray):lf s=(F3 (cw s)).map (Value.int .i32):=by
 unfold lf F3;rw[Rp,yk];rfl
theorem Ng (k:IntKind): ∀l:Zd,F2 (VRel c) (ff (.int k) l) (l.map (Value.int k))
 |[]=> .nil
 |n::l=> .cons (.int k n) (Ng k l)
theorem am0 (A:dv c)(K:au c e ea)(h:Yj c.S (ev e x) k=O y):bu T (.mark x) ea c.Z (gx c d k y):=by
 have m:=bv K x;unfold Yj at h;split at h
 .rename_i q P;split at h
  .rename_i w u r B;have I:=h;have p:(ae c.S q).frozen=Zb:=by rw[B];rfl
   have C:(ae c.S q).dim=O (w,(u::r).length):=by rw[B];rfl
   rw[P]at m;generalize o:ea.ev x=a at m;have t:=m;cases m with
   |full W X f=>
    obtain⟨n,g,N⟩:=f _ C;rcases N with⟨_,_,_,_,H⟩|⟨b,F,y0,rfl,M,L,J,hy,D⟩
    .simp at H
    .obtain⟨y1,V,E,Q,q3,U,q5,q6⟩:=A.block C M;have j:0<n:=Nat.pos_of_ne_zero (λe=>by subst e;rw[Nat.zero_mul]at g;simp at g);refine bw (v:= .slice (O ⟨b,0*w,Y⟩) n F) (Z':=c.Z) ?_ (gx.same A t I);simp only[AOp.run,o];rw[zE j,Q];simp only[U p,if_true]
  .cases h
 .cases h
theorem Y1 (j:dv c)(B:au c e ea)(h:Tj c.S (ev e x) k=O y):bu T (.runesOf x) ea c.Z (gx c d k y):=by
 have u:=bv B x;unfold Tj at h;split at h
 .rename_i l f;obtain⟨p,C⟩:=aw h;have p:=cL p;rw[f]at u;obtain⟨s,D,r⟩:=u.str_inv;have E:s.size=l.length:=by rw[<-r,yk]
  have g:=WE s;rw[r]at g;refine bw (v:= .slice (O ⟨c.Z.n,0,Y⟩) (lf s).length (lf s).length) (Z':=c.Z.add ⟨lf s,Za,1⟩) ?_ ?_
  .simp only[AOp.run,D];rw[Zg]
  .have t:(lf s).length=(F3 l).length:=by rw[g,List.length_map]
   have o:Moves c Y (O c.Z.n) (.arr (.int .i32) Zb (F3 l)) (c.Z.add ⟨lf s,Za,1⟩):=by
    refine⟨(λb h _ A=>by injection h with h;subst h;exact Nat.lt_irrefl _ (j.fbl _ A)),(λ_ h=>by cases h),λq x f=> ?_,Nat.le_succ _,λi x f _=> ?_,(1,(F3 l).length*1),rfl,aB _, .inr ⟨c.Z.n,⟨lf s,Za,1⟩,lf s,[],rfl,zE rfl,rfl,λ_=>rfl,(List.append_nil _).symm,by rw[g];exact Ng _ _, .inl λw F=> ?_⟩⟩
    .simp only[Hp.add]at f⊢;split at f
     .omega
     .have:=j.ok q x f;omega
    .have:=j.ok i x f;simp only[Hp.add];rw[Zh];exact f
    .have:=j.ok _ _ F;omega
   refine gx.new (kill:=Y) j o (λ_ h=>by cases h) (vA (dm:=(1,(F3 l).length*1)) (n:=(lf s).length) (m:=(lf s).length) (yb:=⟨lf s,Za,1⟩) rfl (by simp only;omega) (aB _) (zE rfl) ?_) C;simp
 .cases h
end
end
end Go.V
