/- A part of the proof. No condition. -/
import Derived.Test.YtgnojcajllcmoaaGreatDoorA4
set_option linter.all false
namespace Go.V
open Go.Ab
open Option renaming some->O,none->Y
open Bool renaming true->Za,false->Zb
open Decidable renaming decide->Zc
open List renaming length_eq_zero_iff->dl
open List renaming mem_append->cI
open List renaming mem_cons->bf
open List renaming length->ft
open Option renaming bind->gn
variable {c c' c1 ct:Ctx}{st st' stf:DSt}{N i j k:Nat}{sk:rp}{as:List Value}{bs fs:List Blk}{fx l mov:List Nat}{vals vs:List VV}{a:Value}{x:Option Src}{o:OSk}{s:Sh}{b:Blk}{m:List<|Option Src}{S' S2:ak}{tab:Tab}
section
open Bool renaming and_eq_true->cD
open List renaming append_assoc->aD,singleton_append->bD,mem_cons_of_mem->cB,length_take->cK,take_of_length_le->cL
open Nat renaming beq->aB,eq_of_beq_eq_true->bB
structure Still (c ct:Ctx):Prop where
 Z:ct.Z=c.Z
 nm: ∀b y,c.Z.m b=O y->¬c.mut b->¬ct.mut b
section
variable {c ct:Ctx}
def sy (h:Still c ct): ∀(s:Sh) (x:El s) (as:List Value),F2 (VRel c) (ey s x) as->F2 (VRel ct) (ey s x) as
 | .int k,n,as,d=>by
  cases d with
  |cons e f=>cases f;cases e;exact .cons (.int _ _) .nil
 | .bool,b,as,d=>by
  cases d with
  |cons e f=>cases f;cases e;exact .cons (.bool _) .nil
 | .str,l,as,d=>by
  cases d with
  |cons e f=>cases f;cases e;exact .cons (.str ZW) .nil
 | .list s,l,as,d=>by
  cases d with
  |cons e f=>
   cases f;refine .cons ?_ .nil;cases e with
   |lstn E=>exact .lstn E
   |lst B t A v w z g=>
    refine .lst (h.nm _ _ t B) (by rw[h.Z];exact t) A v w z ?_;clear t A w z B;subst v;revert g;rename_i b p D y;generalize (y.cells.drop _).take _=as;clear y D p b;intro g;induction l generalizing as with
    |nil=>cases g;exact .nil
    |cons x l F=>
     rw[gK]at g⊢;obtain⟨u,C,rfl,q,r⟩:=F2.app_left g;exact(sy h s x u q).append (F _ r)
 | .pair a b,x,as,d=>by
  simp only[ey]at d⊢;obtain⟨u,C,rfl,q,r⟩:=F2.app_left d;exact(sy h a x.1 u q).append<|sy h b x.2 C r
def Ml (h:Still c ct){l:List<|El s}: ∀{as:List Value},F2 (VRel c) (fZ s l) as->F2 (VRel ct) (fZ s l) as:=by
 induction l with
 |nil=>intro as d;cases d;exact .nil
 |cons x l g=>
  intro as d;rw[gK]at d⊢;obtain⟨n,p,rfl,e,f⟩:=F2.app_left d;exact(sy h s x n e).append<|g f
def AW.still (h:Still c ct){l:List<|El s}(t:AW c s l a):AW ct s l a:=by
 rcases t with d|⟨b,p,e,y,d,f,g,n,q,r⟩
 .exact .inl d
 exact .inr ⟨b,p,e,y,d,by rw[h.Z];exact f,g,n,q,Ml h r⟩
structure Sub (st st':DSt):Prop where
 m: ∃t,st'.m=st.m++t
 lent: ∀k∈st.lent,k∈st'.lent
def Sub.refl (st:DSt):Sub st st:=⟨⟨[],V2⟩,λ_ h=>h⟩
def Sub.trans {a b d:DSt}(h:Sub a b)(k:Sub b d):Sub a d:=by
 have⟨t,e⟩:=h.m;have⟨u,f⟩:=k.m;exact⟨⟨t++u,by rw[f,e,aD]⟩,λi g=>k.lent i<|h.lent i g⟩
def F5 (N:Nat)(m:List<|Option Src)(j:Nat)(x:Option Src):Prop:=(j<N/\x=O ⟨j,Y⟩)∨(N<=j/\nth m (j-N)=O x)
theorem Kb {α:Type}{l t:List α}{x:α}(h:nth l i=O x):nth (l++t) i=O x:=by
 rw[Bt]at h⊢
 grind
def F5.sub (g:Sub st st')(h:F5 N st.m j x):F5 N st'.m j x:=by
 rcases h with h|⟨d,e⟩
 .exact .inl h
 have⟨t,f⟩:=g.m;exact .inr ⟨d,by rw[f];exact Kb e⟩
def B8 (h:st.link N j x=O st'):F5 N st'.m j x/\st'.ls=st.ls/\st'.lent=st.lent/\Sub st st':=by
 unfold DSt.link at h;cases e:Nat.blt j N with
 |true=>
  rw[e,zC]at h;split at h
  .rename_i k;cases d:aB k j with
   |false=>rw[d]at h;cases h
   |true=>
    rw[d]at h;cases h;have:=bB d;subst this;exact⟨.inl ⟨Nat.le_of_ble_eq_true e,rfl⟩,rfl,rfl,Sub.refl _⟩
  cases h
 |false=>
  rw[e,zD]at h
  have f:N<=j:=by
   rcases Nat.lt_or_ge j N with h1|h1
   .rw[show Nat.blt j N=Za from Nat.ble_eq_true_of_le h1]at e;cases e
   exact h1
  split at h
  .rename_i k g;split at h
   .rename_i n;cases d:aB k n with
    |false=>rw[d]at h;cases h
    |true=>
     rw[d]at h;cases h;have:=bB d;subst this;exact⟨.inr ⟨f,g⟩,rfl,rfl,Sub.refl _⟩
   cases h
  .cases h
  rename_i g;cases d:aB (j-N) (ft st.m) with
  |false=>rw[d]at h;cases h
  |true=>
   rw[d]at h;cases h;have:=bB d;refine⟨.inr ⟨f, ?_⟩,rfl,rfl,⟨⟨[x],rfl⟩,λ_ h=>h⟩⟩;rw[Bt,this];simp
def Lk (c ct:Ctx)(x:Option Src)(f:Nat):Prop:=f<ft ct.S/\∀e,(ag ct.S f).dim=O e->match x with
 |none=>e.2=0/\ct.μ f=Y
 |some ⟨k,g⟩=> ∃d,(ag c.S k).dim=O d/\e.1=d.1/\ct.μ f=c.μ k/\(match g with
  |none=>e.2=d.2
  |some n=>e.2=min (n*d.1) d.2)
structure Tell (c ct:Ctx)(N:Nat)(f:Nat->Nat)(stf:DSt):Prop extends Still c ct where
 lk: ∀j x,F5 N stf.m j x->Lk c ct x (f j)
 lent: ∀k,k∈stf.lent->(ag c.S k).dim≠Y->∀b,c.μ k=O b->¬ct.mut b
def I7.tell {t n:Nat}{d:Nat×Nat}{d2':Nat}(z:ct.Z=c.Z)(r:ct.μ t=c.μ k)(g:d2'=n*d.1)(h:I7 c k 0 n d a):I7 ct t 0 n (d.1,d2') a:=by
 rcases h with⟨f,_,e,p,q⟩|⟨b,u,y,f,e,p,q,v,w⟩
 .exact .inl ⟨f,rfl,e,r.trans p,by rw[g,e];simp⟩
 exact .inr ⟨b,u,y,f,r.trans e,by rw[g,Nat.zero_add];exact Nat.le_refl _,q,by rw[z];exact v,w⟩
theorem al4 {f:Nat->Nat}(D:Rel c)(r:Tell c ct N f stf){v:VV}{l:List<|El s}(h:ac9 c.S s v=O l)(H:VRel c v a)(F: ∀k,Lq v=O k->k∈stf.lent):VRel ct (.lst s l) a:=by
 have⟨t,A⟩:=aB8 D h H;refine(t.still r.toStill).rel λb p n u e E=> ?_
 rcases A b p n u e E with g|⟨k,g,B,C⟩
 .rcases t with⟨q,d,_⟩|⟨I,J,w,y,d,z,_⟩
  .rw[d]at e
   grind
  rw[d]at e;injection e with e _ _
  injection e with e
  cases e;exact r.nm _ _ z g
 exact r.lent k (F k g) B b C
def Rv {st:DSt}{v:VV}:(∀k,Lq v=O k->k∈(st.lend v).lent)/\(st.lend v).m=st.m/\(st.lend v).ls=st.ls/\(∀k∈st.lent,k∈(st.lend v).lent):=by
 cases v<;>refine⟨λk h=> ?_,rfl,rfl,λk h=> ?_⟩<;>first|(cases h;done)|(cases h;exact List.mem_cons_self)|exact cB _ h|exact h
mutual
def aO9 {S:ak}{N:Nat}: ∀(sk:Sk) (v:VV) (st st1:DSt),Lb S N sk v st=O st1->Sub st st1
 | .undef,v,st,st1,h=>by
  simp only[Lb]at h;cases h;exact Sub.refl _
 | .leaf s,v,st,st1,h=>by
  simp only[Lb]at h;split at h
  .rename_i k k' n;cases hk:Zc (k'=k)with
   |false=>rw[hk]at h;cases h
   |true=>rw[hk]at h;cases h;exact⟨⟨[],ZC⟩,λ_ h=>h⟩
  .injection h with h;subst h;exact⟨⟨[],ZC⟩,λ_ h=>h⟩
  .injection h with h;subst h;exact⟨⟨[],ZC⟩,λ_ h=>h⟩
  .rename_i s;have⟨l,h1,h2⟩:=ai h;cases h2
   have⟨_,h4,_,h6⟩:= @Rv st v;exact⟨⟨[],by simp[DSt.push,h4]⟩,h6⟩
  .cases h
 | .cint k n,v,st,st1,h=>by
  cases v<;>simp only[Lb]at h<;>try(cases h;done)
  rename_i k' n';cases hk:(Zc (k'=k)&&Zc (n'=n))with
  |false=>rw[hk]at h;cases h
  |true=>rw[hk]at h;cases h;exact Sub.refl _
 | .nilp,v,st,st1,h=>by
  cases v<;>simp only[Lb]at h<;>try(cases h;done)
  cases h;exact Sub.refl _
 | .nils,v,st,st1,h=>by
  cases v<;>simp only[Lb]at h<;>try(cases h;done)
  cases h;exact Sub.refl _
 | .nilf,v,st,st1,h=>by
  cases v<;>simp only[Lb]at h<;>try(cases h;done)
  cases h;exact Sub.refl _
 | .ptr j o,v,st,st1,h=>by
  cases v<;>simp only[Lb]at h<;>try(cases h;done)
  rename_i k o';cases hk:aB o o' with
  |false=>rw[hk]at h;cases h
  |true=>rw[hk,zC]at h;exact(B8 h).2.2.2
 | .full j,v,st,st1,h=>by
  simp only[Lb]at h;split at h
  .exact(B8 h).2.2.2
  .exact(B8 h).2.2.2
  .exact(B8 h).2.2.2
  .cases h
 | .pin s o,v,st,st1,h=>by
  cases v<;>simp only[Lb]at h<;>try(cases h;done)
  rename_i s' x o';cases hk:aB o o' with
  |false=>rw[hk]at h;cases h
  |true=>
   rw[hk]at h;have⟨y,h1,h2⟩:=ai h;cases h2;exact⟨⟨[],ZC⟩,λ_ h=>h⟩
 | .fn g a b,v,st,st1,h=>by
  cases v<;>simp only[Lb]at h<;>try(cases h;done)
  rename_i g' a' b';cases hk:aB g g' with
  |false=>rw[hk]at h;cases h
  |true=>
   rw[hk]at h;have⟨st2,h1,h2⟩:=ai h;exact(vA a a' st st2 h1).trans (vA b b' st2 st1 h2)
 | .agg l,v,st,st1,h=>by
  cases v<;>simp only[Lb]at h<;>try(cases h;done)
  exact vA l _ st st1 h
 | .tup l,v,st,st1,h=>by
  cases v<;>simp only[Lb]at h<;>try(cases h;done)
  exact vA l _ st st1 h
def vA {S:ak}{N:Nat}: ∀(l:List Sk) (vs:List VV) (st st1:DSt),IK S N l vs st=O st1->Sub st st1
 |[],vs,st,st1,h=>by
  cases vs<;>simp only[IK]at h<;>try(cases h;done)
  cases h;exact Sub.refl _
 |k::r,vs,st,st1,h=>by
  cases vs with
  |nil=>simp only[IK]at h;cases h
  |cons v vs=>
   simp only[IK]at h;have⟨st2,h1,h2⟩:=ai h;exact(aO9 k v st st2 h1).trans<|vA r vs st2 st1 h2
end
def am5 {f:Nat->Nat}(r:Tell c ct N f stf)(A:F5 N stf.m j<|O ⟨k,Y⟩)(C:VRel c (.full k) a):VRel ct (.full<|f j) a:=by
 have⟨t,u⟩:=r.lk _ _ A;cases C with
 |full D B z=>
  refine .full t B λh g=> ?_
  have⟨d,v,p,w,e⟩:=u h g;have⟨n,q,y⟩:=z d v;simp only at e;refine⟨n,by rw[p,e];exact q, ?_⟩;have:=y.tell r.Z w (d2':=h.2) (by rw[e,q]);rw[<-p]at this;exact this
def ay4 {f:Nat->Nat}(t:Tell c ct N f stf){n:Nat}(A:F5 N stf.m j<|O ⟨k,O n⟩)(C:VRel c (.part k 0 n) a):VRel ct (.full<|f j) a:=by
 have⟨v,w⟩:=t.lk _ _ A;cases C with
 |part D B u=>
  refine .full v B λp h=> ?_
  have⟨d,q,r,y,g⟩:=w p h;simp only at g
  have z:n*d.1<=d.2:=by
   rcases u d q with⟨_,_,e,_,_⟩|⟨_,_,_,_,_,e,_⟩
   .rw[e];simp
   rwa [Nat.zero_add]at e
  rw[Nat.min_eq_left z]at g;refine⟨n,by rw[r,g], ?_⟩;have:=(u d q).tell t.Z y (d2':=p.2) g;rw[<-r]at this;exact this
def aD5 {f:Nat->Nat}(q:Tell c ct N f stf)(r:F5 N stf.m j Y):VRel ct (.full<|f j)<|.slice Y 0 0:=by
 have⟨h,n⟩:=q.lk _ _ r;refine .full h rfl λg d=> ?_
 have⟨e,p⟩:=n g d;exact⟨0,by rw[e];simp, .inl ⟨rfl,rfl,rfl,p,e⟩⟩
mutual
theorem aP0 {N:Nat}{f:Nat->Nat}{stf:DSt}(hR:Rel c)(hT:Tell c ct N f stf): ∀(sk:Sk) (v:VV) (st st1:DSt) (a:Value),Lb c.S N sk v st=O st1->Sub st1 stf->VRel c v a->
  ∃new,st1.ls=st.ls++new/\∀rest,∃v',enc f sk (new++rest)=O (v',rest)/\VRel ct v' a
 | .undef,v,st,st1,a,h,hs,hv=>by
  simp only[Lb]at h;cases h
  exact⟨[],V2,λrest=>⟨.undef,ZE, .undef _⟩⟩
 | .leaf s,v,st,st1,a,h,hs,hv=>by
  simp only[Lb]at h;split at h
  .rename_i k k' n;cases hk:Zc (k'=k)with
   |false=>rw[hk]at h;cases h
   |true=>
    rw[hk]at h;cases h
    have:=of_decide_eq_true hk;subst this;refine⟨[⟨.int k',n⟩],rfl,λrest=>⟨.int k' n, ?_, ?_⟩⟩
    .simp only[bD,enc,lU,zG]
    .rw[hv.int_inv];exact .int _ _
  .rename_i b;cases h
   refine⟨[⟨.bool,b⟩],rfl,λrest=>⟨.bool b, ?_, ?_⟩⟩
   .simp only[bD,enc,lU,zG]
   .rw[hv.bool_inv];exact .bool _
  .rename_i l;cases h
   refine⟨[⟨.str,l⟩],rfl,λrest=>⟨.str l, ?_, ?_⟩⟩
   .simp only[bD,enc,lU,zG]
   .obtain⟨s,h1,h2⟩:=hv.str_inv;rw[h1];exact .str h2
  .rename_i s;have⟨l,h1,h2⟩:=ai h;cases h2
   have⟨h3,h4,h5,h6⟩:= @Rv st v;refine⟨[⟨.list s,l⟩],by simp[DSt.push,h5],λrest=>⟨.lst s l, ?_, ?_⟩⟩
   .simp only[bD,enc,lU,zG]
   .exact al4 hR hT h1 hv λk hk=>hs.lent k (h3 k hk)
  .cases h
 | .cint k n,v,st,st1,a,h,hs,hv=>by
  cases v<;>simp only[Lb]at h<;>try(cases h;done)
  rename_i k' n';cases hk:(Zc (k'=k)&&Zc (n'=n))with
  |false=>rw[hk]at h;cases h
  |true=>
   rw[hk]at h;cases h
   rw[cD]at hk;have e1:=of_decide_eq_true hk.1;have e2:=of_decide_eq_true hk.2;subst e1;subst e2;refine⟨[],V2,λrest=>⟨.int k' n',ZE, ?_⟩⟩;rw[hv.int_inv];exact .int _ _
 | .nilp,v,st,st1,a,h,hs,hv=>by
  cases v<;>simp only[Lb]at h<;>try(cases h;done)
  cases h
  cases hv;exact⟨[],V2,λrest=>⟨.nilp,ZE, .nilp⟩⟩
 | .nils,v,st,st1,a,h,hs,hv=>by
  cases v<;>simp only[Lb]at h<;>try(cases h;done)
  cases h
  cases hv;exact⟨[],V2,λrest=>⟨.nils,ZE, .nils⟩⟩
 | .nilf,v,st,st1,a,h,hs,hv=>by
  cases v<;>simp only[Lb]at h<;>try(cases h;done)
  cases h
  cases hv;exact⟨[],V2,λrest=>⟨.nilf,ZE, .nilf⟩⟩
 | .ptr j o,v,st,st1,a,h,hs,hv=>by
  cases v<;>simp only[Lb]at h<;>try(cases h;done)
  rename_i k o';cases hk:aB o o' with
  |false=>rw[hk]at h;cases h
  |true=>
   rw[hk,zC]at h;have:=bB hk;subst this;have⟨h1,h2,h3,h4⟩:=B8 h;have⟨h5,h6⟩:=hT.lk _ _<|h1.sub hs;refine⟨[],by simp[h2],λrest=>⟨.ptr (f j) o,ZE, ?_⟩⟩;cases hv with
   |ptr hk ho hd=>
    refine .ptr h5 ho λd' hd'=> ?_
    grind
 | .full j,v,st,st1,a,h,hs,hv=>by
  simp only[Lb]at h;split at h
  .obtain⟨h1,h2,h3,h4⟩:=B8 h;exact⟨[],by simp[h2],λrest=>⟨.full<|f j,ZE,am5 hT (h1.sub hs) hv⟩⟩
  .obtain⟨h1,h2,h3,h4⟩:=B8 h;exact⟨[],by simp[h2],λrest=>⟨.full<|f j,ZE,ay4 hT (h1.sub hs) hv⟩⟩
  .obtain⟨h1,h2,h3,h4⟩:=B8 h;cases hv;exact⟨[],by simp[h2],λrest=>⟨.full<|f j,ZE,aD5 hT<|h1.sub hs⟩⟩
  .cases h
 | .pin s o,v,st,st1,a,h,hs,hv=>by
  cases v<;>simp only[Lb]at h<;>try(cases h;done)
  rename_i s' x o';cases hk:aB o o' with
  |false=>rw[hk]at h;cases h
  |true=>
   rw[hk,zC]at h;have:=bB hk;subst this;have⟨y,h1,h2⟩:=ai h;have⟨ee,h3⟩:=lV h1;cases ee;subst h3;cases h2
   refine⟨[⟨s,y⟩],rfl,λrest=>⟨.pin s y o, ?_, ?_⟩⟩
   .simp only[bD,enc,lU,zG]
   .cases hv with
    |pin hn hy hl hf=>exact .pin (hT.nm _ _ hy hn) (by rw[hT.Z];exact hy) hl (sy hT.toStill _ _ _ hf)
 | .fn g p q,v,st,st1,a,h,hs,hv=>by
  cases v<;>simp only[Lb]at h<;>try(cases h;done)
  rename_i g' p' q';cases hk:aB g g' with
  |false=>rw[hk]at h;cases h
  |true=>
   rw[hk,zC]at h;have:=bB hk;subst this;have⟨st2,h1,h2⟩:=ai h;cases hv with
   |fn f1 f2=>
    have⟨new1,e1,e2⟩:=ye hR hT p p' st st2 _ h1 ((vA q q' st2 st1 h2).trans hs) f1;have⟨new2,e3,e4⟩:=ye hR hT q q' st2 st1 _ h2 hs f2;refine⟨new1++new2,by rw[e3,e1,aD],λrest=> ?_⟩;have⟨v1,e5,e6⟩:=e2<|new2++rest;have⟨v2,e7,e8⟩:=e4 rest;exact⟨.fn g v1 v2,by simp only[enc,aD,e5,zG,e7], .fn e6 e8⟩
 | .agg l,v,st,st1,a,h,hs,hv=>by
  cases v<;>simp only[Lb]at h<;>try(cases h;done)
  cases hv with
  |agg f1=>
   have⟨new1,e1,e2⟩:=ye hR hT l _ st st1 _ h hs f1;refine⟨new1,e1,λrest=> ?_⟩;have⟨v1,e5,e6⟩:=e2 rest;exact⟨.agg v1,by simp only[enc,e5,zG], .agg e6⟩
 | .tup l,v,st,st1,a,h,hs,hv=>by
  cases v<;>simp only[Lb]at h<;>try(cases h;done)
  cases hv with
  |tup f1=>
   have⟨new1,e1,e2⟩:=ye hR hT l _ st st1 _ h hs f1;refine⟨new1,e1,λrest=> ?_⟩;have⟨v1,e5,e6⟩:=e2 rest;exact⟨.tup v1,by simp only[enc,e5,zG], .tup e6⟩
theorem ye {N:Nat}{f:Nat->Nat}{stf:DSt}(hR:Rel c)(hT:Tell c ct N f stf): ∀(l:List Sk) (vs:List VV) (st st1:DSt) (as:List Value),IK c.S N l vs st=O st1->Sub st1 stf->F2 (VRel c) vs as->
  ∃new,st1.ls=st.ls++new/\∀rest,∃vs',QJ f l (new++rest)=O (vs',rest)/\F2 (VRel ct) vs' as
 |[],vs,st,st1,as,h,hs,hf=>by
  cases vs<;>simp only[IK]at h<;>try(cases h;done)
  cases h
  cases hf;exact⟨[],V2,λrest=>⟨[],by simp[QJ], .nil⟩⟩
 |k::r,vs,st,st1,as,h,hs,hf=>by
  cases hf with
  |nil=>simp only[IK]at h;cases h
  |cons f1 f2=>
   simp only[IK]at h;have⟨st2,h1,h2⟩:=ai h;have⟨new1,e1,e2⟩:=aP0 hR hT k _ st st2 _ h1 ((vA r _ st2 st1 h2).trans hs) f1;have⟨new2,e3,e4⟩:=ye hR hT r _ st2 st1 _ h2 hs f2;refine⟨new1++new2,by rw[e3,e1,aD],λrest=> ?_⟩;have⟨v1,e5,e6⟩:=e2<|new2++rest;have⟨v2,e7,e8⟩:=e4 rest;exact⟨v1::v2,by simp only[QJ,aD,e5,zG,e7], .cons e6 e8⟩
end
def w6 (c ct:Ctx)(o:OSk)(x:Option Src)(blk:Blk):Prop:=
 (o= .dead/\blk= .dead)∨(blk.frozen=o.ro/\match x with
  |none=>o.ro=Zb/\∃s,blk= .arr s Zb []
  |some ⟨k,e⟩=>(o.ro=Zb->(ag c.S k).frozen=Zb)/\∃d,(ag c.S k).dim=O d/\(match e with
   |none=>blk.dim=O d
   |some n=>blk.dim=O (d.1,min (n*d.1) d.2))/\∀f,F2 (VRel c) (ag c.S k).vals f->F2 (VRel ct) blk.vals (f.take<|ft blk.vals))
def JQ {S:ak}{f:DSt}(h:XT S N o x st=O f):Sub st f:=by
 unfold XT at h;split at h
 .injection h with h;subst h;exact Sub.refl _
 .split at h
  .rename_i r d l k _ g t u v;cases e:(aB r g&&(d|| !t))with
   |false=>rw[e]at h;cases h
   |true=>
    rw[e,zC]at h;have n:=vA _ _ _ _ h;cases d with
    |false=>exact n
    |true=>exact Sub.trans ⟨⟨[],V2⟩,λ_ h=>cB _ h⟩ n
  cases h
 .rename_i d s;cases d with
  |true=>cases h
  |false=>cases h;exact⟨⟨[],ZC⟩,λ_ h=>h⟩
 .rename_i d s k q;cases e:(d|| !(ag S k).frozen)with
  |false=>rw[e]at h;cases h
  |true=>
   rw[e,zC]at h;have⟨l,n,p⟩:=ai h;cases p
   cases d with
   |false=>exact⟨⟨[],ZC⟩,λ_ h=>h⟩
   |true=>exact⟨⟨[],ZC⟩,λ_ h=>cB _ h⟩
 cases h
theorem Vk {f:Nat->Nat}(F:Rel c)(T:Tell c ct N f stf){q:DSt}(h:XT c.S N o x st=O q)(Z:Sub q stf):
  ∃p,q.ls=st.ls++p/\∀rest,∃blk,QK f o (p++rest)=O (blk,rest)/\w6 c ct o x blk:=by
 unfold XT at h;split at h
 .injection h with h;subst h
  exact⟨[],V2,λrest=>⟨.dead,by simp[QK], .inl ⟨rfl,rfl⟩⟩⟩
 .split at h
  .rename_i E ro l k _ M fz r H;cases u:(aB E M&&(ro|| !fz))with
   |false=>rw[u]at h;cases h
   |true=>
    rw[u,zC]at h;rw[cD]at u;have he:=bB u.1;subst he;have z:(ag c.S k).dim=O (E,r.length):=by rw[H];rfl
    obtain⟨h0,C⟩:=F.blk k _ z
    have I: ∃as,F2 (VRel c) r as:=by
     rcases C with⟨K,V⟩|⟨b,y,as,rest,_,_,_,_,_,A⟩
     .have:r=[]:=dl.1 K;subst this;exact⟨[], .nil⟩
     .rw[H]at A;exact⟨as,A⟩
    obtain⟨as,I⟩:=I;obtain⟨p,K,V⟩:=ye F T l r _ q as h Z I;refine⟨p, ?_,λrest=> ?_⟩
    .rw[K];cases ro<;>rfl
    .obtain⟨vs,A,e4⟩:=V rest;refine⟨.cells E ro vs,by simp only[QK,A,zG], .inr ⟨rfl,λg=> ?_,(E,r.length),z, ?_,λJ v=> ?_⟩⟩
     .simp only[OSk.ro]at g;subst g;rw[H];have:=u.2;simp only[Bool.false_or,Bool.not_eq_true']at this;exact this
     .simp only[Blk.dim];rw[e4.length,I.length]
     .rw[H]at v;obtain⟨D,e1',L⟩:=ye F T l r _ q J h Z v
      have:D=p:=by
       simp_all
      subst this;obtain⟨vs',e,B⟩:=L rest;rw[A]at e;injection e with e
      injection e with e _
      subst e;rw[cL (by rw[<-B.length];exact Nat.le_refl _)];exact B
  .cases h
 .rename_i ro s;cases ro with
  |true=>cases h
  |false=>
   injection h with h;subst h
   refine⟨[⟨.list s,[]⟩],rfl,λrest=>⟨.arr s Zb [], ?_, .inr ⟨rfl,rfl,s,rfl⟩⟩⟩;simp only[bD,QK,lU,zG]
 .rename_i ro s k t;cases u:(ro|| !(ag c.S k).frozen)with
  |false=>rw[u]at h;cases h
  |true=>
   rw[u,zC]at h;obtain⟨l,h1,P⟩:=ai h;injection P with P;subst P
   obtain⟨d,h3,W,X,h6⟩:=tE (ku F s) h1;refine⟨[⟨.list s,OA t l⟩],by cases ro<;>rfl,λrest=>⟨.arr s ro<|OA t l, ?_, .inr ⟨rfl,λg=> ?_,d,h3, ?_,λr U=> ?_⟩⟩⟩
   .simp only[bD,QK,lU,zG]
   .simp only[OSk.ro]at g;subst g;simpa using u
   .cases t with
    |none=>
     simp only[Blk.dim,OA];rw[<-X,<-W]
    |some n=>
     simp only[Blk.dim,OA,cK];rw[X,W,<-Nat.mul_min_mul_right]
   .have Q:=Ml T.toStill<|h6 r U;have h8:r.length=l.length*s.w:=by rw[<-Q.length,gP]
    cases t with
    |none=>
     simp only[Blk.vals,OA];rw[cL (by rw[gP];omega)];exact Q
    |some n=>
     simp only[Blk.vals,OA];have h9:((fZ s<|l.take n).length)=min (n*s.w) r.length:=by rw[kR,cK,gP,h8]
     rw[h9,kR,<-List.take_take,List.take_length];exact Q.take (n*s.w)
 .cases h
def IJ {S:ak}{N:Nat}: ∀{os:List OSk} {js:List Nat} {st d:DSt},Lc S N os js st=O d->Sub st d
 |[],[],st,d,h=>by cases h;exact Sub.refl _
 |[],_::_,st,d,h=>by cases h
 |_::_,[],st,d,h=>by cases h
 |o::os,j::js,st,d,h=>by
  simp only[Lc]at h;have⟨g,e,f⟩:=ai h;exact(JQ e).trans<|IJ f
def qC {S:ak}{N:Nat}: ∀{os:List OSk} {i:Nat} {st d:DSt},vz S N os i st=O d->Sub st d
 |[],i,st,d,h=>by
  simp only[vz]at h;cases e:aB i (ft st.m) with
  |false=>rw[e]at h;cases h
  |true=>rw[e]at h;cases h;exact Sub.refl _
 |o::os,i,st,d,h=>by
  simp only[vz]at h;split at h
  .obtain⟨n,f,g⟩:=ai h;exact(JQ f).trans (qC g)
  .cases h
inductive BY (c ct:Ctx):List OSk->List Nat->List Blk->Prop where
 |nil:BY c ct [] [] []
 |cons {o:OSk} {j:Nat} {b:Blk} {os:List OSk} {js:List Nat} {bs:List Blk}:w6 c ct o (O ⟨j,Y⟩) b->BY c ct os js bs->BY c ct (o::os) (j::js) (b::bs)
inductive xP (c ct:Ctx):List OSk->List (Option Src)->List Blk->Prop where
 |nil:xP c ct [] [] []
 |cons {o:OSk} {x:Option Src} {b:Blk} {os:List OSk} {xs:List<|Option Src} {bs:List Blk}:w6 c ct o x b->xP c ct os xs bs->xP c ct (o::os) (x::xs) (b::bs)
def OC {N:Nat}{f:Nat->Nat}{stf:DSt}(r:Rel c)(t:Tell c ct N f stf): ∀{os:List OSk} {js:List Nat} {st d:DSt},Lc c.S N os js st=O d->Sub d stf->
  ∃n,d.ls=st.ls++n/\∀rest,∃bs,Fe f os (n++rest)=O (bs,rest)/\BY c ct os js bs
 |[],[],st,d,h,g=>by cases h;exact⟨[],V2,λrest=>⟨[],by simp[Fe], .nil⟩⟩
 |[],_::_,st,d,h,g=>by cases h
 |_::_,[],st,d,h,g=>by cases h
 |o::os,j::js,st,d,h,g=>by
  simp only[Lc]at h;have⟨E,D,q⟩:=ai h;have⟨p,u,v⟩:=Vk r t D<|(IJ q).trans g;have⟨e,w,y⟩:=OC r t q g;refine⟨p++e,by rw[w,u,aD],λrest=> ?_⟩;have⟨F,z,A⟩:=v<|e++rest;have⟨H,B,C⟩:=y rest;exact⟨F::H,by simp only[Fe,aD,z,zG,B], .cons A C⟩
def Mg {N:Nat}{f:Nat->Nat}{stf:DSt}(w:Rel c)(y:Tell c ct N f stf): ∀{os:List OSk} {i:Nat} {st d:DSt},vz c.S N os i st=O d->Sub d stf->
  ∃n,d.ls=st.ls++n/\i+ft os=ft d.m/\∀rest,∃bs,Fe f os (n++rest)=O (bs,rest)/\xP c ct os (d.m.drop i) bs
 |[],i,st,d,h,u=>by
  simp only[vz]at h;cases t:aB i (ft st.m) with
  |false=>rw[t]at h;cases h
  |true=>
   rw[t]at h;cases h
   have:=bB t;subst this;exact⟨[],V2,V2,λrest=>⟨[],by simp[Fe],by rw[List.drop_length];exact .nil⟩⟩
 |o::os,i,st,d,h,u=>by
  simp only[vz]at h;split at h
  .rename_i x J;have⟨K,v,r⟩:=ai h;have⟨p,A,B⟩:=Vk w y v<|(qC r).trans u;have⟨g,C,q,D⟩:=Mg w y r u;refine⟨p++g,by rw[C,A,aD],by rw[<-q];simp;omega,λrest=> ?_⟩;have⟨P,E,F⟩:=B<|g++rest;have⟨Q,H,I⟩:=D rest;refine⟨P::Q,by simp only[Fe,aD,E,zG,H], ?_⟩;have⟨T,L⟩:=(JQ v).m;have⟨U,M⟩:=(qC r).m
   have e:d.m[i]?=O x:=by
    rw[<-Bt,M,L];exact Kb (Kb J)
   have z:i<ft d.m:=by
    omega
   rw[List.drop_eq_getElem_cons z];rw[List.getElem?_eq_getElem z]at e;injection e with e
   rw[e];exact .cons F I
  .cases h
theorem Lf {f:Nat->Nat}(g:Rel c)(n:Tell c ct N f st)(h:nk c.S N fx sk vals=O st)(J:F2 (VRel c) vals as):
  ∃vs fs bs,mB f sk st.ls=O (vs,fs,bs)/\F2 (VRel ct) vs as/\BY c ct sk.fix fx fs/\xP c ct sk.free st.m bs:=by
 unfold nk at h;obtain⟨L,I,h⟩:=ai h;obtain⟨M,u,h⟩:=ai h;obtain⟨d,e,h⟩:=ai h
 have:d=st:=by
  grind
 subst this;have⟨K,w,A⟩:=ye g n _ _ _ _ _ I ((IJ u).trans<|qC e) J;have⟨v,y,B⟩:=OC g n u<|qC e;have⟨q,z,P,C⟩:=Mg g n e<|Sub.refl _;have⟨vs,D,E⟩:=A<|v++q;have⟨fs,F,H⟩:=B q;have⟨bs,r,t⟩:=C [];refine⟨vs,fs,bs, ?_,E,H,by rw[List.drop_zero]at t;exact t⟩;have p:d.ls=K++(v++q):=by rw[z,y,w];simp
 rw[List.append_nil]at r;simp only[mB,p,D,zG,F,r]
theorem qD {S:ak}(h:nk S N fx sk vals=O st):U2 (fx++tN st.m)=Za/\Tx (fx++lD sk.free st.m) st.lent=Za:=by
 unfold nk at h;obtain⟨d,g,h⟩:=ai h;obtain⟨e,n,h⟩:=ai h;obtain⟨f,p,h⟩:=ai h
 grind
def Cb : ∀{f:List Sh} {ls:List Leaf} {t:BF f},UB f ls=O t->Nt f t=ls
 |[],ls,t,h=>by
  cases ls with
  |nil=>rfl
  |cons=>simp[UB]at h
 |[s],ls,t,h=>by
  cases ls with
  |nil=>simp[UB]at h
  |cons x ls=>
   cases ls with
   |nil=>
    simp only[UB]at h;have⟨d,e⟩:=lV h;have⟨p,v⟩:=x;simp only at d;subst d;subst e;rfl
   |cons=>simp[UB]at h
 |s::p::r,ls,t,h=>by
  cases ls with
  |nil=>simp[UB]at h
  |cons x ls=>
   simp only[UB]at h;obtain⟨a,e,h⟩:=ai h;obtain⟨b,g,h⟩:=ai h;cases h;have⟨d,n⟩:=lV e;have⟨q,v⟩:=x;simp only at d;subst d;subst n;simp only[Nt];rw[Cb g]
end
end
section
open List renaming getElem?_eq_getElem->aB,replicate->aD,all_eq_true->bB,mem_cons_self->bD,nodup_cons->cB
open Nat renaming le_add_right->cD,lt_of_lt_of_le->cK
def DE (c:Ctx):Option Src->Option Nat
 |none=>Y
 |some x=>c.μ x.k
theorem BY.get : ∀{os:List OSk} {js:List Nat} {bs:List Blk},BY c ct os js bs->ft js=ft bs/\ft os=ft bs/\∀(i j:Nat) (b:Blk),js[i]?=O j->bs[i]?=O b->∃o,os[i]?=O o/\w6 c ct o (O ⟨j,Y⟩) b
 |_,_,_, .nil=>⟨rfl,rfl,λi j b h=>by simp at h⟩
 |_,_,_, .cons n d=>by
  have⟨e,f,g⟩:=d.get
  grind
theorem xP.get : ∀{os:List OSk} {xs:List<|Option Src} {bs:List Blk},xP c ct os xs bs->ft xs=ft bs/\ft os=ft bs/\∀(i:Nat) (x:Option Src) (b:Blk),xs[i]?=O x->bs[i]?=O b->∃o,os[i]?=O o/\w6 c ct o x b
 |_,_,_, .nil=>⟨rfl,rfl,λi j b h=>by simp at h⟩
 |_,_,_, .cons n d=>by
  have⟨e,f,g⟩:=d.get
  grind
theorem w6.blkRel (T:Rel c)(U:ct.Z=c.Z){p:Nat}(h:w6 c ct o x b)(B:ag ct.S p=b)(H:b.dim≠Y->ct.μ p=DE c x):Ny ct p:=by
 intro t e;rw[B]at e;have f:ct.μ p=DE c x:=H (by rw[e];simp);clear H;rcases h with⟨_,h⟩|⟨K,C⟩
 .subst h;cases e
 cases x with
 |none=>
  have⟨_,s,A⟩:=C;subst A;cases e;exact⟨nA s, .inl ⟨V2,by simpa[DE]using f⟩⟩
 |some x=>
  have⟨k,J⟩:=x;have⟨A,d,L,V,M⟩:=C;simp only[DE]at f;have⟨P,Q⟩:=T.blk k d L
  have n:t.1=d.1/\t.2<=d.2:=by
   grind
  refine⟨by rw[n.1];exact P, ?_⟩;rcases Q with⟨D,g⟩|⟨I,y,r,q,D,g,u,v,w,z⟩
  .exact .inl ⟨V1,f.trans g⟩
  have E:ft b.vals=t.2:=Et e;refine .inr ⟨I,y,r.take<|ft b.vals,r.drop (ft b.vals)++q,f.trans D,by rw[U];exact g,by rw[n.1];exact u,λF=> ?_,by rw[<-List.append_assoc,List.take_append_drop];exact w, ?_⟩
  .rw[B,K]at F;exact v (A F)
  rw[B];exact M r z
theorem aa2 (f:Nat->Nat): ∀n,∃K,∀j,j<n->f j<K
 |0=>⟨0,λj h=>by omega⟩
 |n+1=>by
  have⟨K,h⟩:=aa2 f n;refine⟨max K<|f n+1,λj d=> ?_⟩
  grind
def GZ {n:Nat}:ag (aD n Blk.dead) k= .dead:=by
 induction n generalizing k with
 |zero=>rfl
 |succ n d=>
  cases k with
  |zero=>rfl
  |succ k=>exact d
theorem Rd {f:Nat->Nat}(t:Rel c)(h:nk c.S N fx sk vals=O st)(v:F2 (VRel c) vals as):
  ∃e vs fs bs,mB f sk st.ls=O (vs,fs,bs)/\BY c e sk.fix fx fs/\xP c e sk.free st.m bs:=by
 have⟨K,r⟩:=aa2 f (N+ft st.m)
 have u:Tell c ⟨λ_=>Y,aD K .dead,c.Z,λ_=>False⟩ N f st:=by
  have n: ∀b,¬(⟨λ_=>Y,aD K .dead,c.Z,λ_=>False⟩:Ctx).mut b:=by
   rintro b (⟨k,d,_⟩|h)
   .simp only[GZ]at d;cases d
   .exact h
  refine⟨⟨rfl,λb _ _ _=>n b⟩,λj x w=>⟨?_,λy g=> ?_⟩,λk _ _ b _=>n b⟩
  .simp only[List.length_replicate];refine r j ?_;rcases w with⟨d,_⟩|⟨d,p⟩
   .omega
   .rw[Bt]at p
    grind
  .simp only[GZ]at g;cases g
 have⟨vs,fs,bs,d,_,p,q⟩:=Lf t u h v;exact⟨_,vs,fs,bs,d,p,q⟩
theorem kT :lB k l=Za↔k∈l:=by
 induction l with
 |nil=>simp[lB]
 |cons a l d=>
  simp only[lB,List.mem_cons];cases h:Nat.beq a k with
  |true=>
   simp_all
  |false=>
   have:a≠k:=by rintro rfl;rw[Nat.beq_refl]at h;cases h
   grind
def qB :U2 l=Za->l.Nodup:=by
 induction l with
 |nil=>intro _;exact List.nodup_nil
 |cons a l f=>
  intro h;simp only[U2]at h;cases d:lB a l with
  |true=>rw[d]at h;cases h
  |false=>
   rw[d]at h;refine List.nodup_cons.2 ⟨λe=> ?_,f h⟩;rw[kT.2 e]at d;cases d
def OS {w:List Nat}(h:Tx w l=Za)(e:k∈w):k∉l:=by
 intro d;simp only[Tx,bB]at h;have:=h k e;rw[kT.2 d]at this;cases this
def Bo {x:Src}(h:m[i]?=O (O x)):x.k∈tN m:=by
 induction m generalizing i with
 |nil=>simp at h
 |cons a m d=>
  cases i with
  |zero=>
   simp at h;subst h;exact bD
  |succ i=>
   simp at h;have:=d h;cases a with
   |none=>exact this
   |some a=>exact List.mem_cons_of_mem _ this
def J1 (d:(tN m).Nodup){x y:Src}(h:m[i]?=O (O x))(f:m[j]?=O (O y))(e:x.k=y.k):i=j:=by
 induction m generalizing i j with
 |nil=>simp at h
 |cons a m p=>
  cases i with
  |zero=>
   simp at h;subst h;cases j with
   |zero=>rfl
   |succ j=>
    simp at f;have g:=Bo f;simp only[tN,cB]at d;rw[e]at d;exact(d.1 g).elim
  |succ i=>
   simp at h;cases j with
   |zero=>
    simp at f;subst f;have g:=Bo h;simp only[tN,cB]at d;rw[<-e]at d;exact(d.1 g).elim
   |succ j=>
    simp at f
    have n:(tN m).Nodup:=by
     cases a with
     |none=>exact d
     |some a=>exact(List.nodup_cons.1 d).2
    rw[p n h f]
theorem KI {os:List OSk}{x:Src}(h:m[i]?=O (O x))(d:os[i]?=O o)(e:o.ro=Zb):x.k∈lD os m:=by
 induction m generalizing os i with
 |nil=>simp at h
 |cons a m f=>
  cases os with
  |nil=>simp at d
  |cons g os=>
   cases i with
   |zero=>
    simp at h d;subst h;subst d;simp only[lD,e,zD];exact bD
   |succ i=>
    simp at h d;have:=f h d;cases a with
    |none=>exact this
    |some a=>
     simp only[lD]
     grind
def bn1 (h:b.may=Za)(e:b.dim≠Y)(d:b.frozen=Za):False:=by
 cases b with
 |dead=>exact e rfl
 |cells f z l=>simp only[Blk.may,Blk.frozen]at h d;rw[d]at h;cases h
 |arr s z l=>simp only[Blk.may,Blk.frozen]at h d;rw[d]at h;cases h
def ab9 (h:sk.noRo=Za):sk.fxRo=Za:=by
 unfold rp.noRo at h;rw[Bool.and_eq_true]at h;exact h.1
structure GT (c c' ct:Ctx)(N:Nat)(f:Nat->Nat)(fx:List Nat)(sk:rp)(st:DSt)(fs bs:List Blk):Prop where
 Z:ct.Z=c'.Z
 fb:ct.fb=c.fb
 len:ft ct.S=ft c.S+ft bs
 oth: ∀k,k<ft c.S->(∀j,j∈fx->f j≠k)->ag ct.S k=ag c.S k∨ag ct.S k=(ag c.S k).freeze∨(ag ct.S k= .dead/\(ag c.S k).frozen=Zb)
 fix: ∀(i j:Nat) (b:Blk),fx[i]?=O j->fs[i]?=O b->ag ct.S (f j)=b
 fixlt: ∀j,j∈fx->f j<ft c.S
 free: ∀(i:Nat) (b:Blk),bs[i]?=O b->ag ct.S (ft c.S+i)=b
 fN: ∀i,f (N+i)=ft c.S+i
 μo: ∀k,k<ft c.S->ct.μ k=c.μ k
 μn: ∀(i:Nat) (x:Option Src),st.m[i]?=O x->ct.μ (ft c.S+i)=DE c' x
 un: ∀b y,c.Z.m b=O y->¬c.own b->c'.Z.m b=O y
 ow: ∀b y,c.Z.m b=O y->¬c.own b->¬c'.own b
 n:c.Z.n<=c'.Z.n
 oun: ∀k,k<ft c.S->(∀j,j∈fx->f j≠k)->(ag ct.S k).dim≠Y->∀b y,c.μ k=O b->c.Z.m b=O y->c'.Z.m b=O y
 odis: ∀k,k<ft c.S->(∀j,j∈fx->f j≠k)->(ag ct.S k).dim≠Y->∀s,(s∈fx∨s∈tN st.m)->(ag c'.S s).frozen=Zb->∀b,c'.μ s=O b->c.μ k≠O b
 wr: ∀j,j∈fx->(ag c'.S j).dim≠Y->(ag c.S<|f j).dim=(ag c'.S j).dim/\c'.μ j=c.μ (f j)/\∀b y,c.μ (f j)=O b->c.Z.m b=O y->∃y',c'.Z.m b=O y'/\ft y'.cells=ft y.cells
 wrz: ∀j,j∈fx->(ag c.S<|f j).may=Za
 finj: ∀j j',j∈fx->j'∈fx->f j=f j'->j=j'
 fbk: ∀k b,(ag c'.S k).dim≠Y->c'.μ k=O b->¬c.fb b
 lk: ∀j,j<N->j∉fx->Lk c' ct (O ⟨j,Y⟩) (f j)
 onm: ∀k,k<ft c.S->(∀j,j∈fx->f j≠k)->(ag ct.S k).frozen=Zb->∀b y,c.μ k=O b->c'.Z.m b=O y->c'.mut b
 olent: ∀k,k<ft c.S->(∀j,j∈fx->f j≠k)->(ag ct.S k).frozen=Zb->∀s,s∈st.lent->(ag c'.S s).dim≠Y->∀b,c'.μ s=O b->c.μ k≠O b
 fbm: ∀b,c.fb b->c'.mut b
 fxN: ∀j,j∈fx->j<N
 noro:sk.fxRo=Za
 roz:sk.noRo=Za∨∀k,k<ft c.S->(∀j,j∈fx->f j≠k)->(ag ct.S k).dim≠Y->(ag ct.S k).frozen=Za
theorem GT.all {f:Nat->Nat}(g:GT c c' ct N f fx sk st fs bs)(hR:Rel c)(I:Rel c')(hd:nk c'.S N fx sk vals=O st)
  (he:mB f sk st.ls=O (vs,fs,bs)) (hf:F2 (VRel c') vals as):Le c ct/\Rel ct/\F2 (VRel ct) vs as:=by
 have⟨ct0,vs0,fs0,bs0,p1,p2,p3⟩:=Rd (f:=f) I hd hf;rw[he]at p1;injection p1 with p1
 injection p1 with K p1
 injection p1 with L W
 subst K;subst L;subst W;have⟨ap1,ap2⟩:=qD hd;have hnd:=qB ap1;rw[List.nodup_append]at hnd;have⟨nd1,nd2,nd3⟩:=hnd;have⟨x1,x2,x3⟩:=p2.get;have⟨y1,y2,y3⟩:=p3.get;have hro:=g.noro;unfold rp.fxRo at hro;rw[bB]at hro
 have nro: ∀(i:Nat) (o:OSk),sk.fix[i]?=O o->o.ro=Zb:=by
  grind
 have nro2: ∀(i:Nat) (o:OSk),sk.noRo=Za->sk.free[i]?=O o->o.ro=Zb:=by
  intro i o T h;unfold rp.noRo at T
  grind
 have U: ∀j,j∈fx->∃(i:Nat) (b:Blk) (o:OSk),fx[i]?=O j/\fs[i]?=O b/\sk.fix[i]?=O o/\ag ct.S (f j)=b/\w6 c' ct0 o (O ⟨j,Y⟩) b:=by
  intro j v;have⟨i,C,e⟩:=List.mem_iff_getElem.1 v;have h1:fx[i]?=O j:=by rw[aB C,e]
  have q:i<ft fs:=by rw[<-x1];exact C
  have⟨o,r,t⟩:=x3 i j _ h1<|aB q;exact⟨i,fs[i],o,h1,aB q,r,g.fix i j _ h1<|aB q,t⟩
 have B: ∀i,i<ft bs->∃(b:Blk) (x:Option Src) (o:OSk),st.m[i]?=O x/\bs[i]?=O b/\sk.free[i]?=O o/\ag ct.S (ft c.S+i)=b/\ct.μ (ft c.S+i)=DE c' x/\w6 c' ct0 o x b:=by
  intro i C;have q:i<ft st.m:=by rw[y1];exact C
  have⟨o,r,t⟩:=y3 i _ _ (aB q)<|aB C;exact⟨bs[i],st.m[i],o,aB q,aB C,r,g.free i _<|aB C,g.μn i _<|aB q,t⟩
 have D: ∀k,(ag ct.S k).dim≠Y->(∃j,j∈fx/\f j=k)∨(k<ft c.S/\(∀j,j∈fx->f j≠k))∨(∃i,i<ft bs/\k=ft c.S+i):=by
  intro k z;have hl:=ll z;rw[g.len]at hl;by_cases h1:k<ft c.S
  .by_cases q: ∃j,j∈fx/\f j=k
   .exact .inl q
   grind
  .exact .inr (.inr ⟨k-ft c.S,V1,V1⟩)
 have F: ∀j,j∈fx->∀d,(ag ct.S<|f j).dim=O d->(ag c'.S j).dim=O d/\(ag c'.S j).frozen=Zb/\(ag c.S<|f j).dim=O d/\c'.μ j=c.μ (f j):=by
  intro j v d p;have⟨i,b,o,h1,q,r,t,w⟩:=U j v;rw[t]at p;rcases w with⟨_,w⟩|⟨w,P,d0,h7,h8,h9⟩
  .subst w;cases p
  .simp only at h8;rw[h8]at p;cases p;have⟨w1,w2,_⟩:=g.wr j v (by rw[h7];simp)
   grind
 have found: ∀i,i<ft bs->∀d,(ag ct.S<|ft c.S+i).dim=O d->(∃x,st.m[i]?=O (O x)/\((ag ct.S<|ft c.S+i).frozen=Zb∨sk.noRo=Za->(ag c'.S x.k).frozen=Zb)/\(ag c'.S x.k).dim≠Y/\ct.μ (ft c.S+i)=c'.μ x.k)∨ct.μ (ft c.S+i)=Y:=by
  intro i C d p;have⟨b,x,o,h1,q,r,t,w,P⟩:=B i C;rw[t]at p;rcases P with⟨_,P⟩|⟨P,h7⟩
  .subst P;cases p
  .cases x with
   |none=>exact .inr w
   |some x=>
    have⟨k,cut⟩:=x;obtain⟨h7,d2,h8,_⟩:=h7;refine .inl ⟨_,h1,λhz=>h7 ?_,by rw[h8];simp,w⟩
    grind
 have A: ∀k b,(ag ct.S k).dim≠Y->ct.μ k=O b->(k<ft c.S/\(∀j,j∈fx->f j≠k)/\c.μ k=O b)∨
   ∃s,(s∈fx∨s∈tN st.m)/\((ag ct.S k).frozen=Zb∨sk.noRo=Za->(ag c'.S s).frozen=Zb)/\(ag c'.S s).dim≠Y/\c'.μ s=O b/\((s∈fx/\k=f s)∨∃i x,st.m[i]?=O (O x)/\x.k=s/\k=ft c.S+i):=by
  intro k b z H;cases Q:(ag ct.S k).dim with
  |none=>exact(z Q).elim
  |some d=>
   rcases D k z with⟨j,v,rfl⟩|⟨h1,q⟩|⟨i,C,rfl⟩
   .obtain⟨h1,q,r,t⟩:=F j v d Q;exact .inr ⟨j, .inl v,λ_=>q,by rw[h1];simp,by rw[t,<-g.μo _ (g.fixlt j v)];exact H, .inl ⟨v,rfl⟩⟩
   .exact .inl ⟨h1,q,by rw[<-g.μo k h1];exact H⟩
   .rcases found i C d Q with⟨x,h1,q,h2',r⟩|h1
    .exact .inr ⟨x.k, .inr<|Bo h1,q,h2',by rw[<-r];exact H, .inr ⟨i,x,h1,rfl,rfl⟩⟩
    .rw[h1]at H;cases H
 have u: ∀k,k<ft c.S->(∀j,j∈fx->f j≠k)->(ag ct.S k).dim≠Y->(ag ct.S k=ag c.S k∨ag ct.S k=(ag c.S k).freeze):=by
  intro k h1 q r;rcases g.oth k h1 q with h|h|⟨h,_⟩
  .exact .inl h
  .exact .inr h
  .rw[h]at r;exact(r rfl).elim
 have V: ∀k,k<ft c.S->(∀j,j∈fx->f j≠k)->(ag ct.S k).frozen=Zb->ag ct.S k=ag c.S k:=by
  intro k h1 q r;rcases u k h1 q (mv r)with h|h
  .exact h
  .rw[h,kB]at r;cases r
 have hle:Le c ct:=by
  refine⟨by rw[g.len];exact cD _ _,λk d z p=>⟨?_,g.μo k z⟩,λk hz E=> ?_,λk d b y z p H hy=> ?_,λb y hy T=>by rw[g.Z];exact g.un b y hy T,λb y hy T=> ?_,by rw[g.Z];exact g.n,g.fb⟩
  .rcases D k ek with⟨j,v,rfl⟩|⟨h1,q⟩|⟨i,C,rfl⟩
   .exact(F j v d p).2.2.1
   .rcases u k h1 q ek with h|h
    .rw[<-h];exact p
    .rw[h,gf]at p;exact p
   .omega
  .have z:=ll E;by_cases q: ∃j,j∈fx/\f j=k
   .obtain⟨j,v,rfl⟩:=q;exact(bn1 (g.wrz j v) E hz).elim
   .rcases g.oth k z (λj v e=>q ⟨j,v,e⟩)with h|h|⟨_,h⟩
    .exact h
    .rw[h,Dr hz]
    .rw[h]at hz;cases hz
  .rw[g.Z];rcases D k ek with⟨j,v,rfl⟩|⟨h1,q⟩|⟨i,C,rfl⟩
   .obtain⟨h1,q,r,t⟩:=F j v d p;exact(g.wr j v (by rw[h1];simp)).2.2 b y H hy
   .exact⟨y,g.oun k h1 q ek b y H hy,rfl⟩
   .omega
  .rintro⟨k,h1,q⟩;rcases A k b (mv h1) q with⟨r,t,w⟩|⟨s,r,t,_,w,_⟩
   .exact T ⟨k,by rw[<-V k r t h1];exact h1,w⟩
   .exact g.ow b y hy T ⟨s,t<|.inl h1,w⟩
 have hT:Tell c' ct N f st:=by
  have hsp: ∀k b,(ag ct.S k).frozen=Zb->ct.μ k=O b->(k<ft c.S/\(∀j,j∈fx->f j≠k)/\c.μ k=O b)∨∃s,(s∈fx∨s∈lD sk.free st.m)/\(ag c'.S s).frozen=Zb/\c'.μ s=O b:=by
   intro k b h1 q;rcases A k b (mv h1) q with h|⟨s,r,t,_,w,P⟩
   .exact .inl h
   .refine .inr ⟨s, ?_,t<|.inl h1,w⟩;rcases P with⟨P,_⟩|⟨i,x,P,h7,h8⟩
    .exact .inl P
    .refine .inr ?_
     have C:i<ft bs:=by
      grind
     have⟨b',x',o,K,L,W,X,q5,M⟩:=B i C;rw[<-h7];refine KI P W ?_;rcases M with⟨M,_⟩|⟨M,_⟩
     .rw[M];rfl
     .rw[<-M,<-X,<-h8];exact h1
  refine⟨⟨g.Z,λb y hy T=> ?_⟩,λj x hl=> ?_,λs hs hsd b H=> ?_⟩
  .rintro(⟨k,h1,q⟩|h)
   .rcases hsp k b h1 q with⟨r,t,w⟩|⟨s,r,t,w⟩
    .exact T (g.onm k r t h1 b y w hy)
    .exact T (.inl ⟨s,t,w⟩)
   .rw[g.fb]at h;exact T (g.fbm b h)
  .rcases hl with⟨h1,rfl⟩|⟨h1,q⟩
   .by_cases v:j∈fx
    .refine⟨by rw[g.len];exact cK (g.fixlt j v)<|cD _ _,λd' p=> ?_⟩;have⟨K,L,W,X⟩:=F j v d' p;exact⟨d',K,rfl,by rw[g.μo _<|g.fixlt j v,X],rfl⟩
    .exact g.lk j h1 v
   .rw[Bt]at q
    have C:j-N<ft bs:=by
     grind
    have hfj:f j=ft c.S+(j-N):=by rw[<-g.fN];congr 1;omega
    rw[hfj];refine⟨by rw[g.len];omega,λd' p=> ?_⟩;have⟨b,x',o,K,L,W,X,q5,M⟩:=B (j-N) C;rw[q]at K;cases K;rw[X]at p;rcases M with⟨_,M⟩|⟨M,q7⟩
    .subst M;cases p
    .cases x with
     |none=>
      have⟨_,s,q8⟩:=q7;subst q8;cases p;exact⟨V2,q5⟩
     |some x=>
      have⟨k,cut⟩:=x;have⟨q8,d,q9,q10,q11⟩:=q7;refine⟨d,q9, ?_⟩;cases cut with
      |none=>
       simp only at q10;rw[q10]at p;cases p;exact⟨rfl,q5,rfl⟩
      |some n=>
       simp only at q10;rw[q10]at p;cases p;exact⟨rfl,q5,rfl⟩
  .rintro(⟨k,h1,q⟩|h)
   .rcases hsp k b h1 q with⟨r,t,w⟩|⟨s',r,t,w⟩
    .exact g.olent k r t h1 s hs hsd b H w
    .have:=I.inj s' s b t hsd w H;subst this;exact OS ap2 (cI.2 r) hs
   .rw[g.fb]at h;exact g.fbk s b hsd H h
 have⟨vs1,fs1,bs1,r1,r2,r3,r4⟩:=Lf I hT hd hf;rw[he]at r1;injection r1 with r1
 injection r1 with e1 r1
 injection r1 with e2 e3
 subst e1;subst e2;subst e3;have⟨_,_,x4⟩:=r3.get;have⟨_,_,y4⟩:=r4.get;refine⟨hle,⟨by rw[g.Z];exact I.ok,λk k' b z J H hm'=> ?_,λk=> ?_,λk b z H hb=> ?_,λb hb=> ?_⟩,r2⟩
 .rcases A k b (mv z) H with⟨h1,q,r⟩|⟨s,h1,q,_,r,t⟩
  .rcases A k' b J hm' with⟨g1,g2,g3⟩|⟨s',g1,g2,_,g3,g4⟩
   .refine hR.inj k k' b (by rw[<-V k h1 q z];exact z) ?_ r g3;rcases u k' g1 g2 J with h|h
    .rw[<-h];exact J
    .rw[h,gf]at J;exact J
   .rcases g.roz with T|hz
    .exact(g.odis k h1 q (mv z) s' g1 (g2<|.inr T) b g3 r).elim
    .rw[hz k h1 q<|mv z]at z;cases z
  .rcases A k' b J hm' with⟨g1,g2,g3⟩|⟨s',g1,_,g2,g3,g4⟩
   .exact(g.odis k' g1 g2 J s h1 (q<|.inl z) b r g3).elim
   .have:=I.inj s s' b (q<|.inl z) g2 r g3;subst this;rcases t with⟨t,w⟩|⟨i,x,t,w,P⟩
    .rcases g4 with⟨g4,g5⟩|⟨i',x',g4,g5,g6⟩
     .rw[w,g5]
     .subst g5;exact(nd3 _ t _ (Bo g4) rfl).elim
    .rcases g4 with⟨g4,g5⟩|⟨i',x',g4,g5,g6⟩
     .subst w;exact(nd3 _ g4 _ (Bo t) rfl).elim
     .rw[P,g6,J1 nd2 t g4<|w.trans g5.symm]
 .by_cases E:(ag ct.S k).dim=Y
  .intro d p;rw[E]at p;cases p
  .rcases D k E with⟨j,v,rfl⟩|⟨h1,q⟩|⟨i,C,rfl⟩
   .obtain⟨i,b,o,K,L,W,X,q5⟩:=U j v;have⟨o',M,q7⟩:=x4 i j b K L;refine q7.blkRel I g.Z X λhb=> ?_
    cases Q:(ag ct.S<|f j).dim with
    |none=>exact(E Q).elim
    |some d=>
     have⟨_,_,_,q8⟩:=F j v d Q;rw[g.μo _<|g.fixlt j v,<-q8];rfl
   .intro d p;have r:=u k h1 q E
    have hdc:(ag c.S k).dim=O d:=by
     rcases r with h|h
     .rw[<-h];exact p
     .rw[h,gf]at p;exact p
    have hvc:(ag ct.S k).vals=(ag c.S k).vals:=by
     rcases r with h|h
     .rw[h]
     .rw[h,MA]
    have⟨K,L⟩:=hR.blk k d hdc;refine⟨K, ?_⟩;rcases L with⟨L,W⟩|⟨b,y,cs,rest,L,W,X,q5,M,q7⟩
    .exact .inl ⟨L,(g.μo k h1).trans W⟩
    .refine .inr ⟨b,y,cs,rest,(g.μo k h1).trans L,by rw[g.Z];exact g.oun k h1 q E b y L W,X,λhz=> ?_,M,by rw[hvc];exact VRel.frames hle q7⟩
     grind
   .obtain⟨b,x,o,K,L,W,X,q5,M⟩:=B i C;have⟨o',q7,q8⟩:=y4 i x b K L;exact q8.blkRel I g.Z X λ_=>q5
 .rw[g.fb]at hb;rcases A k b z H with⟨h1,q,r⟩|⟨s,h1,_,q,r,_⟩
  .refine hR.fbk k b ?_ r hb;rcases u k h1 q z with h|h
   .rw[<-h];exact z
   .rw[h,gf]at z;exact z
  .exact g.fbk s b q r hb
 .rw[g.fb]at hb;rw[g.Z];exact cK (hR.fbl b hb) g.n
end
section
open Bool renaming or_eq_false_iff->aB
open List renaming cons_append->bB,length_append->bD,mem_of_getElem?->cB,nodup_append->cD
open Nat renaming zero_add->aD
def mt {fx mov:List Nat}{fz:Bool}: ∀{S:ak} {i:Nat},ft (jV fx mov fz i S)=ft S
 |[],_=>rfl
 |_::r,i=>by simp[jV,mt (S:=r)]
def mr {fx mov:List Nat}{fz:Bool}: ∀{S:ak} {i k:Nat},k<ft S->ag (jV fx mov fz i S) k=cond (lB (i+k) mov) (cond (ag S k).frozen (ag S k) .dead) (cond (lB (i+k) fx) (ag S k)<|cond fz (ag S k).freeze<|ag S k)
 |[],_,_,h=>by simp at h
 |b::r,i,0,_=>rfl
 |b::r,i,k+1,h=>by
  have:=mr (fx:=fx) (mov:=mov) (fz:=fz) (S:=r) (i:=i+1) (k:=k) V8;rw[show i+1+k=i+(k+1)by omega]at this;exact this
theorem ke : ∀{js:List Nat} {bs:List Blk} {S S':ak},yr js bs S=O S'->ft js=ft bs/\ft S'=ft S/\(∀k,k∉js->ag S' k=ag S k)/\
  (js.Nodup->∀(i j:Nat) (b:Blk),js[i]?=O j->bs[i]?=O b->j<ft S->ag S' j=b)
 |[],[],S,S',h=>by
  cases h
  grind
 |[],_::_,S,S',h=>by cases h
 |_::_,[],S,S',h=>by cases h
 |j::js,b::bs,S,S',h=>by
  simp only[yr]at h;have⟨t,u,n,v⟩:=ke h;refine⟨by simp[t],by rw[u,G3],λk p=> ?_,λg i w r f d q=> ?_⟩
  .rw[n k<|λe=>p<|List.mem_cons_of_mem _ e];exact aX4 (λe=>p (by rw[e];exact List.mem_cons_self))
  .rw[List.nodup_cons]at g;cases i with
   |zero=>
    simp at f d;subst f;subst d;rw[n j g.1];exact af3 q
   |succ i=>
    simp at f d;exact v g.2 i w r f d (by rw[G3];exact q)
def yn : ∀{l:List Blk} {i:Nat} {b:Blk},l[i]?=O b->ag l i=b
 |[],i,b,h=>by simp at h
 |a::l,0,b,h=>by simpa[ag]using h
 |a::l,i+1,b,h=>yn (l:=l) V8
structure Within (c c1:Ctx)(fx mov:List Nat):Prop where
 le:Le c c1
 fr: ∀k,k<ft c.S->k∉fx->(k∉mov∨(ag c.S k).frozen=Za)->ag c1.S k=(ag c.S k).freeze
 un: ∀k,k<ft c.S->k∉fx->(k∉mov∨(ag c.S k).frozen=Za)->(ag c.S k).dim≠Y->∀b y,c.μ k=O b->c.Z.m b=O y->c1.Z.m b=O y
theorem lW {S:ak}(h:M1 S fx=Za)(d:j∈fx):j<ft S/\(ag S j).may=Za:=by
 simp only[M1,List.all_eq_true,Bool.and_eq_true]at h
 simp_all
def kS (h:k∉l):lB k l=Zb:=by
 cases d:lB k l with
 |false=>rfl
 |true=>exact(h<|kT.1 d).elim
def JJ {fz:Bool}{S:ak}(h:k<ft S)(g:k∉fx)(d:(ag (jV fx mov fz 0 S) k).dim≠Y):(k∉mov∨(ag S k).frozen=Za)/\ag (jV fx mov fz 0 S) k=cond fz (ag S k).freeze (ag S k):=by
 rw[mr h,aD,kS g]at d⊢;by_cases e:k∈mov
 .rw[kT.2 e]at d⊢;cases f:(ag S k).frozen with
  |false=>rw[f]at d;exact(d rfl).elim
  |true=>exact⟨.inr rfl,by cases fz<;>simp[Dr f]⟩
 rw[kS e];exact⟨.inl e,rfl⟩
theorem bc3 (hR:Rel c)(I:Rel c')(W:Within c c1 fx mov)(hR1:Rel c1)(J:Le c1 c')
  (B:M1 c.S fx=Za) (hro:sk.fxRo=Za) (hd:nk c'.S (ft c.S) fx sk vals=O st) (he:mB id sk st.ls=O (vs,fs,bs)) (hf:F2 (VRel c') vals as) (hS:yr fx fs (jV fx mov Za 0 c.S)=O S'):
  ∃ct:Ctx,ct.Z=c'.Z/\ct.S=S'++bs/\ct.fb=c.fb/\(∀k,k<ft c.S->ct.μ k=c.μ k)/\Le c ct/\Rel ct/\F2 (VRel ct) vs as/\
   (∀k,k<ft c.S->k∉fx->(ag ct.S k).dim≠Y->(k∉mov∨(ag c.S k).frozen=Za)/\∀b y,c.μ k=O b->c.Z.m b=O y->ct.Z.m b=O y):=by
 have⟨s1,X,s3,s4⟩:=ke hS;rw[mt]at X s4;have⟨ap1,_⟩:=qD hd;have V:=qB ap1;rw[cD]at V;have⟨nd1,_,_⟩:=V;have t:=W.le.trans J;have P:c'.fb=c.fb:=t.fb
 let ct:Ctx:=⟨λi=>if i<ft c.S then c.μ i else match st.m[i-ft c.S]? with
  |some x=>DE c' x
  |none=>Y,S'++bs,c'.Z,c.fb⟩
 have Q: ∀k,k<ft c.S->ag ct.S k=ag S' k:=λk h=>nv (by rw[X];exact h)
 have F: ∀k,k<ft c.S->k∉fx->ag ct.S k=ag (jV fx mov Za 0 c.S) k:=λk h q=>by rw[Q k h,s3 k q]
 have p: ∀k,k<ft c.S->k∉fx->(ag ct.S k).dim≠Y->(k∉mov∨(ag c.S k).frozen=Za)/\ag ct.S k=(ag c.S k).freeze/\ag c'.S k=(ag c.S k).freeze/\c'.μ k=c.μ k/\(ag c.S k).dim≠Y:=by
  intro k h q f;rw[F k h q]at f⊢;have⟨z,v⟩:=JJ h q f;have C:=W.fr k h q z;rw[v]at f;simp only[zC]at f v;rw[gf]at f
  have D:ag c'.S k=(ag c.S k).freeze:=by
   rw[J.fz k (by rw[C,kB]) (by rw[C,gf];exact f),C]
  refine⟨z,v,D, ?_,f⟩;cases r:(ag c.S k).dim with
  |none=>exact(f r).elim
  |some d=>exact(t.al k d h (by rw[D,gf];exact r)).2
 have H: ∀k,k<ft c.S->k∉fx->(ag ct.S k).dim≠Y->∀b y,c.μ k=O b->c.Z.m b=O y->c'.Z.m b=O y:=by
  intro k h q f b y u L;have⟨z,v,C,D,E⟩:=p k h q f;have h6:=W.un k h q z E b y u L;have h7:=W.fr k h q z
  have T:c1.μ k=O b:=by
   cases r:(ag c.S k).dim with
   |none=>exact(E r).elim
   |some d=>rw[(W.le.al k d h (by rw[h7,gf];exact r)).2];exact u
  have h8: ¬c1.mut b:=hR1.fz_mut (by rw[h7,kB]) (by rw[h7,gf];exact E) T;exact J.un b y h6 λe=>h8 (.inl e)
 have g:GT c c' ct (ft c.S) id fx sk st fs bs:=by
  refine⟨rfl,rfl,by simp[ct,X],λk h q=> ?_,λi j b hi hb=> ?_,λj A=>(lW B A).1,λi b hb=> ?_,λ_=>rfl,λk h=>zE h,λi x hx=> ?_,t.un,t.ow,t.n,λk h q f b y u L=> ?_,λk h q f s hs w b u e=> ?_,λj A f=> ?_,λj A=>(lW B A).2,
   λ_ _ _ _ e=>e,λk b f u=> ?_,λj A q=> ?_,λk h q w b y u L=> ?_,λk h q w s hs hsd b u e=> ?_,λb hb=> ?_,λj A=>(lW B A).1,hro, .inr λk h q f=>by rw[(p k h (λe=>q k e rfl) f).2.1,kB]⟩
  .have U:k∉fx:=λe=>q k e rfl
   rw[F k h U];by_cases f:(ag (jV fx mov Za 0 c.S) k).dim=Y
   .rw[mr h,aD,kS U]at f⊢;by_cases u:k∈mov
    .rw[kT.2 u]at f⊢;cases w:(ag c.S k).frozen with
     |false=>exact .inr (.inr ⟨rfl,rfl⟩)
     |true=>exact .inl rfl
    .rw[kS u];exact .inr (.inl rfl)
   grind
  .have A:=cB hi;have K:=(lW B A).1
   grind
  .show ag (S'++bs) (ft c.S+i)=b;rw[<-X,tK];exact yn hb
  .show(if ft c.S+i<ft c.S then _ else _)=_;rw[Zh,Nat.add_sub_cancel_left,hx]
  .exact H k h (λe=>q k e rfl) f b y u L
  .obtain⟨z,v,C,D,E⟩:=p k h (λe=>q k e rfl) f;have:=I.inj s k b w (by rw[C,gf];exact E) u<|D.trans e;subst this;rw[C,kB]at w;cases w
  .have K:=(lW B A).1;cases r:(ag c'.S j).dim with
   |none=>exact(f r).elim
   |some d=>
    have⟨z,v⟩:=t.al j d K r;exact⟨z,v,λb y u L=>t.ln j d b y K r u L⟩
  .rw[<-P];exact I.fbk k b f u
  .refine⟨by simp only[id,ct,bD,X];omega,λd' M=> ?_⟩;have⟨z,v,C,D,E⟩:=p j A q (by rw[show id j=j from rfl]at M;rw[M];simp)
   grind
  .obtain⟨z,v,C,D,E⟩:=p k h (λe=>q k e rfl)<|mv w;rw[v,kB]at w;cases w
  .obtain⟨z,v,C,D,E⟩:=p k h (λe=>q k e rfl)<|mv w;rw[v,kB]at w;cases w
  .exact .inr (by rw[P];exact hb)
 have⟨r1,r2,r3⟩:=g.all hR I hd he hf;exact⟨ct,rfl,rfl,rfl,λk h=>zE h,r1,r2,r3,λk h q f=>⟨(p k h q f).1,H k h q f⟩⟩
end
section
open Bool renaming or_eq_false_iff->aB
open List renaming cons_append->bB,length_append->bD,mem_of_getElem?->cB,nodup_append->cD
open Nat renaming zero_add->aD
theorem al7 (H:Rel c)
  (t:M1 c.S fx=Za) (L:sk.fxRo=Za) (M:nk c.S (ft c.S) fx sk vals=O st) (Q:mB id sk st.ls=O (vs,fs,bs)) (T:F2 (VRel c) vals as) (P:yr fx fs (jV fx (tN st.m) Za 0 c.S)=O S'):
  ∃ct:Ctx,ct.Z=c.Z/\ct.S=S'++bs/\ct.fb=c.fb/\(∀k,k<ft c.S->ct.μ k=c.μ k)/\Le c ct/\Rel ct/\F2 (VRel ct) vs as:=by
 have⟨s1,E,s3,s4⟩:=ke P;rw[mt]at E s4;have⟨K,_⟩:=qD M;have D:=qB K;rw[cD]at D;have⟨nd1,_,_⟩:=D
 let ct:Ctx:=⟨λi=>if i<ft c.S then c.μ i else match st.m[i-ft c.S]? with
  |some x=>DE c x
  |none=>Y,S'++bs,c.Z,c.fb⟩
 have B: ∀k,k<ft c.S->ag ct.S k=ag S' k:=λk n=>nv (by rw[E];exact n)
 have v: ∀k,k<ft c.S->k∉fx->ag ct.S k=ag (jV fx (tN st.m) Za 0 c.S) k:=λk n p=>by rw[B k n,s3 k p]
 have f: ∀k,k<ft c.S->k∉fx->(ag ct.S k).dim≠Y->(k∉tN st.m∨(ag c.S k).frozen=Za)/\ag ct.S k=(ag c.S k).freeze/\(ag c.S k).dim≠Y:=by
  intro k n p d;rw[v k n p]at d⊢;have⟨A,q⟩:=JJ n p d;rw[q]at d;simp only[zC]at d q;rw[gf]at d;exact⟨A,q,d⟩
 have g:GT c c ct (ft c.S) id fx sk st fs bs:=by
  refine⟨rfl,rfl,by simp[ct,E],λk n p=> ?_,λi j b U I=> ?_,λj r=>(lW t r).1,λi b I=> ?_,λ_=>rfl,λk n=>zE n,λi x hx=> ?_,λ_ _ h _=>h,λ_ _ _ h=>h,Nat.le_refl _,λk n p d b y z J=>J,λk n p d s W u b z e=> ?_,λj r d=>⟨rfl,rfl,λb y _ J=>⟨y,J,rfl⟩⟩,λj r=>(lW t r).2,
   λ_ _ _ _ e=>e,λk b d z=>H.fbk k b d z,λj r p=> ?_,λk n p u b y z J=> ?_,λk n p u s W X b z e=> ?_,λb I=> .inr I,λj r=>(lW t r).1,L, .inr λk n p d=>by rw[(f k n (λe=>p k e rfl) d).2.1,kB]⟩
  .have C:k∉fx:=λe=>p k e rfl
   rw[v k n C];by_cases d:(ag (jV fx (tN st.m) Za 0 c.S) k).dim=Y
   .rw[mr n,aD,kS C]at d⊢
    grind
   grind
  .have r:=cB U;have V:=(lW t r).1
   grind
  .show ag (S'++bs) (ft c.S+i)=b;rw[<-E,tK];exact yn I
  .show(if ft c.S+i<ft c.S then _ else _)=_
   grind
  .obtain⟨A,q,F⟩:=f k n (λe=>p k e rfl) d;have:=H.inj s k b u F z e
   grind
  .refine⟨by simp only[id,ct,bD,E];omega,λd' w=> ?_⟩;have⟨A,q,F⟩:=f j r p (by rw[show id j=j from rfl]at w;rw[w];simp);rw[show id j=j from rfl,q,gf]at w
   grind
  .obtain⟨A,q,F⟩:=f k n (λe=>p k e rfl)<|mv u;rw[q,kB]at u;cases u
  .obtain⟨A,q,F⟩:=f k n (λe=>p k e rfl)<|mv u;rw[q,kB]at u;cases u
 have⟨r1,r2,r3⟩:=g.all H H M Q T;exact⟨ct,rfl,rfl,rfl,λk n=>zE n,r1,r2,r3⟩
def Se (d:Le c c1)(q:yr fx fs (jV fx mov Za 0 c.S)=O S')(p:c1.S=S'++bs)
  (f: ∀k,k<ft c.S->k∉fx->(k∉mov∨(ag c.S k).frozen=Za)->(ag c.S k).dim≠Y->∀b y,c.μ k=O b->c.Z.m b=O y->c1.Z.m b=O y):Within c c1 fx mov:=by
 have⟨t,n,r,u⟩:=ke q;rw[mt]at n;refine⟨d,λk g h e=> ?_,f⟩;rw[p,nv (by rw[n];exact g),r k h,mr g,aD,kS h];rcases e with e|hz
 .rw[kS e];rfl
 .cases lB k mov with
  |false=>rfl
  |true=>rw[hz];simp[Dr hz]
section
variable {ctf ct:Ctx}
def VRel.thaw (r:ct.μ=ctf.μ)(u:ct.Z=ctf.Z)(q:ft ct.S=ft ctf.S)(p: ∀k,(ag ct.S k).dim=(ag ctf.S k).dim): ∀{v:VV} {a:Value},VRel ctf v a->alV v=Zb->VRel ct v a
 |_,_, .undef a,_=> .undef a
 |_,_, .bool b,_=> .bool b
 |_,_, .int k n,_=> .int k n
 |_,_, .str w,_=> .str w
 |_,_, .nilp,_=> .nilp
 |_,_, .nils,_=> .nils
 |_,_, .nilf,_=> .nilf
 |_,_, .ptr g e f,_=> .ptr ZD e λd h=>by rw[p]at h;rw[r];exact f d h
 |_,_, .it g e w f,_=> .it ZD e w λd h=>by rw[p]at h;rw[r];exact f d h
 |_,_, .bld g e f,_=> .bld ZD e λd h=>by rw[p]at h;rw[r];exact f d h
 |_,_, .pix g e z f,_=> .pix ZD e z λd h=>by rw[p]at h;rw[r];exact f d h
 |_,_, .pel g e f,_=> .pel ZD e λd h=>by rw[p]at h;rw[r];exact f d h
 |_,_, .pin _ _ _ _,h=>by cases h
 |_,_, .lstn _,h=>by cases h
 |_,_, .tgtn _,h=>by cases h
 |_,_, .tgt _ _ _ _ _,h=>by cases h
 |_,_, .lst _ _ _ _ _ _ _,h=>by cases h
 |_,_, .full g e f,_=> .full ZD e λd h=>by
  rw[p]at h;have⟨n,y,t⟩:=f d h;refine⟨n,y, ?_⟩;unfold I7 at t⊢;rw[r,u];exact t
 |_,_, .part g e f,_=> .part ZD e λd h=>by
  rw[p]at h;have t:=f d h;unfold I7 at t⊢;rw[r,u];exact t
 |_,_, .fn e f,h=>by
  simp only[alV,aB]at h;exact .fn (go e h.1) (go f h.2)
 |_,_, .agg e,h=>by
  simp only[alV]at h;exact .agg (go e h)
 |_,_, .tup e,h=>by
  simp only[alV]at h;exact .tup<|go e h
where
 go: ∀{l:List VV} {m:List Value},F2 (VRel ctf) l m->QZ l=Zb->F2 (VRel ct) l m
  |_,_, .nil,_=> .nil
  |_,_, .cons e f,h=>by
   simp only[QZ,aB]at h;exact .cons (VRel.thaw r u q p e h.1)<|go f h.2
def I5 : ∀{s:Sh} (x:El s),s.al=Zb->QZ (ey s x)=Zb
 | .int _,_,_=>rfl
 | .bool,_,_=>rfl
 | .str,_,_=>rfl
 | .list _,_,h=>by cases h
 | .pair a b,x,h=>by
  simp only[Sh.al,aB]at h;have d:=I5 x.1 h.1;have e:=I5 x.2 h.2;simp only[ey];revert d;generalize ey a x.1=l;intro d;induction l with
  |nil=>exact e
  |cons v l f=>
   simp only[QZ,aB,bB]at d⊢;exact⟨d.1,f d.2⟩
def aN4 {l m:List VV}(d:QZ l=Zb)(e:QZ m=Zb):QZ (l++m)=Zb:=by
 induction l with
 |nil=>exact e
 |cons v l f=>
  simp only[QZ,aB,bB]at d⊢;exact⟨d.1,f d.2⟩
def au9 (h:alB b=Zb):QZ b.vals=Zb:=by
 cases b with
 |dead=>rfl
 |cells e z l=>exact h
 |arr s z l=>
  simp only[Blk.vals];induction l with
  |nil=>rfl
  |cons x l d=>rw[gK];exact aN4 (I5 x h)<|d h
theorem thaw {c:Ctx}{S2:ak}{vs:List VV}{as:List Value}(hR:Rel c)(f:Le c ctf)(q:Rel ctf)(hf:F2 (VRel ctf) vs as)(W:QZ vs=Zb)(u:ft S2=ft ctf.S)(K: ∀k,k<ft c.S->ctf.μ k=c.μ k)
  (Q: ∀k,(ag S2 k=ag ctf.S k/\((ag ctf.S k).dim≠Y->((ag ctf.S k).frozen=Zb/\alB (ag ctf.S k)=Zb)∨(k<ft c.S/\ag ctf.S k=ag c.S k/\∀b y,c.μ k=O b->c.Z.m b=O y->ctf.Z.m b=O y)))∨
   (k<ft c.S/\ag S2 k=ag c.S k/\ag ctf.S k=(ag c.S k).freeze/\((ag c.S k).dim≠Y->∀b y,c.μ k=O b->c.Z.m b=O y->ctf.Z.m b=O y))):
  Le c ⟨ctf.μ,S2,ctf.Z,ctf.fb⟩/\Rel ⟨ctf.μ,S2,ctf.Z,ctf.fb⟩/\F2 (VRel ⟨ctf.μ,S2,ctf.Z,ctf.fb⟩) vs as:=by
 have E: ∀k,(ag S2 k).dim=(ag ctf.S k).dim:=by
  intro k;rcases Q k with⟨h,_⟩|⟨_,p,e,_⟩
  .rw[h]
  .rw[p,e,gf]
 have A:Le c ⟨ctf.μ,S2,ctf.Z,ctf.fb⟩:=by
  refine⟨by rw[u];exact f.len,λk d F h=>f.al k d F (by rw[<-E];exact h),λk J t=> ?_,λk d b y F h=>f.ln k d b y F (by rw[<-E];exact h),f.un,λb y hy hn=> ?_,f.n,f.fb⟩
  .rcases Q k with⟨h,_⟩|⟨_,p,e,_⟩
   .rw[h];exact f.fz k J t
   .exact p
  .rintro⟨k,p,e⟩;rcases Q k with⟨h,_⟩|⟨w,U,V,_⟩
   .exact f.ow b y hy hn ⟨k,by rw[<-h];exact p,e⟩
   .exact hn ⟨k,by rw[<-U];exact p,by rw[<-K k w];exact e⟩
 have hth: ∀{v:VV} {a:Value},VRel ctf v a->alV v=Zb->VRel ⟨ctf.μ,S2,ctf.Z,ctf.fb⟩ v a:=λp e=>VRel.thaw (ctf:=ctf) (ct:=⟨ctf.μ,S2,ctf.Z,ctf.fb⟩) rfl rfl u E p e
 have B: ∀{l:List VV} {m:List Value},F2 (VRel ctf) l m->QZ l=Zb->F2 (VRel ⟨ctf.μ,S2,ctf.Z,ctf.fb⟩) l m:=λp e=>VRel.thaw.go (ctf:=ctf) (ct:=⟨ctf.μ,S2,ctf.Z,ctf.fb⟩) rfl rfl u E p e
 refine⟨A,⟨q.ok,λk C b J t I z=> ?_,λk=> ?_,λk b t I=>q.fbk k b (by rw[<-E];exact t) I,q.fbl⟩,B hf W⟩
 .have P:(ag ctf.S C).dim≠Y:=by rw[<-E];exact t
  rcases Q k with⟨h,_⟩|⟨w,U,V,_⟩
  .exact q.inj k C b (by rw[<-h];exact J) P I z
  .rw[U]at J;rw[K k w]at I
   have D:(C<ft c.S/\(ag c.S C).dim≠Y)∨(ag ctf.S C).frozen=Zb:=by
    grind
   rcases D with⟨g1,g2⟩|g1
   .rw[K C g1]at z;exact hR.inj k C b J g2 I z
   .exact(q.inj C k b g1 (by rw[V,gf];exact mv J) z (by rw[K k w];exact I)).symm
 .intro d L
  have X:k<ft c.S->ag S2 k=ag c.S k->(∀b y,c.μ k=O b->c.Z.m b=O y->ctf.Z.m b=O y)->1<=d.1/\
   ((d.2=0/\ctf.μ k=Y)∨∃b y H g,ctf.μ k=O b/\ctf.Z.m b=O y/\y.es=d.1/\((ag S2 k).frozen=Zb->y.own=Za)/\y.cells=H++g/\F2 (VRel ⟨ctf.μ,S2,ctf.Z,ctf.fb⟩) (ag S2 k).vals H):=by
   intro p e w;have⟨q1,r⟩:=hR.blk k d (by rw[<-e];exact L);refine⟨q1, ?_⟩;rcases r with⟨r,T⟩|⟨b,y,H,g,r,T,q4,q5,q6,q7⟩
   .exact .inl ⟨r,(K k p).trans T⟩
   .exact .inr ⟨b,y,H,g,(K k p).trans r,w b y r T,q4,by rw[e];exact q5,q6,by rw[e];exact VRel.frames A q7⟩
  rcases Q k with⟨h,h'⟩|⟨w,U,V,h6⟩
  .have M:(ag ctf.S k).dim=O d:=by rw[<-E];exact L
   rcases h' (by rw[M];simp)with⟨p,e⟩|⟨p,e,w⟩
   .obtain⟨q1,r⟩:=q.blk k d M;refine⟨q1, ?_⟩;rcases r with r|⟨b,y,H,g,r,T,q4,q5,q6,q7⟩
    .exact .inl r
    .exact .inr ⟨b,y,H,g,r,T,q4,by rw[h];exact q5,q6,by rw[h];exact B q7<|au9 e⟩
   .exact X p (h.trans e) w
  grind
end
end
section
open List renaming getElem?_eq_getElem->aB,nodup_nil->aD,mem_cons_self->bB
def RD : ∀{m:List<|Option Src},RC m=Za->∀(i:Nat) (x:Option Src),m[i]?=O x->∃k,x=O ⟨k,Y⟩
 |[],_,i,x,h=>by simp at h
 |none::_,h,_,_,_=>by cases h
 |some ⟨k,O n⟩::_,h,_,_,_=>by cases h
 |some ⟨k,Y⟩::r,h,0,x,d=>by simp at d;exact⟨k,d.symm⟩
 |some ⟨k,Y⟩::r,h,i+1,x,d=>RD (m:=r) h i x Z2
theorem Ll : ∀{os:List OSk} {i j:Nat},j∈vD os i↔∃p o,os[p]?=O o/\o.ro=Zb/\j=i+p
 |[],i,j=>by simp[vD]
 |o::os,i,j=>by
  simp only[vD];have n:= @Ll os (i+1) j;constructor
  .intro h;cases f:o.ro with
   |true=>
    rw[f,zC]at h;have⟨p,g,d,e,q⟩:=n.1 h;exact⟨p+1,g,Z2,e,V1⟩
   |false=>
    rw[f,zD]at h;rcases bf.1 h with h|h
    .exact⟨0,o,rfl,f,V1⟩
    .obtain⟨p,g,d,e,q⟩:=n.1 h;exact⟨p+1,g,Z2,e,V1⟩
  grind
theorem Rl : ∀{os:List OSk} {m:List<|Option Src} {i:Nat} {f:Nat->Nat},ft os=ft m->(∀(p:Nat) (x:Option Src),m[p]?=O x->∃k,x=O ⟨k,Y⟩/\f (i+p)=k)->(vD os i).map f=lD os m
 |[],[],i,f,_,_=>rfl
 |[],_::_,_,_,h,_=>by simp at h
 |_::_,[],_,_,h,_=>by simp at h
 |o::os,x::m,i,f,h,d=>by
  have⟨k,e,n⟩:=d 0 x rfl;subst e
  have t:= @Rl os m (i+1) f V8 λp y g=>by
   have⟨u,q,r⟩:=d (p+1) y (by simpa using g)
   grind
  simp only[vD,lD]
  grind
def Hh : ∀{os:List OSk} {m:List<|Option Src} {k:Nat},k∈lD os m->∃(i:Nat) (o:OSk) (x:Src),m[i]?=O (O x)/\os[i]?=O o/\o.ro=Zb/\x.k=k
 |[],[],k,h=>by simp[lD]at h
 |[],_::_,k,h=>by simp[lD]at h
 |_::_,[],k,h=>by simp[lD]at h
 |o::os,Y::m,k,h=>by
  have⟨i,n,x,d,e,f,g⟩:=Hh (os:=os) (m:=m) h;exact⟨i+1,n,x,Z2,by simpa using e,f,g⟩
 |o::os,O x::m,k,h=>by
  simp only[lD]at h;cases p:o.ro with
  |true=>
   rw[p,zC]at h;have⟨i,n,q,d,e,f,g⟩:=Hh (os:=os) (m:=m) h;exact⟨i+1,n,q,Z2,by simpa using e,f,g⟩
  |false=>
   rw[p,zD]at h;rcases bf.1 h with h|h
   .exact⟨0,o,x,rfl,rfl,p,h.symm⟩
   .obtain⟨i,n,q,d,e,f,g⟩:=Hh (os:=os) (m:=m) h;exact⟨i+1,n,q,Z2,by simpa using e,f,g⟩
def O6 : ∀{m:List<|Option Src} {k:Nat},k∈tN m->∃(i:Nat) (x:Src),m[i]?=O (O x)/\x.k=k
 |[],k,h=>by simp[tN]at h
 |none::m,k,h=>by
  have⟨i,x,d,e⟩:=O6 (m:=m) h;exact⟨i+1,x,Z2,e⟩
 |some x::m,k,h=>by
  rcases bf.1 h with h|h
  .exact⟨0,x,rfl,h.symm⟩
  .obtain⟨i,f,d,e⟩:=O6 (m:=m) h;exact⟨i+1,f,Z2,e⟩
def wW : ∀{os:List OSk} {m:List<|Option Src},(tN m).Nodup->(lD os m).Nodup
 |[],[],_=>aD
 |[],_::_,_=>aD
 |_::_,[],_=>aD
 |o::os,Y::m,h=>wW (os:=os) (m:=m) h
 |o::os,O x::m,h=>by
  have d:=List.nodup_cons.1 h;have e:=wW (os:=os) d.2;simp only[lD];cases o.ro with
  |true=>exact e
  |false=>
   refine List.nodup_cons.2 ⟨λf=>d.1 ?_,e⟩;have⟨i,p,q,g,_,_,n⟩:=Hh f;rw[<-n];exact Bo g
def Ua {S:ak}{N:Nat}: ∀{os:List OSk} {i:Nat} {st f:DSt},vz S N os i st=O f->∀(p:Nat) (o:OSk) (x:Src),os[p]?=O o->o.ro=Za->f.m[i+p]?=O (O x)->x.k∈f.lent
 |[],i,st,f,h,p,o,x,q,_,_=>by simp at q
 |o'::os,i,st,f,h,p,o,x,q,g,r=>by
  simp only[vz]at h;split at h
  .rename_i y C;have⟨D,e,u⟩:=ai h;cases p with
   |succ p=>exact Ua u p o x (by simpa using q) g (by rw[<-r];congr 1;omega)
   |zero=>
    simp at q;subst q;have⟨K,E⟩:=(JQ e).m;have⟨L,F⟩:=(qC u).m
    have w:f.m[i]?=O y:=by
     rw[<-Bt,F,E];exact Kb (Kb C)
    rw[Nat.add_zero,w]at r;cases r;refine(qC u).lent _ ?_;unfold XT at e;split at e
    .cases g
    .rename_i d;cases d;split at e
     .rename_i A ro l k _ t B H J;simp only[OSk.ro]at g;subst g;cases n:(Nat.beq A t&&(Za|| !B))with
      |false=>rw[n]at e;cases e
      |true=>
       rw[n,zC]at e;exact(vA _ _ _ _ e).lent _ bB
     .cases e
    .rename_i d;cases d
    .rename_i d;cases d;rename_i ro s z _ _;simp only[OSk.ro]at g;subst g;cases n:(Za|| !(ag S _).frozen)with
     |false=>rw[n]at e;cases e
     |true=>
      rw[n,zC]at e;have⟨l,I,v⟩:=ai e;cases v;exact bB
    .cases e
  .cases h
def kQ (c:Ctx)(st:DSt)(bs:List Blk):Ctx:=⟨λi=>match st.m[i]? with
 |some x=>DE c x
 |none=>Y,bs,c.Z,λb=>c.mut b/\¬∃k,(k∈tN st.m∨k∈st.lent)/\(ag c.S k).dim≠Y/\c.μ k=O b⟩
structure Entered (c c0:Ctx)(objs:List OSk)(st:DSt)(bs:List Blk):Prop where
 rel:Rel c0
 sub: ∀i,(ag c0.S i).dim≠Y->∃x,st.m[i]?=O x/\c0.μ i=DE c x/\∀y,x=O y->(ag c.S y.k).dim≠Y/\(y.cut=Y->(ag c0.S i).dim=(ag c.S y.k).dim)/\((ag c0.S i).frozen=Zb->(ag c.S y.k).frozen=Zb)
 own: ∀b,c0.own b->c.own b
 fz: ∀(i:Nat) (o:OSk),objs[i]?=O o->o.ro=Za->(ag c0.S i).frozen=Za/\(ag c0.S i).dim≠Y
 len:ft bs=ft objs/\ft st.m=ft objs
theorem enter (E:Rel c)(h0:sk.fix=[])(hd:nk c.S 0 [] sk vals=O st)(he:mB id sk st.ls=O (vs,fs,bs))(hf:F2 (VRel c) vals as):
  Entered c (kQ c st bs) sk.free st bs/\F2 (VRel<|kQ c st bs) vs as:=by
 have⟨ct0,vs0,fs0,bs0,L,p2,p3⟩:=Rd (f:=id) E hd hf;rw[he]at L;injection L with L
 injection L with q1 L
 injection L with q2 q3
 subst q1;subst q2;subst q3;have⟨Z,P⟩:=qD hd;have T:=qB Z;rw[List.nil_append]at T P;have⟨X,y2,y3⟩:=p3.get
 have I: ∀i,(ag bs i).dim≠Y->∃(x:Option Src) (o:OSk),st.m[i]?=O x/\sk.free[i]?=O o/\w6 c ct0 o x (ag bs i):=by
  intro i F;have u:=ll F;have B:=aB u;have r:i<ft st.m:=by rw[X];exact u
  have⟨o,g,p⟩:=y3 i _ _ (aB r) B;rw[yn B]
  grind
 have v: ∀i x,st.m[i]?=O x->(kQ c st bs).μ i=DE c x:=by
  intro i x hx
  show(match st.m[i]? with
   |some x=>DE c x
   |none=>Y)=_
  rw[hx]
 have H: ∀i,(ag bs i).frozen=Zb->∀b,(kQ c st bs).μ i=O b->∃x,st.m[i]?=O (O x)/\(ag c.S x.k).frozen=Zb/\c.μ x.k=O b/\x.k∈lD sk.free st.m:=by
  intro i z b r;have⟨x,o,g,p,q⟩:=I i<|mv z;rw[v i x g]at r;rcases q with⟨_,q⟩|⟨q,t⟩
  .rw[q]at z;cases z
  .cases x with
   |none=>cases r
   |some x=>
    have⟨k,K⟩:=x;rw[q]at z;exact⟨_,g,t.1 z,r,KI g p z⟩
 have J: ∀i,(ag bs i).dim≠Y->∀b,(kQ c st bs).μ i=O b->∃x,st.m[i]?=O (O x)/\(ag c.S x.k).dim≠Y/\c.μ x.k=O b:=by
  intro i z b r;have⟨x,o,g,p,q⟩:=I i z;rw[v i x g]at r;rcases q with⟨_,q⟩|⟨q,t⟩
  .rw[q]at z;exact(z rfl).elim
  .cases x with
   |none=>cases r
   |some x=>
    have⟨k,K⟩:=x;have⟨_,d,w,_⟩:=t;exact⟨_,g,by rw[w];simp,r⟩
 have hT:Tell c (kQ c st bs) 0 id st:=by
  refine⟨⟨rfl,λb y W hn=> ?_⟩,λj x hl=> ?_,λs hs U b r=> ?_⟩
  .rintro(⟨i,g,p⟩|h)
   .obtain⟨x,_,q,t,_⟩:=H i g b p;exact hn (.inl ⟨x.k,q,t⟩)
   .exact hn h.1
  .rcases hl with⟨g,_⟩|⟨_,p⟩
   .omega
   .rw[Nat.sub_zero,Bt]at p
    have u:j<ft bs:=by
     grind
    refine⟨u,λd' C=> ?_⟩;have⟨x',o,g,q,t⟩:=I j (by rw[show(ag bs j).dim=O d' from C];simp);rw[p]at g;cases g;have e:(ag bs j).dim=O d':=C;rcases t with⟨_,t⟩|⟨t,w⟩
    .rw[t]at e;cases e
    .cases x with
     |none=>
      have⟨_,s,D⟩:=w;rw[D]at e;cases e;exact⟨V2,v j _ p⟩
     |some x=>
      have⟨k,K⟩:=x;have⟨_,d,D,V,_⟩:=w;refine⟨d,D, ?_⟩;cases K with
      |none=>
       simp only at V;rw[V]at e;cases e;exact⟨rfl,v j _ p,rfl⟩
      |some n=>
       simp only at V;rw[V]at e;cases e;exact⟨rfl,v j _ p,rfl⟩
  .rintro(⟨i,g,p⟩|h)
   .obtain⟨x,_,q,t,w⟩:=H i g b p;have:=E.inj x.k s b q U t r;rw[this]at w;exact OS P w hs
   .exact h.2 ⟨s, .inr hs,U,r⟩
 have⟨vs1,fs1,bs1,M,r2,r3,r4⟩:=Lf E hT hd hf;rw[he]at M;injection M with M
 injection M with e1 M
 injection M with e2 e3
 subst e1;subst e2;subst e3;have⟨_,_,y4⟩:=r4.get;refine⟨⟨⟨E.ok,λi i' b z A r hm'=> ?_,λi=> ?_,λi b A r B=> ?_,λb B=> ?_⟩,λi F=> ?_,λb B=> ?_,λi o ho hr=> ?_,⟨y2.symm,by rw[X,y2]⟩⟩,r2⟩
 .obtain⟨x,g,p,q,_⟩:=H i z b r;have⟨x',t,w,D⟩:=J i' A b hm';exact J1 T g t (E.inj _ _ b p w q D)
 .by_cases A:(ag bs i).dim=Y
  .intro d C;rw[show(ag (kQ c st bs).S i).dim=Y from A]at C;cases C
  .have u:=ll A;have B:=aB u;have r:i<ft st.m:=by rw[X];exact u
   have⟨o,g,p⟩:=y4 i _ _ (aB r) B;exact p.blkRel (ct:=kQ c st bs) E rfl (yn B) λ_=>v i _ (aB r)
 .obtain⟨x',t,w,D⟩:=J i A b r;exact B.2 ⟨x'.k, .inl<|Bo t,w,D⟩
 .rcases B.1 with⟨k,g,p⟩|h
  .cases Q:(ag c.S k).dim with
   |none=>exact(mv g Q).elim
   |some d=>
    have⟨y,_,_,W,_⟩:=E.block Q p;exact E.ok b y W
  .exact E.fbl b h
 .obtain⟨x,o,g,p,q⟩:=I i F;refine⟨x,g,v i x g,λy W=> ?_⟩;subst W;rcases q with⟨_,q⟩|⟨q,t,d,w,D,_⟩
  .rw[show ag (kQ c st bs).S i=ag bs i from rfl,q]at F;exact(F rfl).elim
  .refine⟨by rw[w];simp,λhc=> ?_,λz=>t (by rw[<-q];exact z)⟩;rw[hc]at D;rw[w];exact D
 .obtain⟨i,g,p⟩:=B;have⟨x,_,q,t,_⟩:=H i g b p;exact⟨x.k,q,t⟩
 .have F:i<ft bs:=by
   grind
  have r:i<ft st.m:=by rw[X];exact F
  have⟨o',g,p⟩:=y3 i _ _ (aB r)<|aB F;rw[ho]at g;cases g;rw[show ag (kQ c st bs).S i=ag bs i from rfl,yn<|aB F];rcases p with⟨p,_⟩|⟨p,q⟩
  .subst p;cases hr
  grind
end
section
open List renaming getElem?_eq_getElem->aB
theorem Rp : ∀{l:List Nat} {S:ak} {k:Nat},k∈l->(ag (Fh l S) k).frozen=Za
 |[],S,k,h=>by simp at h
 |a::l,S,k,h=>by
  simp only[Fh];by_cases d:k∈l
  .exact Rp d
  .have:k=a:=by
    grind
   subst this;rcases(wK l<|kE S k (ag S k).freeze).2 k with h1|h1
   .rw[h1,Ay];split
    .exact kB
    .rename_i f;have: ¬k<ft S:=λe=>f ⟨rfl,e⟩
     rw[yo V1];rfl
   .rw[h1];exact kB
theorem an7 {c0:Ctx}{f:List OSk}{bs0:List Blk}{Sf:ak}(hR:Rel c)(h0:c0=kQ c st bs0)(hE:Entered c c0 f st bs0)(w:Le c0 c')(hR':Rel c')
  (hcut:RC st.m=Za) (hok:M1 c.S (lD f st.m)=Za) (hnd:(tN st.m).Nodup) (hlent: ∀(i:Nat) (o:OSk) (x:Src),f[i]?=O o->o.ro=Za->st.m[i]?=O (O x)->x.k∈st.lent)
  (hro:sk.noRo=Za) (hd:nk c'.S (ft f) (vD f 0) sk vals=O st') (he:mB (yM st.m (ft f)<|ft c.S) sk st'.ls=O (vs,fs,bs)) (hf:F2 (VRel c') vals as) (hS:yr (lD f st.m) fs (Fh st.lent c.S)=O Sf):
  ∃ct:Ctx,ct.Z=c'.Z/\ct.S=Sf++bs/\ct.fb=c.fb/\(∀k,k<ft c.S->ct.μ k=c.μ k)/\Le c ct/\Rel ct/\F2 (VRel ct) vs as/\
   (∀k,k<ft c.S->k∉lD f st.m->(ag c.S k).dim≠Y->∀b y,c.μ k=O b->c.Z.m b=O y->ct.Z.m b=O y):=by
 have K:c0.Z=c.Z:=by rw[h0];rfl
 have I: ∀b,c0.fb b↔(c.mut b/\¬∃k,(k∈tN st.m∨k∈st.lent)/\(ag c.S k).dim≠Y/\c.μ k=O b):=by rw[h0];exact λb=>Iff.rfl
 have hS0:c0.S=bs0:=by rw[h0];rfl
 have H:c'.fb=c0.fb:=w.fb;have⟨l1,l2⟩:=hE.len;have⟨s1,s2,s3,s4⟩:=ke hS;rw[(wK st.lent c.S).1]at s2 s4;have hfz:=wK st.lent c.S
 have pos: ∀i,i<ft f->∃k,st.m[i]?=O (O ⟨k,Y⟩)/\yM st.m (ft f) (ft c.S) i=k:=by
  intro i hi;have u:i<ft st.m:=by omega
  have⟨k,q⟩:=RD hcut i _<|aB u;have h1:st.m[i]?=O (O ⟨k,Y⟩):=by rw[aB u,q]
  refine⟨k,h1, ?_⟩;unfold yM;rw[show Nat.blt i (ft f)=Za from Nat.ble_eq_true_of_le hi,zC,Bt,h1]
 have Q:(vD f 0).map (yM st.m (ft f)<|ft c.S)=lD f st.m:=by
  refine Rl l2.symm λp x hx=> ?_
  grind
 have C: ∀j,j∈vD f 0->j<ft f/\∃o,f[j]?=O o/\o.ro=Zb:=by
  intro j A;have⟨p,o,h1,v,z⟩:=Ll.1 A
  grind
 have fxw: ∀j,j∈vD f 0->yM st.m (ft f) (ft c.S) j∈lD f st.m:=λj A=>by rw[<-Q];exact List.mem_map_of_mem A
 have wfx: ∀k,k∈lD f st.m->∃j,j∈vD f 0/\yM st.m (ft f) (ft c.S) j=k:=λk q=>by rw[<-Q]at q;have⟨j,h1,v⟩:=List.mem_map.1 q;exact⟨j,h1,v⟩
 have E: ∀k,(∀j,j∈vD f 0->yM st.m (ft f) (ft c.S) j≠k)->k∉lD f st.m:=λk q h=>by have⟨j,h1,v⟩:=wfx k h;exact q j h1 v
 let ct:Ctx:=⟨λi=>if i<ft c.S then c.μ i else match st'.m[i-ft c.S]? with
  |some x=>DE c' x
  |none=>Y,Sf++bs,c'.Z,c.fb⟩
 have hget: ∀k,k<ft c.S->ag ct.S k=ag Sf k:=λk q=>nv (by rw[s2];exact q)
 have U: ∀k,k<ft c.S->k∉lD f st.m->ag ct.S k=ag (Fh st.lent c.S) k:=λk q t=>by rw[hget k q,s3 k t]
 have own0: ∀b,c0.own b->∃k,k∈lD f st.m/\(ag c.S k).frozen=Zb/\c.μ k=O b:=by
  rintro b ⟨i,h1,v⟩;have⟨x,z,D,F⟩:=hE.sub i<|mv h1;rw[D]at v;cases x with
  |none=>cases v
  |some x=>
   have⟨h6,_,h8⟩:=F x rfl
   have hi:i<ft f:=by
    grind
   have ho:f[i]?=O f[i]:=aB hi;refine⟨x.k,KI z ho ?_,h8 h1,v⟩;cases hr:(f[i]).ro with
   |false=>rfl
   |true=>rw[(hE.fz i _ ho hr).1]at h1;cases h1
 have nown: ∀k,k∉lD f st.m->(ag c.S k).dim≠Y->∀b,c.μ k=O b->¬c0.own b:=by
  intro k q r b u h;have⟨M,h1,v,z⟩:=own0 b h;have:=hR.inj M k b v r z u;subst this;exact q h1
 have hun: ∀k,k<ft c.S->k∉lD f st.m->(ag c.S k).dim≠Y->∀b y,c.μ k=O b->c.Z.m b=O y->c'.Z.m b=O y:=λk _ q r b y u J=>w.un b y ZV (nown k q r b u)
 have B: ∀k b,(ag c.S k).dim≠Y->c.μ k=O b->∃y,c.Z.m b=O y:=by
  intro k b r u;cases L:(ag c.S k).dim with
  |none=>exact(r L).elim
  |some d=>
   have⟨y,_,_,J,_⟩:=hR.block L u;exact⟨y,J⟩
 have P: ∀k,k<ft c.S->k∉lD f st.m->(ag ct.S k).dim=(ag c.S k).dim:=λk q t=>by rw[U k q t];exact hfz.dim k
 have X: ∀k,k<ft c.S->k∉lD f st.m->(ag ct.S k).frozen=Zb->∀b,c.μ k=O b->(ag c.S k).frozen=Zb/\¬∃M,(M∈tN st.m∨M∈st.lent)/\(ag c.S M).dim≠Y/\c.μ M=O b:=by
  intro k q t W b u;rw[U k q t]at W;have hz':(ag c.S k).frozen=Zb:=by rw[<-hfz.fz W];exact W
  refine⟨hz', ?_⟩;rintro⟨M,h1,v,z⟩;have:=hR.inj k M b hz' v u z;subst this;have hnl:k∉st.lent:=λe=>by rw[Rp e]at W;cases W
  rcases h1 with h1|h1
  .obtain⟨i,x,D,F⟩:=O6 h1
   have hi:i<ft f:=by
    grind
   have ho:f[i]?=O f[i]:=aB hi;cases hr:(f[i]).ro with
   |true=>exact hnl (by rw[<-F];exact hlent i _ x ho hr D)
   |false=>exact t (by rw[<-F];exact KI D ho hr)
  .exact hnl h1
 have g:GT c c' ct (ft f) (yM st.m (ft f)<|ft c.S) (vD f 0) sk st' fs bs:=by
  refine⟨rfl,rfl,by simp[ct,s2],λk q t=> ?_,λi j b hi T=> ?_,λj A=>(lW hok<|fxw j A).1,λi b T=> ?_,λi=> ?_,λk q=>zE q,λi x hx=> ?_,λb y J t=>w.un b y ZV λe=>t<|hE.own b e,λb y J t=>w.ow b y ZV λe=>t<|hE.own b e,by rw[<-K];exact w.n,λk q t r b y u J=> ?_,λk q t r s hs W b u e=> ?_,λj A r=> ?_,λj A=>(lW hok<|fxw j A).2,
   λj j' A hj' e=> ?_,λk b r u T=> ?_,λj A t=> ?_,λk q t W b y u J=> ?_,λk q t W s hs hsd b u e=> ?_,λb T=> ?_,λj A=>(C j A).1,ab9 hro, .inl hro⟩
  .rw[U k q<|E k t];rcases hfz.2 k with h|h
   .exact .inl h
   .exact .inr (.inl h)
  .have A:=List.mem_of_getElem? hi;have hw:=fxw j A;have hlt:=(lW hok hw).1;show ag ct.S _=b;rw[hget _ hlt];refine s4 (wW hnd) i _ b ?_ T hlt;rw[<-Q,List.getElem?_map,hi];rfl
  .show ag (Sf++bs) (ft c.S+i)=b;rw[<-s2,tK];exact yn T
  .unfold yM
   have:Nat.blt (ft f+i) (ft f)=Zb:=by
    cases T:Nat.blt (ft f+i) (ft f) with
    |false=>rfl
    |true=>have:=Nat.le_of_ble_eq_true T;omega
   grind
  .show(if ft c.S+i<ft c.S then _ else _)=_;rw[Zh,Nat.add_sub_cancel_left,hx]
  .exact hun k q (E k t) (by rw[<-P k q (E k t)];exact r) b y u J
  .have hdm':(ag c.S k).dim≠Y:=by rw[<-P k q (E k t)];exact r
   have⟨y,J⟩:=B k b hdm' e;exact w.ow b y ZV (nown k (E k t) hdm' b e) ⟨s,W,u⟩
  .obtain⟨k,h1,v⟩:=pos j (C j A).1;have hj0:j<ft c0.S:=by rw[hS0,l1];exact(C j A).1
   cases L:(ag c'.S j).dim with
   |none=>exact(r L).elim
   |some d=>
    have⟨z,D⟩:=w.al j d hj0 L;have⟨x,F,h6,h7⟩:=hE.sub j (by rw[z];simp);rw[h1]at F;cases F;have⟨h8,h9,_⟩:=h7 _ rfl;rw[v];refine⟨by rw[<-h9 rfl,z],D.trans h6,λb y u J=>w.ln j d b y hj0 L (h6.trans u) ZV⟩
  .obtain⟨k,h1,v⟩:=pos j (C j A).1;have⟨M,z,D⟩:=pos j' (C j' hj').1;rw[v,D]at e;subst e;exact J1 hnd h1 z rfl
  .have h1:=hR'.fbk k b r u;rw[H,I]at h1;refine h1 ⟨.inr T, ?_⟩;rintro⟨M,_,z,D⟩;exact hR.fbk M b z D T
  .obtain⟨k,h1,v⟩:=pos j A;have ho:f[j]?=O f[j]:=aB A
   have hr:(f[j]).ro=Za:=by
    cases hr:(f[j]).ro with
    |true=>rfl
    |false=>exact(t<|Ll.2 ⟨j,_,ho,hr,V1⟩).elim
   have⟨z,D⟩:=hE.fz j _ ho hr;have⟨x,F,h6,h7⟩:=hE.sub j D;rw[h1]at F;cases F;have⟨h8,h9,_⟩:=h7 _ rfl;simp only at h8 h9;have hkl:k<ft c.S:=ll h8
   have hkw:k∉lD f st.m:=by
    intro q;have⟨i,o,x,g1,g2,g3,g4⟩:=Hh q;have:=J1 hnd g1 h1 g4
    grind
   have hj0:j<ft c0.S:=by rw[hS0,l1];exact A
   have V:=w.fz j z D;rw[v];refine⟨by simp only[ct,List.length_append,s2];omega,λd' hd'=> ?_⟩;rw[P k hkl hkw]at hd';refine⟨d',by rw[V,h9 trivial];exact hd',rfl, ?_,rfl⟩;show(if k<ft c.S then c.μ k else _)=_;rw[zE hkl,(w.al j d' hj0 (by rw[V,h9 trivial];exact hd')).2,h6];rfl
  .obtain⟨h1,v⟩:=X k q (E k t) W b u;exact .inr (by rw[H,I];exact⟨.inl ⟨k,h1,u⟩,v⟩)
  .obtain⟨h1,v⟩:=X k q (E k t) W b e;have z:=hR'.fbk s b hsd u;rw[H,I]at z;exact z ⟨.inl ⟨k,h1,e⟩,v⟩
  .refine .inr ?_;rw[H,I];refine⟨.inr T, ?_⟩;rintro⟨M,_,z,D⟩;exact hR.fbk M b z D T
 have⟨r1,r2,r3⟩:=g.all hR hR' hd he hf;exact⟨ct,rfl,rfl,rfl,λk q=>zE q,r1,r2,r3,hun⟩
end
section
open List renaming getElem?_eq_getElem->aB,all_eq_true->aD,length_append->bB
def LM : ∀{js:List Nat} {bs:List Blk} {S S1:ak},ft js=ft bs->∃S2,yr js bs S1=O S2
 |[],[],_,S1,_=>⟨S1,rfl⟩
 |[],_::_,_,_,h=>by simp at h
 |_::_,[],_,_,h=>by simp at h
 |j::js,b::bs,S,S1,h=>by
  have⟨S2,d⟩:=LM (js:=js) (bs:=bs) (S:=S) (S1:=kE S1 j b) V8;exact⟨S2,d⟩
theorem OL {f:Nat->Nat}: ∀{os:List OSk} {ls rest:List Leaf} {bs:List Blk},Fe f os ls=O (bs,rest)->(∀o,o∈os->o.ro=Zb)->∀b,b∈bs->b.dim≠Y->b.frozen=Zb
 |[],ls,rest,bs,h,_,b,hb,_=>by
  simp only[Fe]at h
  grind
 |o::os,ls,rest,bs,h,r,b,hb,n=>by
  simp only[Fe]at h;obtain⟨p,d,h⟩:=ai h;obtain⟨q,t,h⟩:=ai h;injection h with h
  injection h with u z
  subst u;rcases bf.1 hb with hb|hb
  .subst hb;have g:=r o List.mem_cons_self;cases o with
   |dead=>
    simp only[QK]at d;injection d with d
    rw[<-d]at n;exact(n rfl).elim
   |cells y ro l=>
    simp only[QK]at d;have⟨v,w,e⟩:=ai d;injection e with e
    rw[<-e];exact g
   |arr ro s=>
    cases ls with
    |nil=>simp[QK]at d
    |cons x ls=>
     simp only[QK]at d;have⟨v,w,e⟩:=ai d;injection e with e
     rw[<-e];exact g
  .exact OL t (λo g=>r o<|List.mem_cons_of_mem _ g) b hb n
def Vp {f:Nat->Nat}{ls:List Leaf}(h:mB f sk ls=O (vs,fs,bs))(d:sk.noRo=Za):(∀b,b∈fs->b.dim≠Y->b.frozen=Zb)/\∀b,b∈bs->b.dim≠Y->b.frozen=Zb:=by
 unfold rp.noRo at d;rw[Bool.and_eq_true,aD,aD]at d;unfold mB at h;obtain⟨p,w,h⟩:=ai h;obtain⟨q,t,h⟩:=ai h;obtain⟨r,u,h⟩:=ai h;split at h
 .injection h with h
  injection h with v h
  injection h with g n
  subst g;subst n;exact⟨OL (rest:=q.2) t λo e=>by simpa using d.1 o e,OL (rest:=r.2) u λo e=>by simpa using d.2 o e⟩
 cases h
theorem UX (h:B5 vs fs bs=Zb):QZ vs=Zb/\(∀b,b∈fs->alB b=Zb)/\∀b,b∈bs->alB b=Zb:=by
 unfold B5 at h
 grind
def WU {l:List Blk}(h:(ag l i).dim≠Y):ag l i∈l:=by
 have d:=ll h;rw[yn<|aB d];exact List.getElem_mem d
theorem R5 {ctf:Ctx}{js:List Nat}{Sa Sb S1:ak}(P:Rel c)(H:Le c ctf)(A:Rel ctf)(Q:F2 (VRel ctf) vs as)(E:B5 vs fs bs=Zb)
  (U: ∀b,b∈fs->b.dim≠Y->b.frozen=Zb) (I: ∀b,b∈bs->b.dim≠Y->b.frozen=Zb) (g:ft Sa=ft c.S) (h:ft Sb=ft c.S) (C:yr js fs Sa=O S1) (D:yr js fs Sb=O S2) (r:js.Nodup) (T: ∀j,j∈js->j<ft c.S)
  (B:ctf.S=S1++bs) (V: ∀k,k<ft c.S->ctf.μ k=c.μ k)
  (t: ∀k,k<ft c.S->k∉js->(ag Sa k=ag Sb k/\((ag Sa k).dim≠Y->ag Sa k=ag c.S k))∨(ag Sb k=ag c.S k/\ag Sa k=(ag c.S k).freeze))
  (u: ∀k,k<ft c.S->k∉js->(ag Sa k).dim≠Y->∀b y,c.μ k=O b->c.Z.m b=O y->ctf.Z.m b=O y):
  Le c ⟨ctf.μ,S2++bs,ctf.Z,ctf.fb⟩/\Rel ⟨ctf.μ,S2++bs,ctf.Z,ctf.fb⟩/\F2 (VRel ⟨ctf.μ,S2++bs,ctf.Z,ctf.fb⟩) vs as:=by
 have⟨L,a2,M⟩:=UX E;have⟨W,J,X,p4⟩:=ke C;have⟨q1,K,q3,q4⟩:=ke D;refine thaw P H A Q L (by rw[B,bB,bB,J,K,g,h]) V λk=> ?_
 by_cases f:k<ft c.S
 .have z:ag (S2++bs) k=ag S2 k:=nv (by rw[K,h];exact f);have v:ag ctf.S k=ag S1 k:=by rw[B];exact nv (by rw[J,g];exact f)
  by_cases p:k∈js
  .obtain⟨i,F,e⟩:=List.mem_iff_getElem.1 p;have q:i<ft fs:=by rw[<-W];exact F
   have e1:=p4 r i k _ (by rw[aB F,e]) (aB q) (by rw[g];exact f);have e2:=q4 r i k _ (by rw[aB F,e]) (aB q) (by rw[h];exact f)
   grind
  .rw[z,v,q3 k p,X k p];rcases t k f p with⟨n,w⟩|⟨n,w⟩
   .exact .inl ⟨n.symm,λd=> .inr ⟨f,w d,u k f p d⟩⟩
   .exact .inr ⟨f,n,w,λd=>u k f p (by rw[w,gf];exact d)⟩
 .have n:k=ft c.S+(k-ft c.S):=by omega
  have z:ag (S2++bs) k=ag bs (k-ft c.S):=by
   rw[n,<-h,<-K,tK]
   congr 1
   omega
  have v:ag ctf.S k=ag bs (k-ft c.S):=by
   rw[B,n,<-g,<-J,tK]
   congr 1
   omega
  refine .inl ⟨by rw[z,v],λd=> .inl ?_⟩;rw[v]at d⊢;exact⟨I _ (WU d) d,M _<|WU d⟩
theorem Py {c0:Ctx}{f:List OSk}{z:List Blk}(L:Rel c)(h0:c0=kQ c st z)(hE:Entered c c0 f st z)(Q:Le c0 c')(M:Rel c')
  (B:RC st.m=Za) (E:M1 c.S (lD f st.m)=Za) (t:(tN st.m).Nodup) (v: ∀(i:Nat) (o:OSk) (x:Src),f[i]?=O o->o.ro=Za->st.m[i]?=O (O x)->x.k∈st.lent)
  (F:sk.noRo=Za) (hd:nk c'.S (ft f) (vD f 0) sk vals=O st') (V:mB (yM st.m (ft f)<|ft c.S) sk st'.ls=O (vs,fs,bs)) (hf:F2 (VRel c') vals as)
  (w:yr (lD f st.m) fs (cond (B5 vs fs bs) (Fh st.lent c.S) c.S)=O S2):
  ∃ct:Ctx,ct.Z=c'.Z/\ct.S=S2++bs/\Le c ct/\Rel ct/\F2 (VRel ct) vs as/\vN (lD f st.m) c ct:=by
 have⟨W,q2,q3,q4⟩:=ke w;have⟨Sf,p⟩:=LM (S:=c.S) (S1:=Fh st.lent c.S) W;have⟨ct,X,J,e3,e4,e5,e6,e7,e8⟩:=an7 L h0 hE Q M B E t v F hd V hf p
 have A: ∀n:Ctx,n.Z=ct.Z->(∀k,(ag n.S k).dim=(ag ct.S k).dim)->vN (lD f st.m) c n:=by
  intro n K h2 k r H q;have⟨_,I,U,_⟩:=ke p;have hl:ft (Fh st.lent c.S)=ft c.S:=(wK st.lent c.S).1;refine⟨?_,λb hm=> ?_⟩
  .rw[h2,J,nv (by rw[I,hl];exact r),U k H,(wK st.lent c.S).dim];exact q
  .cases C:(ag c.S k).dim with
   |none=>exact(q C).elim
   |some d=>
    have⟨y,_,_,hy,_⟩:=L.block C hm
    grind
 cases u:B5 vs fs bs with
 |true=>
  grind
 |false=>
  rw[u,zD]at w;have⟨z1,z2⟩:=Vp V F;have g:=wK st.lent c.S
  have⟨r1,r2,r3⟩:=R5 L e5 e6 e7 u z1 z2 g.1 rfl p w (wW t) (λj hj=>(lW E hj).1) J e4 (λk r H=>by
   rcases g.2 k with h|h
   .exact .inl ⟨h,λ_=>h⟩
   grind) (λk r H q=>e8 k r H (by rw[<-g.dim];exact q))
  refine⟨⟨ct.μ,S2++bs,ct.Z,ct.fb⟩,X,rfl,r1,r2,r3,A _ rfl λk=> ?_⟩;have⟨_,I,U,p4⟩:=ke p;rw[J];show(ag (S2++bs) k).dim=(ag (Sf++bs) k).dim;by_cases r:k<ft c.S
  .rw[nv (S:=S2) (by rw[q2,u];exact r),nv (S:=Sf) (by rw[I,g.1];exact r)];by_cases T:k∈lD f st.m
   .obtain⟨i,P,e⟩:=List.mem_iff_getElem.1 T;have D:i<ft fs:=by rw[<-W];exact P
    have⟨_,_,_,t4⟩:=ke w
    rw[t4 (wW t) i k _ (by rw[aB P,e]) (aB D) r,
     p4 (wW t) i k _ (by rw[aB P,e]) (aB D) (by rw[g.1];exact r)]
   .obtain⟨_,_,t3,_⟩:=ke w;rw[t3 k T,U k T,g.dim]
  .have K:k=ft c.S+(k-ft c.S):=by omega
   have g1:ag (S2++bs) k=ag bs (k-ft c.S):=by
    have⟨_,t2,_,_⟩:=ke w;rw[K,<-t2,tK]
    congr 1
    omega
   have g2:ag (Sf++bs) k=ag bs (k-ft c.S):=by
    rw[K,<-g.1,<-I,tK]
    congr 1
    omega
   rw[g1,g2]
theorem aS8 (A:Rel c)(t:Rel c')(M:Within c c1 fx mov)(u:Rel c1)(y:Le c1 c')
  (n:M1 c.S fx=Za) (p:sk.noRo=Za) (B:nk c'.S (ft c.S) fx sk vals=O st) (C:mB id sk st.ls=O (vs,fs,bs)) (K:F2 (VRel c') vals as) (v:yr fx fs (jV fx mov (B5 vs fs bs) 0 c.S)=O S2):
  ∃ct:Ctx,ct.Z=c'.Z/\ct.S=S2++bs/\Le c ct/\Rel ct/\F2 (VRel ct) vs as:=by
 have⟨T,q2,q3,q4⟩:=ke v;have⟨Sf,d⟩:=LM (S:=c.S) (S1:=jV fx mov Za 0 c.S) T;have⟨ct,W,z,X,E,F,H,I,J⟩:=bc3 A t M u y n (ab9 p) B C K d;cases e:B5 vs fs bs with
 |true=>
  grind
 |false=>
  rw[e]at v;have⟨U,V⟩:=Vp C p;have⟨r,_⟩:=qD B;have g:=qB r;rw[List.nodup_append]at g;have⟨_,D,Q,_⟩:=ke d;rw[mt]at D
  have⟨r1,r2,r3⟩:=R5 A F H I e U V mt mt d v g.1 (λj L=>(lW n L).1) z E (λk f q=>by
   rw[mr f,mr f,Nat.zero_add,kS q];cases lB k mov with
   |true=>
    refine .inl ⟨rfl,λh=> ?_⟩;cases P:(ag c.S k).frozen with
    |true=>rfl
    |false=>rw[P]at h;exact(h rfl).elim
   |false=>exact .inr ⟨rfl,rfl⟩) (λk f q w=>(J k f q (by rw[z,nv (by rw[D];exact f),Q k q];exact w)).2)
  grind
end
section
open List renaming mem_cons_self->aB
open Nat renaming eq_of_beq_eq_true->aD
def av2 (l:List Alt)(s:wG l):Option (Σ a:Alt,a.Ty):=av1 l s λa u=>O ⟨a,u⟩
def Tf {β:Type}: ∀(l:List Alt) (s:wG l) (k:(a:Alt)->a.Ty->Option β),av1 l s k=gn (av2 l s) λp=>k p.1 p.2
 |[],_,_=>rfl
 |[a],t,k=>rfl
 |a::b::r, .inl t,k=>rfl
 |a::b::r, .inr s,k=>Tf (b::r) s k
def FSum.spec (F:FSum):Ab.S6:=λd Z K=> ∃(c:Ctx) (vals:List VV) (st:DSt) (t:BF F.ins.shs) (o:wG F.outs) (p:Σ a:Alt,a.Ty) (v:VV) (fs bs:List Blk) (S':ak),
 c.Z=Z/\Rel c/\F2 (VRel c) vals d/\nk c.S 0 [] F.ins vals=O st/\UB F.ins.shs st.ls=O t/\RC st.m=Za/\M1 c.S (lD F.objs st.m)=Za/\F.run t=O o/\av2 F.outs o=O p/\
 mB (yM st.m (ft F.objs)<|ft c.S) p.1.sk (Nt p.1.sk.shs p.2)=O ([v],fs,bs)/\yr (lD F.objs st.m) fs (cond (B5 [v] fs bs) (Fh st.lent c.S) c.S)=O S'/\
 ∀r Z',(∃ct:Ctx,ct.Z=Z'/\ct.S=S'++bs/\Le c ct/\Rel ct/\VRel ct v r/\vN (lD F.objs st.m) c ct)->K r Z'
def FSum.mono (F:FSum):ba8 F.spec:=by
 rintro g Z K K' D ⟨c,vals,st,t,o,p,v,fs,bs,S',n,q,u,w,y,z,A,B,C,d,e,f⟩;exact⟨c,vals,st,t,o,p,v,fs,bs,S',n,q,u,w,y,z,A,B,C,d,e,λr Z' h=>D r Z'<|f r Z' h⟩
def Inl.spec (I:Inl):Ab.S6:=λd Z K=> ∃(β:Type) (y:β) (c:Ctx) (vals:List VV) (k:VV->ak->Option β),c.Z=Z/\Rel c/\F2 (VRel c) vals d/\I.run β vals c.S k=O y/\∀r Z',i6 c (K2<|ft c.S) k y r Z'->K r Z'
def Inl.mono (I:Inl):ba8 I.spec:=by
 rintro d Z K K' q ⟨β,y,c,vals,k,e,f,g,n,p⟩;exact⟨β,y,c,vals,k,e,f,g,n,λr Z' h=>q r Z'<|p r Z' h⟩
def fY (tab:Tab):Ab.iX:=λf d Z K=>(∃F,F∈tab.fs/\F.f=f/\F.spec d Z K)∨∃I,I∈tab.is/\I.f=f/\I.spec d Z K
def bv (tab:Tab):we<|fY tab:=by
 rintro f d Z K K' n (⟨F,e,g,h⟩|⟨F,e,g,h⟩)
 .exact .inl ⟨F,e,g,F.mono d Z K K' n h⟩
 exact .inr ⟨F,e,g,F.mono d Z K K' n h⟩
def dv (P:Program)(F:FSum):Prop:=Sim P F.f F.spec
def N2 (P:Program)(I:Inl):Prop:=Sim P I.f I.spec
def gg (P:Program)(tab:List FSum):Prop:= ∀F,F∈tab->dv P F
def ae (P:Program)(d:List Inl):Prop:= ∀I,I∈d->N2 P I
def ae.nil (P:Program):ae P []:=λF h=>by cases h
def ae.cons {P:Program}{F:Inl}{tab:List Inl}(h:N2 P F)(d:ae P tab):ae P<|F::tab:=λG hG=>by
 rcases bf.1 hG with rfl|hG
 .exact h
 .exact d G hG
def gg.nil (P:Program):gg P []:=λF h=>by cases h
def gg.cons {P:Program}{F:FSum}{tab:List FSum}(h:dv P F)(d:gg P tab):gg P<|F::tab:=λG hG=>by
 rcases bf.1 hG with rfl|hG
 .exact h
 .exact d G hG
def G6 {P:Program}(h:gg P tab.fs)(t:ae P tab.is)(f:FuncId):Sim P f<|fY tab f:=by
 rintro B μ Z w e d K (⟨F,g,n,p⟩|⟨F,g,n,p⟩) q r
 .subst n;exact h F g B μ Z w e d K p q r
 subst n;exact t F g B μ Z w e d K p q r
theorem Vb {β:Type}{c:Ctx}{k:VV->ak->Option β}{y:β}{f:Nat}{args:List VV}{as:List Value}(D:Rel c)(E:F2 (VRel c) args as): ∀{tab:List FSum},Ox tab f args c.S k=O y->(λf args Z K=> ∃F,F∈tab/\F.f=f/\F.spec args Z K:Ab.iX) f as c.Z (i6 c (wI tab f args c.S) k y)
 |[],h=>by cases h
 |F::r,h=>by
  have next:Ox r f args c.S k=O y->wI (F::r) f args c.S=wI r f args c.S->(λf args Z K=> ∃G,G∈F::r/\G.f=f/\G.spec args Z K:Ab.iX) f as c.Z (i6 c (wI (F::r) f args c.S) k y):=by
   intro q z;have⟨G,B,A,C⟩:=Vb D E q
   grind
  simp only[Ox]at h;cases g:Nat.beq F.f f with
  |false=>
   rw[g,zD]at h;exact next h (by simp only[wI,g,zD])
  |true=>
   rw[g,zC]at h;cases n:nk (GG F.vals args c.S) 0 [] F.ins args with
   |none=>
    rw[n]at h;exact next h (by simp only[wI,g,zC,n])
   |some st=>
    rw[n]at h;simp only at h;cases w:UB F.ins.shs st.ls with
    |none=>
     rw[w]at h;exact next h (by simp only[wI,g,zC,n,w])
    |some t=>
     rw[w]at h;simp only at h;have⟨q,z⟩:=az h;rw[Bool.and_eq_true]at q;have e:wI (F::r) f args c.S=lD F.objs st.m:=by simp only[wI,g,zC,n,w]
     rw[e];unfold bb6 at z;have⟨o,B,A⟩:=ai z;rw[Tf]at A;have⟨p,C,u⟩:=ai A;have d:=OZ F.vals args c.S;split at u
     .rename_i v fs bs T;split at u
      .rename_i S' Q;refine⟨F,aB,aD g,⟨c.μ,GG F.vals args c.S,c.Z,c.fb⟩,args,st,t,o,p,v,fs,bs,S',rfl,d.rel D,VRel.frames d.le E,n,w,q.1,q.2,B,C,T,Q, ?_⟩;rintro U Z' ⟨ct,H,I,J,L,M,P⟩;exact⟨v,ct,H,d.le.trans J,L,(d.calm _).trans P d.le,M,by rw[I];exact u⟩
      .cases u
     .cases u
theorem Vc {β:Type}{c:Ctx}{k:VV->ak->Option β}{y:β}{f:Nat}{args:List VV}{as:List Value}(e:Rel c)(g:F2 (VRel c) args as): ∀{n:List Inl},aa3 n f args c.S k=O y->∃I,I∈n/\I.f=f/\I.spec as c.Z (i6 c (K2<|ft c.S) k y)
 |[],h=>by cases h
 |I::r,h=>by
  simp only[aa3]at h;cases d:Nat.beq I.f f with
  |false=>
   rw[d,zD]at h;have⟨J,p,q,t⟩:=Vc e g h
   grind
  |true=>
   rw[d,zC]at h;exact⟨I,aB,aD d,β,y,c,args,k,rfl,e,g,h,λr Z' h=>h⟩
def Ve {β:Type}{k:VV->ak->Option β}{y:β}{f:Nat}{args:List VV}(d:Rel c)(g:F2 (VRel c) args as)(h:aa4 tab f args c.S k=O y):fY tab f as c.Z<|i6 c (Tp tab f args c.S) k y:=by
 unfold aa4 at h;unfold Tp;cases e:aR8 tab.is f with
 |false=>
  rw[e,zD]at h;rw[zD];exact .inl (Vb d g h)
 |true=>
  rw[e,zC]at h;rw[zC];exact .inr<|Vc d g h
theorem vC {β:Type}{e:db}{D:cx}{k:VV->ak->Option β}{y:β}(d:Rel c)(g:ba c e D){op:AOp}(h:Li tab op e c.S k=O y):cg (fY tab) op D c.Z<|i6 c (JR tab op e c.S) k y:=by
 cases op<;>simp only[Li]at h
 case move x=>exact aT7 d g h
 case pick t a b=>
  split at h
  .rename_i p A;exact aV4 d g A h
  cases h
 case alloc es z=>exact av0 d h
 case box es x=>exact bj5 d g h
 case build z ps=>
  split at h
  .rename_i H w;exact aw9 d g w h
  cases h
 case buildSlice es ln z ps=>
  split at h
  .rename_i H w;exact QB d g w h
  cases h
 case load x=>exact aS9 d g h
 case loadN n x=>exact aC4 d g h
 case store n a x=>exact aI0 d g (λq v=>OG _ v) h
 case nilCheck x=>exact VT d g h
 case bin op x z=>exact bj0 d g h
 case eqv C neg x z=>
  split at h
  .rename_i p A;exact bk8 d g A h
  cases h
 case eqCells neg ks x z=>
  split at h
  .rename_i a b r u;split at h
   .rename_i p A;exact XX d g r u A h
   cases h
  cases h
 case un op x=>exact bx8 d g h
 case conv C x=>
  split at h
  .rename_i n I;exact aO7 d g I h
  cases h
 case mkFunc f a b=>exact an9 d g h
 case makeSlice es bytes z l m=>exact aT4 d g h
 case slice es x lo hi=>exact aH8 d g h
 case sliceStr x lo hi=>exact WZ d g h
 case sliceArr es n x lo hi=>exact WY d g h
 case off n x=>exact bn6 d g h
 case idx es x i=>exact bl8 d g h
 case idxA ln es x i=>exact aS4 d g h
 case fieldV o n agg x=>
  split at h
  .rename_i H w;exact am0 d g w h
  cases h
 case indexV ln es agg x i=>
  split at h
  .rename_i H C i r u;exact an3 d g r u h
  cases h
 case indexS x i=>
  split at h
  .rename_i l C i r u;exact an2 d g r u h
  cases h
 case extract x i=>
  split at h
  .rename_i vs w;exact XZ d g w h
  cases h
 case call f xs=>exact Ve d (Ni g xs) h
 case callv x xs=>
  have B:=cm g x;split at h
  .rename_i f a b L;rw[L]at B
   have: ∃E F,D.ev x= .func (.func f) E F/\F2 (VRel c) a E.toList/\F2 (VRel c) b F.toList:=by
    generalize D.ev x=P at B;cases B
    grind
   have⟨E,F,r,u,M⟩:=this;have:=Ve d ((u.append<|Ni g xs).append M) h;simp only[cg,r,JR,L];exact this
  cases h
 case append es bytes s x=>exact XC d g (λq v=>OG _ v) h λh=>ai6 d g (λq v=>OG _ v) h
 case stuck=>cases h
 case capN x=>
  split at h
  .rename_i B;exact aO1 d g B h
  cases h
 case sliceX x hi mx=>exact aq5 d g h
 case newB=>exact aT8 d h
 case strOf x=>exact aI1 d g h
 case appendZ es bytes z s x=>exact XD d g (λq v=>OG _ v) h
 case copy es s x=>exact aO8 d g (λq v=>OG _ v) h
 case len x=>
  split at h
  .cases h
  rename_i J;split at h
  .rename_i n I;exact bm7 d g J I h
  cases h
 case most x z=>
  split at h
  .rename_i C a K b r u;exact aT6 d g r u h
  cases h
 case least x z=>
  split at h
  .rename_i C a K b r u;exact aB5 d g r u h
  cases h
end
end Go.V
