/- A part of the proof. No condition. -/
import Derived.Test.YtlaofmfngnkldaaGreatA8
set_option linter.all false
namespace Go.V
open Go.Ab
open Option renaming some->O,none->Z
open Bool renaming true->Za,false->Zb
open Decidable renaming decide->Zc
open List renaming length_eq_zero_iff->aK
open List renaming mem_append->aF
open List renaming mem_cons->aA
open List renaming mem_map->aE
open List renaming nodup_cons->aJ
open List renaming length->b8
variable {st st' st1 stf:DSt}{N i j k:Nat}{c c' c1 ct:Ctx}{sk:tR}{bs fs:List Blk}{fx l mov:List Nat}{vals vs:List VV}{as:List Value}{a:Value}{x:Option Src}{S S' S2:ah}{s:Sh}{o:OSk}{b:Blk}{m:List<|Option Src}
section
open Bool renaming and_eq_true->cD
open List renaming append_assoc->aD,singleton_append->bB,mem_cons_of_mem->cB,length_take->cV,take_of_length_le->cW
open Nat renaming beq->aB,eq_of_beq_eq_true->bD
structure Still (c ct:Ctx):Prop where
 σ:ct.σ=c.σ
 nm: ∀b y,c.σ.m b=O y->¬c.mut b->¬ct.mut b
section
variable {c ct:Ctx}
def qU (h:Still c ct): ∀(s:Sh) (x:El s) (as:List Value),F2 (VRel c) (bn s x) as->F2 (VRel ct) (bn s x) as
 | .int k,n,as,d=>by
  cases d with
  |cons e f=>cases f;cases e;exact .cons (.int _ _) .nil
 | .bool,b,as,d=>by
  cases d with
  |cons e f=>cases f;cases e;exact .cons (.bool _) .nil
 | .str,l,as,d=>by
  cases d with
  |cons e f=>cases f;cases e;exact .cons (.str ZZ) .nil
 | .list s,l,as,d=>by
  cases d with
  |cons e f=>
   cases f;refine .cons ?_ .nil;cases e with
   |lstn E=>exact .lstn E
   |lst B t A v w z g=>
    refine .lst (h.nm _ _ t B) (by rw[h.σ];exact t) A v w z ?_;clear t A w z B;subst v;revert g;rename_i b p D y;generalize (y.cells.drop _).take _=as;clear y D p b;intro g;induction l generalizing as with
    |nil=>cases g;exact .nil
    |cons x l F=>
     rw[fO]at g⊢;obtain⟨u,C,rfl,q,r⟩:=F2.app_left g;exact(qU h s x u q).append (F _ r)
 | .pair a b,x,as,d=>by
  simp only[bn]at d⊢;obtain⟨u,C,rfl,q,r⟩:=F2.app_left d;exact(qU h a x.1 u q).append<|qU h b x.2 C r
def DZ (h:Still c ct){l:List<|El s}: ∀{as:List Value},F2 (VRel c) (fh s l) as->F2 (VRel ct) (fh s l) as:=by
 induction l with
 |nil=>intro as d;cases d;exact .nil
 |cons x l g=>
  intro as d;rw[fO]at d⊢;obtain⟨n,p,rfl,e,f⟩:=F2.app_left d;exact(qU h s x n e).append<|g f
def xV.still (h:Still c ct){l:List<|El s}(t:xV c s l a):xV ct s l a:=by
 rcases t with d|⟨b,p,e,y,d,f,g,n,q,r⟩
 .exact .inl d
 exact .inr ⟨b,p,e,y,d,by rw[h.σ];exact f,g,n,q,DZ h r⟩
structure Sub (st st':DSt):Prop where
 m: ∃t,st'.m=st.m++t
 lent: ∀k∈st.lent,k∈st'.lent
def Sub.refl (st:DSt):Sub st st:=⟨⟨[],V2⟩,λ_ h=>h⟩
def Sub.trans {a b d:DSt}(h:Sub a b)(k:Sub b d):Sub a d:=by
 have⟨t,e⟩:=h.m;have⟨u,f⟩:=k.m;exact⟨⟨t++u,by rw[f,e,aD]⟩,λi g=>k.lent i<|h.lent i g⟩
def Dv (N:Nat)(m:List<|Option Src)(j:Nat)(x:Option Src):Prop:=(j<N/\x=O ⟨j,Z⟩)∨(N<=j/\nth m (j-N)=O x)
theorem Hj {α:Type}{l t:List α}{x:α}(h:nth l i=O x):nth (l++t) i=O x:=by
 rw[yB]at h⊢
 grind
def Dv.sub (g:Sub st st')(h:Dv N st.m j x):Dv N st'.m j x:=by
 rcases h with h|⟨d,e⟩
 .exact .inl h
 have⟨t,f⟩:=g.m;exact .inr ⟨d,by rw[f];exact Hj e⟩
def zw (h:st.link N j x=O st'):Dv N st'.m j x/\st'.ls=st.ls/\st'.lent=st.lent/\Sub st st':=by
 unfold DSt.link at h;cases e:Nat.blt j N with
 |true=>
  rw[e,zC]at h;split at h
  .rename_i k;cases d:aB k j with
   |false=>rw[d]at h;cases h
   |true=>
    rw[d]at h;cases h;have:=bD d;subst this;exact⟨.inl ⟨Nat.le_of_ble_eq_true e,rfl⟩,rfl,rfl,Sub.refl _⟩
  cases h
 |false=>
  rw[e,zD]at h
  have f:N<=j:=by
   rcases Nat.lt_or_ge j N with h1|h1
   .rw[show Nat.blt j N=Za from Nat.ble_eq_true_of_le h1]at e;cases e
   exact h1
  split at h
  .rename_i k hn;split at h
   .rename_i k';cases d:aB k k' with
    |false=>rw[d]at h;cases h
    |true=>
     rw[d]at h;cases h;have:=bD d;subst this;exact⟨.inr ⟨f,hn⟩,rfl,rfl,Sub.refl _⟩
   cases h
  .cases h
  rename_i hn;cases d:aB (j-N) (b8 st.m) with
  |false=>rw[d]at h;cases h
  |true=>
   rw[d]at h;cases h;have:=bD d;refine⟨.inr ⟨f, ?_⟩,rfl,rfl,⟨⟨[x],rfl⟩,λ_ h=>h⟩⟩;rw[yB,this];simp
def Lk (c ct:Ctx)(x:Option Src)(f:Nat):Prop:=f<b8 ct.S/\∀e,(ae ct.S f).dim=O e->match x with
 |none=>e.2=0/\ct.μ f=Z
 |some ⟨k,g⟩=> ∃d,(ae c.S k).dim=O d/\e.1=d.1/\ct.μ f=c.μ k/\(match g with
  |none=>e.2=d.2
  |some n=>e.2=min (n*d.1) d.2)
structure Tell (c ct:Ctx)(N:Nat)(f:Nat->Nat)(stf:DSt):Prop extends Still c ct where
 lk: ∀j x,Dv N stf.m j x->Lk c ct x (f j)
 lent: ∀k,k∈stf.lent->(ae c.S k).dim≠Z->∀b,c.μ k=O b->¬ct.mut b
def Gn.tell {t n:Nat}{d:Nat×Nat}{d2':Nat}(z:ct.σ=c.σ)(r:ct.μ t=c.μ k)(g:d2'=n*d.1)(h:Gn c k 0 n d a):Gn ct t 0 n (d.1,d2') a:=by
 rcases h with⟨f,_,e,p,q⟩|⟨b,u,y,f,e,p,q,v,w⟩
 .exact .inl ⟨f,rfl,e,r.trans p,by rw[g,e];simp⟩
 exact .inr ⟨b,u,y,f,r.trans e,by rw[g,Nat.zero_add];exact Nat.le_refl _,q,by rw[z];exact v,w⟩
theorem Xp {f:Nat->Nat}(D:Rel c)(r:Tell c ct N f stf){v:VV}{l:List<|El s}(h:Wb c.S s v=O l)(H:VRel c v a)(F: ∀k,Im v=O k->k∈stf.lent):VRel ct (.lst s l) a:=by
 have⟨t,A⟩:=ae6 D h H;refine(t.still r.toStill).rel λb p n u e E=> ?_
 rcases A b p n u e E with g|⟨k,g,B,C⟩
 .rcases t with⟨q,d,_⟩|⟨I,J,w,y,d,z,_⟩
  .rw[d]at e
   grind
  rw[d]at e;injection e with e _ _
  injection e with e
  cases e;exact r.nm _ _ z g
 exact r.lent k (F k g) B b C
def Od {st:DSt}{v:VV}:(∀k,Im v=O k->k∈(st.lend v).lent)/\(st.lend v).m=st.m/\(st.lend v).ls=st.ls/\(∀k∈st.lent,k∈(st.lend v).lent):=by
 cases v<;>refine⟨λk h=> ?_,rfl,rfl,λk h=> ?_⟩<;>first|(cases h;done)|(cases h;exact List.mem_cons_self)|exact cB _ h|exact h
def VB {v:VV}(h:dec S N (.bag s) v st=O st1):(∃l,v= .bag s l/\st1=st.push (.list s) l)∨(v= .agg []/\st1=st.push (.list s) []):=by
 simp only[dec]at h;split at h
 .rename_i s' l;have⟨y,f,d⟩:=ag h;have⟨e,g⟩:=kL f;cases e;subst g;injection d with d
  exact .inl ⟨_,rfl,d.symm⟩
 .rename_i l;cases l with
  |nil=>
   injection h with h
   exact .inr ⟨rfl,h.symm⟩
  |cons x r=>cases h
 cases h
mutual
def av1 {S:ah}{N:Nat}: ∀(sk:Sk) (v:VV) (st st1:DSt),dec S N sk v st=O st1->Sub st st1
 | .undef,v,st,st1,h=>by
  simp only[dec]at h;cases h;exact Sub.refl _
 | .leaf s,v,st,st1,h=>by
  simp only[dec]at h;split at h
  .rename_i k k' n;cases hk:Zc (k'=k)with
   |false=>rw[hk]at h;cases h
   |true=>rw[hk]at h;cases h;exact⟨⟨[],Z8⟩,λ_ h=>h⟩
  .injection h with h;subst h;exact⟨⟨[],Z8⟩,λ_ h=>h⟩
  .injection h with h;subst h;exact⟨⟨[],Z8⟩,λ_ h=>h⟩
  .rename_i s;have⟨l,h1,h2⟩:=ag h;cases h2
   have⟨_,h4,_,h6⟩:= @Od st v;exact⟨⟨[],by simp[DSt.push,h4]⟩,h6⟩
  .cases h
 | .cint k n,v,st,st1,h=>by
  cases v<;>simp only[dec]at h<;>try(cases h;done)
  rename_i k' n';cases hk:(Zc (k'=k)&&Zc (n'=n))with
  |false=>rw[hk]at h;cases h
  |true=>rw[hk]at h;cases h;exact Sub.refl _
 | .nilp,v,st,st1,h=>by
  cases v<;>simp only[dec]at h<;>try(cases h;done)
  cases h;exact Sub.refl _
 | .nils,v,st,st1,h=>by
  cases v<;>simp only[dec]at h<;>try(cases h;done)
  cases h;exact Sub.refl _
 | .nilf,v,st,st1,h=>by
  cases v<;>simp only[dec]at h<;>try(cases h;done)
  cases h;exact Sub.refl _
 | .ptr j o,v,st,st1,h=>by
  cases v<;>simp only[dec]at h<;>try(cases h;done)
  rename_i k o';cases hk:aB o o' with
  |false=>rw[hk]at h;cases h
  |true=>rw[hk,zC]at h;exact(zw h).2.2.2
 | .full j,v,st,st1,h=>by
  simp only[dec]at h;split at h
  .exact(zw h).2.2.2
  .exact(zw h).2.2.2
  .exact(zw h).2.2.2
  .cases h
 | .pin s o,v,st,st1,h=>by
  cases v<;>simp only[dec]at h<;>try(cases h;done)
  rename_i s' x o';cases hk:aB o o' with
  |false=>rw[hk]at h;cases h
  |true=>
   rw[hk]at h;have⟨y,h1,h2⟩:=ag h;cases h2;exact⟨⟨[],Z8⟩,λ_ h=>h⟩
 | .bag s,v,st,st1,h=>by
  rcases VB h with⟨l,_,rfl⟩|⟨_,rfl⟩<;>exact⟨⟨[],Z8⟩,λ_ h=>h⟩
 | .fn g a b,v,st,st1,h=>by
  cases v<;>simp only[dec]at h<;>try(cases h;done)
  rename_i g' a' b';cases hk:aB g g' with
  |false=>rw[hk]at h;cases h
  |true=>
   rw[hk]at h;have⟨st2,h1,h2⟩:=ag h;exact(tA a a' st st2 h1).trans (tA b b' st2 st1 h2)
 | .agg l,v,st,st1,h=>by
  cases v<;>simp only[dec]at h<;>try(cases h;done)
  exact tA l _ st st1 h
 | .tup l,v,st,st1,h=>by
  cases v<;>simp only[dec]at h<;>try(cases h;done)
  exact tA l _ st st1 h
def tA {S:ah}{N:Nat}: ∀(l:List Sk) (vs:List VV) (st st1:DSt),FX S N l vs st=O st1->Sub st st1
 |[],vs,st,st1,h=>by
  cases vs<;>simp only[FX]at h<;>try(cases h;done)
  cases h;exact Sub.refl _
 |k::r,vs,st,st1,h=>by
  cases vs with
  |nil=>simp only[FX]at h;cases h
  |cons v vs=>
   simp only[FX]at h;have⟨st2,h1,h2⟩:=ag h;exact(av1 k v st st2 h1).trans<|tA r vs st2 st1 h2
end
def XC {f:Nat->Nat}(r:Tell c ct N f stf)(A:Dv N stf.m j<|O ⟨k,Z⟩)(C:VRel c (.full k) a):VRel ct (.full<|f j) a:=by
 have⟨t,u⟩:=r.lk _ _ A;cases C with
 |full D B z=>
  refine .full t B λh g=> ?_
  have⟨d,v,p,w,e⟩:=u h g;have⟨n,q,y⟩:=z d v;simp only at e;refine⟨n,by rw[p,e];exact q, ?_⟩;have:=y.tell r.σ w (d2':=h.2) (by rw[e,q]);rw[<-p]at this;exact this
def aa8 {f:Nat->Nat}(t:Tell c ct N f stf){n:Nat}(A:Dv N stf.m j<|O ⟨k,O n⟩)(C:VRel c (.part k 0 n) a):VRel ct (.full<|f j) a:=by
 have⟨v,w⟩:=t.lk _ _ A;cases C with
 |part D B u=>
  refine .full v B λp h=> ?_
  have⟨d,q,r,y,g⟩:=w p h;simp only at g
  have z:n*d.1<=d.2:=by
   rcases u d q with⟨_,_,e,_,_⟩|⟨_,_,_,_,_,e,_⟩
   .rw[e];simp
   rwa [Nat.zero_add]at e
  rw[Nat.min_eq_left z]at g;refine⟨n,by rw[r,g], ?_⟩;have:=(u d q).tell t.σ y (d2':=p.2) g;rw[<-r]at this;exact this
def ah0 {f:Nat->Nat}(q:Tell c ct N f stf)(r:Dv N stf.m j Z):VRel ct (.full<|f j)<|.slice Z 0 0:=by
 have⟨h,n⟩:=q.lk _ _ r;refine .full h rfl λg d=> ?_
 have⟨e,p⟩:=n g d;exact⟨0,by rw[e];simp, .inl ⟨rfl,rfl,rfl,p,e⟩⟩
mutual
theorem av2 {N:Nat}{f:Nat->Nat}{stf:DSt}(hR:Rel c)(hT:Tell c ct N f stf): ∀(sk:Sk) (v:VV) (st st1:DSt) (a:Value),dec c.S N sk v st=O st1->Sub st1 stf->VRel c v a->
  ∃new,st1.ls=st.ls++new/\∀rest,∃v',enc f sk (new++rest)=O (v',rest)/\VRel ct v' a
 | .undef,v,st,st1,a,h,hs,hv=>by
  simp only[dec]at h;cases h
  exact⟨[],V2,λrest=>⟨.undef,ZG, .undef _⟩⟩
 | .leaf s,v,st,st1,a,h,hs,hv=>by
  simp only[dec]at h;split at h
  .rename_i k k' n;cases hk:Zc (k'=k)with
   |false=>rw[hk]at h;cases h
   |true=>
    rw[hk]at h;cases h
    have:=of_decide_eq_true hk;subst this;refine⟨[⟨.int k',n⟩],rfl,λrest=>⟨.int k' n, ?_, ?_⟩⟩
    .simp only[bB,enc,kJ,zG]
    .rw[hv.int_inv];exact .int _ _
  .rename_i b;cases h
   refine⟨[⟨.bool,b⟩],rfl,λrest=>⟨.bool b, ?_, ?_⟩⟩
   .simp only[bB,enc,kJ,zG]
   .rw[hv.bool_inv];exact .bool _
  .rename_i l;cases h
   refine⟨[⟨.str,l⟩],rfl,λrest=>⟨.str l, ?_, ?_⟩⟩
   .simp only[bB,enc,kJ,zG]
   .obtain⟨s,h1,h2⟩:=hv.str_inv;rw[h1];exact .str h2
  .rename_i s;have⟨l,h1,h2⟩:=ag h;cases h2
   have⟨h3,h4,h5,h6⟩:= @Od st v;refine⟨[⟨.list s,l⟩],by simp[DSt.push,h5],λrest=>⟨.lst s l, ?_, ?_⟩⟩
   .simp only[bB,enc,kJ,zG]
   .exact Xp hR hT h1 hv λk hk=>hs.lent k (h3 k hk)
  .cases h
 | .cint k n,v,st,st1,a,h,hs,hv=>by
  cases v<;>simp only[dec]at h<;>try(cases h;done)
  rename_i k' n';cases hk:(Zc (k'=k)&&Zc (n'=n))with
  |false=>rw[hk]at h;cases h
  |true=>
   rw[hk]at h;cases h
   rw[cD]at hk;have e1:=of_decide_eq_true hk.1;have e2:=of_decide_eq_true hk.2;subst e1;subst e2;refine⟨[],V2,λrest=>⟨.int k' n',ZG, ?_⟩⟩;rw[hv.int_inv];exact .int _ _
 | .nilp,v,st,st1,a,h,hs,hv=>by
  cases v<;>simp only[dec]at h<;>try(cases h;done)
  cases h
  cases hv;exact⟨[],V2,λrest=>⟨.nilp,ZG, .nilp⟩⟩
 | .nils,v,st,st1,a,h,hs,hv=>by
  cases v<;>simp only[dec]at h<;>try(cases h;done)
  cases h
  cases hv;exact⟨[],V2,λrest=>⟨.nils,ZG, .nils⟩⟩
 | .nilf,v,st,st1,a,h,hs,hv=>by
  cases v<;>simp only[dec]at h<;>try(cases h;done)
  cases h
  cases hv;exact⟨[],V2,λrest=>⟨.nilf,ZG, .nilf⟩⟩
 | .ptr j o,v,st,st1,a,h,hs,hv=>by
  cases v<;>simp only[dec]at h<;>try(cases h;done)
  rename_i k o';cases hk:aB o o' with
  |false=>rw[hk]at h;cases h
  |true=>
   rw[hk,zC]at h;have:=bD hk;subst this;have⟨h1,h2,h3,h4⟩:=zw h;have⟨h5,h6⟩:=hT.lk _ _<|h1.sub hs;refine⟨[],by simp[h2],λrest=>⟨.ptr (f j) o,ZG, ?_⟩⟩;cases hv with
   |ptr hk ho hd=>
    refine .ptr h5 ho λd' hd'=> ?_
    grind
 | .full j,v,st,st1,a,h,hs,hv=>by
  simp only[dec]at h;split at h
  .obtain⟨h1,h2,h3,h4⟩:=zw h;exact⟨[],by simp[h2],λrest=>⟨.full<|f j,ZG,XC hT (h1.sub hs) hv⟩⟩
  .obtain⟨h1,h2,h3,h4⟩:=zw h;exact⟨[],by simp[h2],λrest=>⟨.full<|f j,ZG,aa8 hT (h1.sub hs) hv⟩⟩
  .obtain⟨h1,h2,h3,h4⟩:=zw h;cases hv;exact⟨[],by simp[h2],λrest=>⟨.full<|f j,ZG,ah0 hT<|h1.sub hs⟩⟩
  .cases h
 | .pin s o,v,st,st1,a,h,hs,hv=>by
  cases v<;>simp only[dec]at h<;>try(cases h;done)
  rename_i s' x o';cases hk:aB o o' with
  |false=>rw[hk]at h;cases h
  |true=>
   rw[hk,zC]at h;have:=bD hk;subst this;have⟨y,h1,h2⟩:=ag h;have⟨ee,h3⟩:=kL h1;cases ee;subst h3;cases h2
   refine⟨[⟨s,y⟩],rfl,λrest=>⟨.pin s y o, ?_, ?_⟩⟩
   .simp only[bB,enc,kJ,zG]
   .cases hv with
    |pin hn hy hl hf=>exact .pin (hT.nm _ _ hy hn) (by rw[hT.σ];exact hy) hl (qU hT.toStill _ _ _ hf)
 | .bag s,v,st,st1,a,h,hs,hv=>by
  obtain⟨l,e1,e2⟩: ∃l,st1=st.push (.list s) l/\∃a',a= .agg a'/\F2 (VRel c) (fh s l) a'.toList:=by
   rcases VB h with⟨l,rfl,rfl⟩|⟨rfl,rfl⟩
   .cases hv with
    |bag hf=>exact⟨l,rfl,_,rfl,hf⟩
   .cases hv with
    |agg hf=>exact⟨[],rfl,_,rfl,hf⟩
  obtain⟨a',rfl,hf⟩:=e2;subst e1;refine⟨[⟨.list s,l⟩],rfl,λrest=>⟨.bag s l, ?_, .bag<|DZ hT.toStill hf⟩⟩;simp only[bB,enc,kJ,zG]
 | .fn g p q,v,st,st1,a,h,hs,hv=>by
  cases v<;>simp only[dec]at h<;>try(cases h;done)
  rename_i g' p' q';cases hk:aB g g' with
  |false=>rw[hk]at h;cases h
  |true=>
   rw[hk,zC]at h;have:=bD hk;subst this;have⟨st2,h1,h2⟩:=ag h;cases hv with
   |fn f1 f2=>
    have⟨new1,e1,e2⟩:=vK hR hT p p' st st2 _ h1 ((tA q q' st2 st1 h2).trans hs) f1;have⟨new2,e3,e4⟩:=vK hR hT q q' st2 st1 _ h2 hs f2;refine⟨new1++new2,by rw[e3,e1,aD],λrest=> ?_⟩;have⟨v1,e5,e6⟩:=e2<|new2++rest;have⟨v2,e7,e8⟩:=e4 rest;exact⟨.fn g v1 v2,by simp only[enc,aD,e5,zG,e7], .fn e6 e8⟩
 | .agg l,v,st,st1,a,h,hs,hv=>by
  cases v<;>simp only[dec]at h<;>try(cases h;done)
  cases hv with
  |agg f1=>
   have⟨new1,e1,e2⟩:=vK hR hT l _ st st1 _ h hs f1;refine⟨new1,e1,λrest=> ?_⟩;have⟨v1,e5,e6⟩:=e2 rest;exact⟨.agg v1,by simp only[enc,e5,zG], .agg e6⟩
 | .tup l,v,st,st1,a,h,hs,hv=>by
  cases v<;>simp only[dec]at h<;>try(cases h;done)
  cases hv with
  |tup f1=>
   have⟨new1,e1,e2⟩:=vK hR hT l _ st st1 _ h hs f1;refine⟨new1,e1,λrest=> ?_⟩;have⟨v1,e5,e6⟩:=e2 rest;exact⟨.tup v1,by simp only[enc,e5,zG], .tup e6⟩
theorem vK {N:Nat}{f:Nat->Nat}{stf:DSt}(hR:Rel c)(hT:Tell c ct N f stf): ∀(l:List Sk) (vs:List VV) (st st1:DSt) (as:List Value),FX c.S N l vs st=O st1->Sub st1 stf->F2 (VRel c) vs as->
  ∃new,st1.ls=st.ls++new/\∀rest,∃vs',Nk f l (new++rest)=O (vs',rest)/\F2 (VRel ct) vs' as
 |[],vs,st,st1,as,h,hs,hf=>by
  cases vs<;>simp only[FX]at h<;>try(cases h;done)
  cases h
  cases hf;exact⟨[],V2,λrest=>⟨[],by simp[Nk], .nil⟩⟩
 |k::r,vs,st,st1,as,h,hs,hf=>by
  cases hf with
  |nil=>simp only[FX]at h;cases h
  |cons f1 f2=>
   simp only[FX]at h;have⟨st2,h1,h2⟩:=ag h;have⟨new1,e1,e2⟩:=av2 hR hT k _ st st2 _ h1 ((tA r _ st2 st1 h2).trans hs) f1;have⟨new2,e3,e4⟩:=vK hR hT r _ st2 st1 _ h2 hs f2;refine⟨new1++new2,by rw[e3,e1,aD],λrest=> ?_⟩;have⟨v1,e5,e6⟩:=e2<|new2++rest;have⟨v2,e7,e8⟩:=e4 rest;exact⟨v1::v2,by simp only[Nk,aD,e5,zG,e7], .cons e6 e8⟩
end
def uN (c ct:Ctx)(o:OSk)(x:Option Src)(blk:Blk):Prop:=
 (o= .dead/\blk= .dead)∨(blk.frozen=o.ro/\match x with
  |none=>o.ro=Zb/\∃s,blk= .arr s Zb []
  |some ⟨k,e⟩=>(o.ro=Zb->(ae c.S k).frozen=Zb)/\∃d,(ae c.S k).dim=O d/\(match e with
   |none=>blk.dim=O d
   |some n=>blk.dim=O (d.1,min (n*d.1) d.2))/\∀f,F2 (VRel c) (ae c.S k).vals f->F2 (VRel ct) blk.vals (f.take<|b8 blk.vals))
def GV (h:Ui S N o x st=O st1):Sub st st1:=by
 unfold Ui at h;split at h
 .injection h with h;subst h;exact Sub.refl _
 .split at h
  .rename_i es ro l k _ es' fz cs hb;cases d:(aB es es'&&(ro|| !fz))with
   |false=>rw[d]at h;cases h
   |true=>
    rw[d,zC]at h;have e:=tA _ _ _ _ h;cases ro with
    |false=>exact e
    |true=>exact Sub.trans ⟨⟨[],V2⟩,λ_ h=>cB _ h⟩ e
  cases h
 .rename_i ro s;cases ro with
  |true=>cases h
  |false=>cases h;exact⟨⟨[],Z8⟩,λ_ h=>h⟩
 .rename_i ro s k cut;cases d:(ro|| !(ae S k).frozen)with
  |false=>rw[d]at h;cases h
  |true=>
   rw[d,zC]at h;have⟨l,e,f⟩:=ag h;cases f
   cases ro with
   |false=>exact⟨⟨[],Z8⟩,λ_ h=>h⟩
   |true=>exact⟨⟨[],Z8⟩,λ_ h=>cB _ h⟩
 cases h
theorem Ry {f:Nat->Nat}(C:Rel c)(K:Tell c ct N f stf)(h:Ui c.S N o x st=O st1)(T:Sub st1 stf):
  ∃p,st1.ls=st.ls++p/\∀rest,∃blk,Nl f o (p++rest)=O (blk,rest)/\uN c ct o x blk:=by
 unfold Ui at h;split at h
 .injection h with h;subst h
  exact⟨[],V2,λrest=>⟨.dead,by simp[Nl], .inl ⟨rfl,rfl⟩⟩⟩
 .split at h
  .rename_i es ro l k _ es' fz q hb;cases r:(aB es es'&&(ro|| !fz))with
   |false=>rw[r]at h;cases h
   |true=>
    rw[r,zC]at h;rw[cD]at r;have he:=bD r.1;subst he;have u:(ae c.S k).dim=O (es,q.length):=by rw[hb];rfl
    obtain⟨h0,A⟩:=C.blk k _ u
    have D: ∃as,F2 (VRel c) q as:=by
     rcases A with⟨F,M⟩|⟨b,y,as,rest,_,_,_,_,_,v⟩
     .have:q=[]:=aK.1 F;subst this;exact⟨[], .nil⟩
     .rw[hb]at v;exact⟨as,v⟩
    obtain⟨as,D⟩:=D;obtain⟨p,F,M⟩:=vK C K l q _ st1 as h T D;refine⟨p, ?_,λrest=> ?_⟩
    .rw[F];cases ro<;>rfl
    .obtain⟨vs,v,V⟩:=M rest;refine⟨.cells es ro vs,by simp only[Nl,v,zG], .inr ⟨rfl,λg=> ?_,(es,q.length),u, ?_,λE t=> ?_⟩⟩
     .simp only[OSk.ro]at g;subst g;rw[hb];have:=r.2;simp only[Bool.false_or,Bool.not_eq_true']at this;exact this
     .simp only[Blk.dim];rw[V.length,D.length]
     .rw[hb]at t;obtain⟨B,U,H⟩:=vK C K l q _ st1 E h T t
      have:B=p:=by
       simp_all
      subst this;obtain⟨vs',e,z⟩:=H rest;rw[v]at e;injection e with e
      injection e with e _
      subst e;rw[cW (by rw[<-z.length];exact Nat.le_refl _)];exact z
  .cases h
 .rename_i ro s;cases ro with
  |true=>cases h
  |false=>
   injection h with h;subst h
   refine⟨[⟨.list s,[]⟩],rfl,λrest=>⟨.arr s Zb [], ?_, .inr ⟨rfl,rfl,s,rfl⟩⟩⟩;simp only[bB,Nl,kJ,zG]
 .rename_i ro s k cut;cases r:(ro|| !(ae c.S k).frozen)with
  |false=>rw[r]at h;cases h
  |true=>
   rw[r,zC]at h;obtain⟨l,W,I⟩:=ag h;injection I with I;subst I
   obtain⟨d,X,P,Q,Y⟩:=rR (jA C s) W;refine⟨[⟨.list s,Lh cut l⟩],by cases ro<;>rfl,λrest=>⟨.arr s ro<|Lh cut l, ?_, .inr ⟨rfl,λg=> ?_,d,X, ?_,λq L=> ?_⟩⟩⟩
   .simp only[bB,Nl,kJ,zG]
   .simp only[OSk.ro]at g;subst g;simpa using r
   .cases cut with
    |none=>
     simp only[Blk.dim,Lh];rw[<-Q,<-P]
    |some n=>
     simp only[Blk.dim,Lh,cV];rw[Q,P,<-Nat.mul_min_mul_right]
   .have J:=DZ K.toStill<|Y q L;have h8:q.length=l.length*s.w:=by rw[<-J.length,gR]
    cases cut with
    |none=>
     simp only[Blk.vals,Lh];rw[cW (by rw[gR];omega)];exact J
    |some n=>
     simp only[Blk.vals,Lh];have h9:((fh s<|l.take n).length)=min (n*s.w) q.length:=by rw[kU,cV,gR,h8]
     rw[h9,kU,<-List.take_take,List.take_length];exact J.take (n*s.w)
 .cases h
def FW {S:ah}{N:Nat}: ∀{os:List OSk} {js:List Nat} {st st1:DSt},H9 S N os js st=O st1->Sub st st1
 |[],[],st,st1,h=>by cases h;exact Sub.refl _
 |[],_::_,st,st1,h=>by cases h
 |_::_,[],st,st1,h=>by cases h
 |o::os,j::js,st,st1,h=>by
  simp only[H9]at h;have⟨f,d,e⟩:=ag h;exact(GV d).trans<|FW e
def pM {S:ah}{N:Nat}: ∀{os:List OSk} {i:Nat} {st st1:DSt},tz S N os i st=O st1->Sub st st1
 |[],i,st,st1,h=>by
  simp only[tz]at h;cases d:aB i (b8 st.m) with
  |false=>rw[d]at h;cases h
  |true=>rw[d]at h;cases h;exact Sub.refl _
 |o::os,i,st,st1,h=>by
  simp only[tz]at h;split at h
  .obtain⟨g,e,f⟩:=ag h;exact(GV e).trans (pM f)
  .cases h
inductive zg (c ct:Ctx):List OSk->List Nat->List Blk->Prop where
 |nil:zg c ct [] [] []
 |cons {o:OSk} {j:Nat} {b:Blk} {os:List OSk} {js:List Nat} {bs:List Blk}:uN c ct o (O ⟨j,Z⟩) b->zg c ct os js bs->zg c ct (o::os) (j::js) (b::bs)
inductive vy (c ct:Ctx):List OSk->List (Option Src)->List Blk->Prop where
 |nil:vy c ct [] [] []
 |cons {o:OSk} {x:Option Src} {b:Blk} {os:List OSk} {xs:List<|Option Src} {bs:List Blk}:uN c ct o x b->vy c ct os xs bs->vy c ct (o::os) (x::xs) (b::bs)
def Li {N:Nat}{f:Nat->Nat}{stf:DSt}(q:Rel c)(r:Tell c ct N f stf): ∀{os:List OSk} {js:List Nat} {st st1:DSt},H9 c.S N os js st=O st1->Sub st1 stf->
  ∃g,st1.ls=st.ls++g/\∀rest,∃bs,CV f os (g++rest)=O (bs,rest)/\zg c ct os js bs
 |[],[],st,st1,h,e=>by cases h;exact⟨[],V2,λrest=>⟨[],by simp[CV], .nil⟩⟩
 |[],_::_,st,st1,h,e=>by cases h
 |_::_,[],st,st1,h,e=>by cases h
 |o::os,j::js,st,st1,h,e=>by
  simp only[H9]at h;have⟨D,C,p⟩:=ag h;have⟨n,t,u⟩:=Ry q r C<|(FW p).trans e;have⟨d,v,w⟩:=Li q r p e;refine⟨n++d,by rw[v,t,aD],λrest=> ?_⟩;have⟨E,y,z⟩:=u<|d++rest;have⟨F,A,B⟩:=w rest;exact⟨E::F,by simp only[CV,aD,y,zG,A], .cons z B⟩
def Jb {N:Nat}{f:Nat->Nat}{stf:DSt}(v:Rel c)(w:Tell c ct N f stf): ∀{os:List OSk} {i:Nat} {st st1:DSt},tz c.S N os i st=O st1->Sub st1 stf->
  ∃g,st1.ls=st.ls++g/\i+b8 os=b8 st1.m/\∀rest,∃bs,CV f os (g++rest)=O (bs,rest)/\vy c ct os (st1.m.drop i) bs
 |[],i,st,st1,h,t=>by
  simp only[tz]at h;cases r:aB i (b8 st.m) with
  |false=>rw[r]at h;cases h
  |true=>
   rw[r]at h;cases h
   have:=bD r;subst this;exact⟨[],V2,V2,λrest=>⟨[],by simp[CV],by rw[List.drop_length];exact .nil⟩⟩
 |o::os,i,st,st1,h,t=>by
  simp only[tz]at h;split at h
  .rename_i x hx;have⟨I,u,q⟩:=ag h;have⟨n,z,A⟩:=Ry v w u<|(pM q).trans t;have⟨e,B,p,C⟩:=Jb v w q t;refine⟨n++e,by rw[B,z,aD],by rw[<-p];simp;omega,λrest=> ?_⟩;have⟨L,D,E⟩:=A<|e++rest;have⟨M,F,H⟩:=C rest;refine⟨L::M,by simp only[CV,aD,D,zG,F], ?_⟩;have⟨P,J⟩:=(GV u).m;have⟨Q,K⟩:=(pM q).m
   have d:st1.m[i]?=O x:=by
    rw[<-yB,K,J];exact Hj (Hj hx)
   have y:i<b8 st1.m:=by
    omega
   rw[List.drop_eq_getElem_cons y];rw[List.getElem?_eq_getElem y]at d;injection d with d
   rw[d];exact .cons E H
  .cases h
theorem Ib {f:Nat->Nat}(g:Rel c)(n:Tell c ct N f st)(h:mS c.S N fx sk vals=O st)(J:F2 (VRel c) vals as):
  ∃vs fs bs,ot f sk st.ls=O (vs,fs,bs)/\F2 (VRel ct) vs as/\zg c ct sk.fix fx fs/\vy c ct sk.free st.m bs:=by
 unfold mS at h;obtain⟨st1,I,h⟩:=ag h;obtain⟨L,u,h⟩:=ag h;obtain⟨d,e,h⟩:=ag h
 have:d=st:=by
  grind
 subst this;have⟨K,w,A⟩:=vK g n _ _ _ _ _ I ((FW u).trans<|pM e) J;have⟨v,y,B⟩:=Li g n u<|pM e;have⟨q,z,M,C⟩:=Jb g n e<|Sub.refl _;have⟨vs,D,E⟩:=A<|v++q;have⟨fs,F,H⟩:=B q;have⟨bs,r,t⟩:=C [];refine⟨vs,fs,bs, ?_,E,H,by rw[List.drop_zero]at t;exact t⟩;have p:d.ls=K++(v++q):=by rw[z,y,w];simp
 rw[List.append_nil]at r;simp only[ot,p,D,zG,F,r]
theorem pN (h:mS S N fx sk vals=O st):NC (fx++rB st.m)=Za/\Lx (fx++lq sk.free st.m) st.lent=Za:=by
 unfold mS at h;obtain⟨st1,f,h⟩:=ag h;obtain⟨d,g,h⟩:=ag h;obtain⟨e,n,h⟩:=ag h
 grind
def EU : ∀{f:List Sh} {ls:List Leaf} {t:B8 f},QO f ls=O t->Qv f t=ls
 |[],ls,t,h=>by
  cases ls with
  |nil=>rfl
  |cons=>simp[QO]at h
 |[s],ls,t,h=>by
  cases ls with
  |nil=>simp[QO]at h
  |cons x ls=>
   cases ls with
   |nil=>
    simp only[QO]at h;have⟨d,e⟩:=kL h;have⟨p,v⟩:=x;simp only at d;subst d;subst e;rfl
   |cons=>simp[QO]at h
 |s::p::r,ls,t,h=>by
  cases ls with
  |nil=>simp[QO]at h
  |cons x ls=>
   simp only[QO]at h;obtain⟨a,e,h⟩:=ag h;obtain⟨b,g,h⟩:=ag h;cases h;have⟨d,n⟩:=kL e;have⟨q,v⟩:=x;simp only at d;subst d;subst n;simp only[Qv];rw[EU g]
end
end
section
open List renaming getElem?_eq_getElem->aB,replicate->aD,all_eq_true->bB,mem_cons_self->bD,nodup_cons->cB
open Nat renaming le_add_right->cD,lt_of_lt_of_le->cV
def Bo (c:Ctx):Option Src->Option Nat
 |none=>Z
 |some x=>c.μ x.k
theorem zg.get : ∀{os:List OSk} {js:List Nat} {bs:List Blk},zg c ct os js bs->b8 js=b8 bs/\b8 os=b8 bs/\∀(i j:Nat) (b:Blk),js[i]?=O j->bs[i]?=O b->∃o,os[i]?=O o/\uN c ct o (O ⟨j,Z⟩) b
 |_,_,_, .nil=>⟨rfl,rfl,λi j b h=>by simp at h⟩
 |_,_,_, .cons n d=>by
  have⟨e,f,g⟩:=d.get
  grind
theorem vy.get : ∀{os:List OSk} {xs:List<|Option Src} {bs:List Blk},vy c ct os xs bs->b8 xs=b8 bs/\b8 os=b8 bs/\∀(i:Nat) (x:Option Src) (b:Blk),xs[i]?=O x->bs[i]?=O b->∃o,os[i]?=O o/\uN c ct o x b
 |_,_,_, .nil=>⟨rfl,rfl,λi j b h=>by simp at h⟩
 |_,_,_, .cons n d=>by
  have⟨e,f,g⟩:=d.get
  grind
theorem uN.blkRel (T:Rel c)(U:ct.σ=c.σ){p:Nat}(h:uN c ct o x b)(B:ae ct.S p=b)(H:b.dim≠Z->ct.μ p=Bo c x):Ks ct p:=by
 intro t e;rw[B]at e;have f:ct.μ p=Bo c x:=H (by rw[e];simp);clear H;rcases h with⟨_,h⟩|⟨K,C⟩
 .subst h;cases e
 cases x with
 |none=>
  have⟨_,s,A⟩:=C;subst A;cases e;exact⟨mX s, .inl ⟨V2,by simpa[Bo]using f⟩⟩
 |some x=>
  have⟨k,J⟩:=x;have⟨A,d,L,V,M⟩:=C;simp only[Bo]at f;have⟨P,Q⟩:=T.blk k d L
  have n:t.1=d.1/\t.2<=d.2:=by
   grind
  refine⟨by rw[n.1];exact P, ?_⟩;rcases Q with⟨D,g⟩|⟨I,y,r,q,D,g,u,v,w,z⟩
  .exact .inl ⟨V1,f.trans g⟩
  have E:b8 b.vals=t.2:=Cc e;refine .inr ⟨I,y,r.take<|b8 b.vals,r.drop (b8 b.vals)++q,f.trans D,by rw[U];exact g,by rw[n.1];exact u,λF=> ?_,by rw[<-List.append_assoc,List.take_append_drop];exact w, ?_⟩
  .rw[B,K]at F;exact v (A F)
  rw[B];exact M r z
theorem Vu (f:Nat->Nat): ∀n,∃K,∀j,j<n->f j<K
 |0=>⟨0,λj h=>by omega⟩
 |n+1=>by
  have⟨K,h⟩:=Vu f n;refine⟨max K<|f n+1,λj d=> ?_⟩
  grind
def Ei {n:Nat}:ae (aD n Blk.dead) k= .dead:=by
 induction n generalizing k with
 |zero=>rfl
 |succ n d=>
  cases k with
  |zero=>rfl
  |succ k=>exact d
theorem NU {f:Nat->Nat}(t:Rel c)(h:mS c.S N fx sk vals=O st)(v:F2 (VRel c) vals as):
  ∃e vs fs bs,ot f sk st.ls=O (vs,fs,bs)/\zg c e sk.fix fx fs/\vy c e sk.free st.m bs:=by
 have⟨K,r⟩:=Vu f (N+b8 st.m)
 have u:Tell c ⟨λ_=>Z,aD K .dead,c.σ,λ_=>False⟩ N f st:=by
  have n: ∀b,¬(⟨λ_=>Z,aD K .dead,c.σ,λ_=>False⟩:Ctx).mut b:=by
   rintro b (⟨k,d,_⟩|h)
   .simp only[Ei]at d;cases d
   .exact h
  refine⟨⟨rfl,λb _ _ _=>n b⟩,λj x w=>⟨?_,λy g=> ?_⟩,λk _ _ b _=>n b⟩
  .simp only[List.length_replicate];refine r j ?_;rcases w with⟨d,_⟩|⟨d,p⟩
   .omega
   .rw[yB]at p
    grind
  .simp only[Ei]at g;cases g
 have⟨vs,fs,bs,d,_,p,q⟩:=Ib t u h v;exact⟨_,vs,fs,bs,d,p,q⟩
theorem kW :lB k l=Za↔k∈l:=by
 induction l with
 |nil=>simp[lB]
 |cons a l d=>
  simp only[lB,List.mem_cons];cases h:Nat.beq a k with
  |true=>
   simp_all
  |false=>
   have:a≠k:=by rintro rfl;rw[Nat.beq_refl]at h;cases h
   grind
def pL :NC l=Za->l.Nodup:=by
 induction l with
 |nil=>intro _;exact List.nodup_nil
 |cons a l f=>
  intro h;simp only[NC]at h;cases d:lB a l with
  |true=>rw[d]at h;cases h
  |false=>
   rw[d]at h;refine aJ.2 ⟨λe=> ?_,f h⟩;rw[kW.2 e]at d;cases d
def Ly {w:List Nat}(h:Lx w l=Za)(e:k∈w):k∉l:=by
 intro d;simp only[Lx,bB]at h;have:=h k e;rw[kW.2 d]at this;cases this
def yx {x:Src}(h:m[i]?=O (O x)):x.k∈rB m:=by
 induction m generalizing i with
 |nil=>simp at h
 |cons a m d=>
  cases i with
  |zero=>
   simp at h;subst h;exact bD
  |succ i=>
   simp at h;have:=d h;cases a with
   |none=>exact this
   |some a=>exact List.mem_cons_of_mem _ this
def G9 (d:(rB m).Nodup){x y:Src}(h:m[i]?=O (O x))(f:m[j]?=O (O y))(e:x.k=y.k):i=j:=by
 induction m generalizing i j with
 |nil=>simp at h
 |cons a m p=>
  cases i with
  |zero=>
   simp at h;subst h;cases j with
   |zero=>rfl
   |succ j=>
    simp at f;have g:=yx f;simp only[rB,cB]at d;rw[e]at d;exact(d.1 g).elim
  |succ i=>
   simp at h;cases j with
   |zero=>
    simp at f;subst f;have g:=yx h;simp only[rB,cB]at d;rw[<-e]at d;exact(d.1 g).elim
   |succ j=>
    simp at f
    have n:(rB m).Nodup:=by
     cases a with
     |none=>exact d
     |some a=>exact(aJ.1 d).2
    rw[p n h f]
theorem HH {os:List OSk}{x:Src}(h:m[i]?=O (O x))(d:os[i]?=O o)(e:o.ro=Zb):x.k∈lq os m:=by
 induction m generalizing os i with
 |nil=>simp at h
 |cons a m f=>
  cases os with
  |nil=>simp at d
  |cons g os=>
   cases i with
   |zero=>
    simp at h d;subst h;subst d;simp only[lq,e,zD];exact bD
   |succ i=>
    simp at h d;have:=f h d;cases a with
    |none=>exact this
    |some a=>
     simp only[lq]
     grind
def aQ3 (h:b.may=Za)(e:b.dim≠Z)(d:b.frozen=Za):False:=by
 cases b with
 |dead=>exact e rfl
 |cells f z l=>simp only[Blk.may,Blk.frozen]at h d;rw[d]at h;cases h
 |arr s z l=>simp only[Blk.may,Blk.frozen]at h d;rw[d]at h;cases h
def VP (h:sk.noRo=Za):sk.fxRo=Za:=by
 unfold tR.noRo at h;rw[Bool.and_eq_true]at h;exact h.1
structure GT (c c' ct:Ctx)(N:Nat)(f:Nat->Nat)(fx:List Nat)(sk:tR)(st:DSt)(fs bs:List Blk):Prop where
 σ:ct.σ=c'.σ
 fb:ct.fb=c.fb
 len:b8 ct.S=b8 c.S+b8 bs
 oth: ∀k,k<b8 c.S->(∀j,j∈fx->f j≠k)->ae ct.S k=ae c.S k∨ae ct.S k=(ae c.S k).freeze∨(ae ct.S k= .dead/\(ae c.S k).frozen=Zb)
 fix: ∀(i j:Nat) (b:Blk),fx[i]?=O j->fs[i]?=O b->ae ct.S (f j)=b
 fixlt: ∀j,j∈fx->f j<b8 c.S
 free: ∀(i:Nat) (b:Blk),bs[i]?=O b->ae ct.S (b8 c.S+i)=b
 fN: ∀i,f (N+i)=b8 c.S+i
 μo: ∀k,k<b8 c.S->ct.μ k=c.μ k
 μn: ∀(i:Nat) (x:Option Src),st.m[i]?=O x->ct.μ (b8 c.S+i)=Bo c' x
 un: ∀b y,c.σ.m b=O y->¬c.own b->c'.σ.m b=O y
 ow: ∀b y,c.σ.m b=O y->¬c.own b->¬c'.own b
 n:c.σ.n<=c'.σ.n
 oun: ∀k,k<b8 c.S->(∀j,j∈fx->f j≠k)->(ae ct.S k).dim≠Z->∀b y,c.μ k=O b->c.σ.m b=O y->c'.σ.m b=O y
 odis: ∀k,k<b8 c.S->(∀j,j∈fx->f j≠k)->(ae ct.S k).dim≠Z->∀s,(s∈fx∨s∈rB st.m)->(ae c'.S s).frozen=Zb->∀b,c'.μ s=O b->c.μ k≠O b
 wr: ∀j,j∈fx->(ae c'.S j).dim≠Z->(ae c.S<|f j).dim=(ae c'.S j).dim/\c'.μ j=c.μ (f j)/\∀b y,c.μ (f j)=O b->c.σ.m b=O y->∃y',c'.σ.m b=O y'/\b8 y'.cells=b8 y.cells
 wrz: ∀j,j∈fx->(ae c.S<|f j).may=Za
 finj: ∀j j',j∈fx->j'∈fx->f j=f j'->j=j'
 fbk: ∀k b,(ae c'.S k).dim≠Z->c'.μ k=O b->¬c.fb b
 lk: ∀j,j<N->j∉fx->Lk c' ct (O ⟨j,Z⟩) (f j)
 onm: ∀k,k<b8 c.S->(∀j,j∈fx->f j≠k)->(ae ct.S k).frozen=Zb->∀b y,c.μ k=O b->c'.σ.m b=O y->c'.mut b
 olent: ∀k,k<b8 c.S->(∀j,j∈fx->f j≠k)->(ae ct.S k).frozen=Zb->∀s,s∈st.lent->(ae c'.S s).dim≠Z->∀b,c'.μ s=O b->c.μ k≠O b
 fbm: ∀b,c.fb b->c'.mut b
 fxN: ∀j,j∈fx->j<N
 noro:sk.fxRo=Za
 roz:sk.noRo=Za∨∀k,k<b8 c.S->(∀j,j∈fx->f j≠k)->(ae ct.S k).dim≠Z->(ae ct.S k).frozen=Za
theorem GT.all {f:Nat->Nat}(g:GT c c' ct N f fx sk st fs bs)(hR:Rel c)(I:Rel c')(hd:mS c'.S N fx sk vals=O st)
  (he:ot f sk st.ls=O (vs,fs,bs)) (hf:F2 (VRel c') vals as):Le c ct/\Rel ct/\F2 (VRel ct) vs as:=by
 have⟨ct0,vs0,fs0,bs0,p1,p2,p3⟩:=NU (f:=f) I hd hf;rw[he]at p1;injection p1 with p1
 injection p1 with K p1
 injection p1 with L W
 subst K;subst L;subst W;have⟨ap1,ap2⟩:=pN hd;have hnd:=pL ap1;rw[List.nodup_append]at hnd;have⟨nd1,nd2,nd3⟩:=hnd;have⟨x1,x2,x3⟩:=p2.get;have⟨y1,y2,y3⟩:=p3.get;have hro:=g.noro;unfold tR.fxRo at hro;rw[bB]at hro
 have nro: ∀(i:Nat) (o:OSk),sk.fix[i]?=O o->o.ro=Zb:=by
  grind
 have nro2: ∀(i:Nat) (o:OSk),sk.noRo=Za->sk.free[i]?=O o->o.ro=Zb:=by
  intro i o T h;unfold tR.noRo at T
  grind
 have U: ∀j,j∈fx->∃(i:Nat) (b:Blk) (o:OSk),fx[i]?=O j/\fs[i]?=O b/\sk.fix[i]?=O o/\ae ct.S (f j)=b/\uN c' ct0 o (O ⟨j,Z⟩) b:=by
  intro j v;have⟨i,C,e⟩:=List.mem_iff_getElem.1 v;have h1:fx[i]?=O j:=by rw[aB C,e]
  have q:i<b8 fs:=by rw[<-x1];exact C
  have⟨o,r,t⟩:=x3 i j _ h1<|aB q;exact⟨i,fs[i],o,h1,aB q,r,g.fix i j _ h1<|aB q,t⟩
 have B: ∀i,i<b8 bs->∃(b:Blk) (x:Option Src) (o:OSk),st.m[i]?=O x/\bs[i]?=O b/\sk.free[i]?=O o/\ae ct.S (b8 c.S+i)=b/\ct.μ (b8 c.S+i)=Bo c' x/\uN c' ct0 o x b:=by
  intro i C;have q:i<b8 st.m:=by rw[y1];exact C
  have⟨o,r,t⟩:=y3 i _ _ (aB q)<|aB C;exact⟨bs[i],st.m[i],o,aB q,aB C,r,g.free i _<|aB C,g.μn i _<|aB q,t⟩
 have D: ∀k,(ae ct.S k).dim≠Z->(∃j,j∈fx/\f j=k)∨(k<b8 c.S/\(∀j,j∈fx->f j≠k))∨(∃i,i<b8 bs/\k=b8 c.S+i):=by
  intro k z;have hl:=kG z;rw[g.len]at hl;by_cases h1:k<b8 c.S
  .by_cases q: ∃j,j∈fx/\f j=k
   .exact .inl q
   grind
  .exact .inr (.inr ⟨k-b8 c.S,V1,V1⟩)
 have F: ∀j,j∈fx->∀d,(ae ct.S<|f j).dim=O d->(ae c'.S j).dim=O d/\(ae c'.S j).frozen=Zb/\(ae c.S<|f j).dim=O d/\c'.μ j=c.μ (f j):=by
  intro j v d p;have⟨i,b,o,h1,q,r,t,w⟩:=U j v;rw[t]at p;rcases w with⟨_,w⟩|⟨w,P,d0,h7,h8,h9⟩
  .subst w;cases p
  .simp only at h8;rw[h8]at p;cases p;have⟨w1,w2,_⟩:=g.wr j v (by rw[h7];simp)
   grind
 have found: ∀i,i<b8 bs->∀d,(ae ct.S<|b8 c.S+i).dim=O d->(∃x,st.m[i]?=O (O x)/\((ae ct.S<|b8 c.S+i).frozen=Zb∨sk.noRo=Za->(ae c'.S x.k).frozen=Zb)/\(ae c'.S x.k).dim≠Z/\ct.μ (b8 c.S+i)=c'.μ x.k)∨ct.μ (b8 c.S+i)=Z:=by
  intro i C d p;have⟨b,x,o,h1,q,r,t,w,P⟩:=B i C;rw[t]at p;rcases P with⟨_,P⟩|⟨P,h7⟩
  .subst P;cases p
  .cases x with
   |none=>exact .inr w
   |some x=>
    have⟨k,cut⟩:=x;obtain⟨h7,d2,h8,_⟩:=h7;refine .inl ⟨_,h1,λhz=>h7 ?_,by rw[h8];simp,w⟩
    grind
 have A: ∀k b,(ae ct.S k).dim≠Z->ct.μ k=O b->(k<b8 c.S/\(∀j,j∈fx->f j≠k)/\c.μ k=O b)∨
   ∃s,(s∈fx∨s∈rB st.m)/\((ae ct.S k).frozen=Zb∨sk.noRo=Za->(ae c'.S s).frozen=Zb)/\(ae c'.S s).dim≠Z/\c'.μ s=O b/\((s∈fx/\k=f s)∨∃i x,st.m[i]?=O (O x)/\x.k=s/\k=b8 c.S+i):=by
  intro k b z H;cases Q:(ae ct.S k).dim with
  |none=>exact(z Q).elim
  |some d=>
   rcases D k z with⟨j,v,rfl⟩|⟨h1,q⟩|⟨i,C,rfl⟩
   .obtain⟨h1,q,r,t⟩:=F j v d Q;exact .inr ⟨j, .inl v,λ_=>q,by rw[h1];simp,by rw[t,<-g.μo _ (g.fixlt j v)];exact H, .inl ⟨v,rfl⟩⟩
   .exact .inl ⟨h1,q,by rw[<-g.μo k h1];exact H⟩
   .rcases found i C d Q with⟨x,h1,q,h2',r⟩|h1
    .exact .inr ⟨x.k, .inr<|yx h1,q,h2',by rw[<-r];exact H, .inr ⟨i,x,h1,rfl,rfl⟩⟩
    .rw[h1]at H;cases H
 have u: ∀k,k<b8 c.S->(∀j,j∈fx->f j≠k)->(ae ct.S k).dim≠Z->(ae ct.S k=ae c.S k∨ae ct.S k=(ae c.S k).freeze):=by
  intro k h1 q r;rcases g.oth k h1 q with h|h|⟨h,_⟩
  .exact .inl h
  .exact .inr h
  .rw[h]at r;exact(r rfl).elim
 have V: ∀k,k<b8 c.S->(∀j,j∈fx->f j≠k)->(ae ct.S k).frozen=Zb->ae ct.S k=ae c.S k:=by
  intro k h1 q r;rcases u k h1 q (mw r)with h|h
  .exact h
  .rw[h,kN]at r;cases r
 have hle:Le c ct:=by
  refine⟨by rw[g.len];exact cD _ _,λk d z p=>⟨?_,g.μo k z⟩,λk hz E=> ?_,λk d b y z p H hy=> ?_,λb y hy T=>by rw[g.σ];exact g.un b y hy T,λb y hy T=> ?_,by rw[g.σ];exact g.n,g.fb⟩
  .rcases D k Zx with⟨j,v,rfl⟩|⟨h1,q⟩|⟨i,C,rfl⟩
   .exact(F j v d p).2.2.1
   .rcases u k h1 q Zx with h|h
    .rw[<-h];exact p
    .rw[h,gy]at p;exact p
   .omega
  .have z:=kG E;by_cases q: ∃j,j∈fx/\f j=k
   .obtain⟨j,v,rfl⟩:=q;exact(aQ3 (g.wrz j v) E hz).elim
   .rcases g.oth k z (λj v e=>q ⟨j,v,e⟩)with h|h|⟨_,h⟩
    .exact h
    .rw[h,AZ hz]
    .rw[h]at hz;cases hz
  .rw[g.σ];rcases D k Zx with⟨j,v,rfl⟩|⟨h1,q⟩|⟨i,C,rfl⟩
   .obtain⟨h1,q,r,t⟩:=F j v d p;exact(g.wr j v (by rw[h1];simp)).2.2 b y H hy
   .exact⟨y,g.oun k h1 q Zx b y H hy,rfl⟩
   .omega
  .rintro⟨k,h1,q⟩;rcases A k b (mw h1) q with⟨r,t,w⟩|⟨s,r,t,_,w,_⟩
   .exact T ⟨k,by rw[<-V k r t h1];exact h1,w⟩
   .exact g.ow b y hy T ⟨s,t<|.inl h1,w⟩
 have hT:Tell c' ct N f st:=by
  have hsp: ∀k b,(ae ct.S k).frozen=Zb->ct.μ k=O b->(k<b8 c.S/\(∀j,j∈fx->f j≠k)/\c.μ k=O b)∨∃s,(s∈fx∨s∈lq sk.free st.m)/\(ae c'.S s).frozen=Zb/\c'.μ s=O b:=by
   intro k b h1 q;rcases A k b (mw h1) q with h|⟨s,r,t,_,w,P⟩
   .exact .inl h
   .refine .inr ⟨s, ?_,t<|.inl h1,w⟩;rcases P with⟨P,_⟩|⟨i,x,P,h7,h8⟩
    .exact .inl P
    .refine .inr ?_
     have C:i<b8 bs:=by
      grind
     have⟨b',x',o,K,L,W,X,q5,M⟩:=B i C;rw[<-h7];refine HH P W ?_;rcases M with⟨M,_⟩|⟨M,_⟩
     .rw[M];rfl
     .rw[<-M,<-X,<-h8];exact h1
  refine⟨⟨g.σ,λb y hy T=> ?_⟩,λj x hl=> ?_,λs hs hsd b H=> ?_⟩
  .rintro(⟨k,h1,q⟩|h)
   .rcases hsp k b h1 q with⟨r,t,w⟩|⟨s,r,t,w⟩
    .exact T (g.onm k r t h1 b y w hy)
    .exact T (.inl ⟨s,t,w⟩)
   .rw[g.fb]at h;exact T (g.fbm b h)
  .rcases hl with⟨h1,rfl⟩|⟨h1,q⟩
   .by_cases v:j∈fx
    .refine⟨by rw[g.len];exact cV (g.fixlt j v)<|cD _ _,λd' p=> ?_⟩;have⟨K,L,W,X⟩:=F j v d' p;exact⟨d',K,rfl,by rw[g.μo _<|g.fixlt j v,X],rfl⟩
    .exact g.lk j h1 v
   .rw[yB]at q
    have C:j-N<b8 bs:=by
     grind
    have hfj:f j=b8 c.S+(j-N):=by rw[<-g.fN];congr 1;omega
    rw[hfj];refine⟨by rw[g.len];omega,λd' p=> ?_⟩;have⟨b,x',o,K,L,W,X,q5,M⟩:=B (j-N) C;rw[q]at K;cases K;rw[X]at p;rcases M with⟨_,M⟩|⟨M,q7⟩
    .subst M;cases p
    .cases x with
     |none=>
      have⟨_,s,q8⟩:=q7;subst q8;cases p;exact⟨V2,q5⟩
     |some x=>
      have⟨k,cut⟩:=x;have⟨q8,d,q9,q10,q11⟩:=q7;refine⟨d,q9, ?_⟩;cases cut with
      |none=>
       simp only at q10;rw[q10]at p;cases p;exact⟨rfl,q5,rfl⟩
      |some n=>
       simp only at q10;rw[q10]at p;cases p;exact⟨rfl,q5,rfl⟩
  .rintro(⟨k,h1,q⟩|h)
   .rcases hsp k b h1 q with⟨r,t,w⟩|⟨s',r,t,w⟩
    .exact g.olent k r t h1 s hs hsd b H w
    .have:=I.inj s' s b t hsd w H;subst this;exact Ly ap2 (aF.2 r) hs
   .rw[g.fb]at h;exact g.fbk s b hsd H h
 have⟨vs1,fs1,bs1,r1,r2,r3,r4⟩:=Ib I hT hd hf;rw[he]at r1;injection r1 with r1
 injection r1 with e1 r1
 injection r1 with e2 e3
 subst e1;subst e2;subst e3;have⟨_,_,x4⟩:=r3.get;have⟨_,_,y4⟩:=r4.get;refine⟨hle,⟨by rw[g.σ];exact I.ok,λk k' b z J H hm'=> ?_,λk=> ?_,λk b z H hb=> ?_,λb hb=> ?_⟩,r2⟩
 .rcases A k b (mw z) H with⟨h1,q,r⟩|⟨s,h1,q,_,r,t⟩
  .rcases A k' b J hm' with⟨g1,g2,g3⟩|⟨s',g1,g2,_,g3,Y⟩
   .refine hR.inj k k' b (by rw[<-V k h1 q z];exact z) ?_ r g3;rcases u k' g1 g2 J with h|h
    .rw[<-h];exact J
    .rw[h,gy]at J;exact J
   .rcases g.roz with T|hz
    .exact(g.odis k h1 q (mw z) s' g1 (g2<|.inr T) b g3 r).elim
    .rw[hz k h1 q<|mw z]at z;cases z
  .rcases A k' b J hm' with⟨g1,g2,g3⟩|⟨s',g1,_,g2,g3,Y⟩
   .exact(g.odis k' g1 g2 J s h1 (q<|.inl z) b r g3).elim
   .have:=I.inj s s' b (q<|.inl z) g2 r g3;subst this;rcases t with⟨t,w⟩|⟨i,x,t,w,P⟩
    .rcases Y with⟨Y,g5⟩|⟨i',x',Y,g5,g6⟩
     .rw[w,g5]
     .subst g5;exact(nd3 _ t _ (yx Y) rfl).elim
    .rcases Y with⟨Y,g5⟩|⟨i',x',Y,g5,g6⟩
     .subst w;exact(nd3 _ Y _ (yx t) rfl).elim
     .rw[P,g6,G9 nd2 t Y<|w.trans g5.symm]
 .by_cases E:(ae ct.S k).dim=Z
  .intro d p;rw[E]at p;cases p
  .rcases D k E with⟨j,v,rfl⟩|⟨h1,q⟩|⟨i,C,rfl⟩
   .obtain⟨i,b,o,K,L,W,X,q5⟩:=U j v;have⟨o',M,q7⟩:=x4 i j b K L;refine q7.blkRel I g.σ X λhb=> ?_
    cases Q:(ae ct.S<|f j).dim with
    |none=>exact(E Q).elim
    |some d=>
     have⟨_,_,_,q8⟩:=F j v d Q;rw[g.μo _<|g.fixlt j v,<-q8];rfl
   .intro d p;have r:=u k h1 q E
    have hdc:(ae c.S k).dim=O d:=by
     rcases r with h|h
     .rw[<-h];exact p
     .rw[h,gy]at p;exact p
    have hvc:(ae ct.S k).vals=(ae c.S k).vals:=by
     rcases r with h|h
     .rw[h]
     .rw[h,Js]
    have⟨K,L⟩:=hR.blk k d hdc;refine⟨K, ?_⟩;rcases L with⟨L,W⟩|⟨b,y,cs,rest,L,W,X,q5,M,q7⟩
    .exact .inl ⟨L,(g.μo k h1).trans W⟩
    .refine .inr ⟨b,y,cs,rest,(g.μo k h1).trans L,by rw[g.σ];exact g.oun k h1 q E b y L W,X,λhz=> ?_,M,by rw[hvc];exact VRel.frames hle q7⟩
     grind
   .obtain⟨b,x,o,K,L,W,X,q5,M⟩:=B i C;have⟨o',q7,q8⟩:=y4 i x b K L;exact q8.blkRel I g.σ X λ_=>q5
 .rw[g.fb]at hb;rcases A k b z H with⟨h1,q,r⟩|⟨s,h1,_,q,r,_⟩
  .refine hR.fbk k b ?_ r hb;rcases u k h1 q z with h|h
   .rw[<-h];exact z
   .rw[h,gy]at z;exact z
  .exact g.fbk s b q r hb
 .rw[g.fb]at hb;rw[g.σ];exact cV (hR.fbl b hb) g.n
end
section
open Bool renaming or_eq_false_iff->aB
open List renaming cons_append->bB,length_append->bD,mem_of_getElem?->cB,nodup_append->cD
open Nat renaming zero_add->aD
def mt {fx mov:List Nat}{fz:Bool}: ∀{S:ah} {i:Nat},b8 (kl fx mov fz i S)=b8 S
 |[],_=>rfl
 |_::r,i=>by simp[kl,mt (S:=r)]
def mr {fx mov:List Nat}{fz:Bool}: ∀{S:ah} {i k:Nat},k<b8 S->ae (kl fx mov fz i S) k=cond (lB (i+k) mov) (cond (ae S k).frozen (ae S k) .dead) (cond (lB (i+k) fx) (ae S k)<|cond fz (ae S k).freeze<|ae S k)
 |[],_,_,h=>by simp at h
 |b::r,i,0,_=>rfl
 |b::r,i,k+1,h=>by
  have:=mr (fx:=fx) (mov:=mov) (fz:=fz) (S:=r) (i:=i+1) (k:=k) V6;rw[show i+1+k=i+(k+1)by omega]at this;exact this
theorem kA : ∀{js:List Nat} {bs:List Blk} {S S':ah},vX js bs S=O S'->b8 js=b8 bs/\b8 S'=b8 S/\(∀k,k∉js->ae S' k=ae S k)/\
  (js.Nodup->∀(i j:Nat) (b:Blk),js[i]?=O j->bs[i]?=O b->j<b8 S->ae S' j=b)
 |[],[],S,S',h=>by
  cases h
  grind
 |[],_::_,S,S',h=>by cases h
 |_::_,[],S,S',h=>by cases h
 |j::js,b::bs,S,S',h=>by
  simp only[vX]at h;have⟨t,u,n,v⟩:=kA h;refine⟨by simp[t],by rw[u,yF],λk p=> ?_,λg i w r f d q=> ?_⟩
  .rw[n k<|λe=>p<|List.mem_cons_of_mem _ e];exact aE6 (λe=>p (by rw[e];exact List.mem_cons_self))
  .rw[List.nodup_cons]at g;cases i with
   |zero=>
    simp at f d;subst f;subst d;rw[n j g.1];exact WK q
   |succ i=>
    simp at f d;exact v g.2 i w r f d (by rw[yF];exact q)
def vU : ∀{l:List Blk} {i:Nat} {b:Blk},l[i]?=O b->ae l i=b
 |[],i,b,h=>by simp at h
 |a::l,0,b,h=>by simpa[ae]using h
 |a::l,i+1,b,h=>vU (l:=l) V6
structure Within (c c1:Ctx)(fx mov:List Nat):Prop where
 le:Le c c1
 fr: ∀k,k<b8 c.S->k∉fx->(k∉mov∨(ae c.S k).frozen=Za)->ae c1.S k=(ae c.S k).freeze
 un: ∀k,k<b8 c.S->k∉fx->(k∉mov∨(ae c.S k).frozen=Za)->(ae c.S k).dim≠Z->∀b y,c.μ k=O b->c.σ.m b=O y->c1.σ.m b=O y
theorem md (h:JO S fx=Za)(d:j∈fx):j<b8 S/\(ae S j).may=Za:=by
 simp only[JO,List.all_eq_true,Bool.and_eq_true]at h
 simp_all
def kV (h:k∉l):lB k l=Zb:=by
 cases d:lB k l with
 |false=>rfl
 |true=>exact(h<|kW.1 d).elim
def GN {fz:Bool}(h:k<b8 S)(g:k∉fx)(d:(ae (kl fx mov fz 0 S) k).dim≠Z):(k∉mov∨(ae S k).frozen=Za)/\ae (kl fx mov fz 0 S) k=cond fz (ae S k).freeze (ae S k):=by
 rw[mr h,aD,kV g]at d⊢;by_cases e:k∈mov
 .rw[kW.2 e]at d⊢;cases f:(ae S k).frozen with
  |false=>rw[f]at d;exact(d rfl).elim
  |true=>exact⟨.inr rfl,by cases fz<;>simp[AZ f]⟩
 rw[kV e];exact⟨.inl e,rfl⟩
theorem leave (hR:Rel c)(I:Rel c')(W:Within c c1 fx mov)(hR1:Rel c1)(J:Le c1 c')
  (B:JO c.S fx=Za) (hro:sk.fxRo=Za) (hd:mS c'.S (b8 c.S) fx sk vals=O st) (he:ot id sk st.ls=O (vs,fs,bs)) (hf:F2 (VRel c') vals as) (hS:vX fx fs (kl fx mov Za 0 c.S)=O S'):
  ∃ct:Ctx,ct.σ=c'.σ/\ct.S=S'++bs/\ct.fb=c.fb/\(∀k,k<b8 c.S->ct.μ k=c.μ k)/\Le c ct/\Rel ct/\F2 (VRel ct) vs as/\
   (∀k,k<b8 c.S->k∉fx->(ae ct.S k).dim≠Z->(k∉mov∨(ae c.S k).frozen=Za)/\∀b y,c.μ k=O b->c.σ.m b=O y->ct.σ.m b=O y):=by
 have⟨s1,X,s3,s4⟩:=kA hS;rw[mt]at X s4;have⟨ap1,_⟩:=pN hd;have V:=pL ap1;rw[cD]at V;have⟨nd1,_,_⟩:=V;have t:=W.le.trans J;have P:c'.fb=c.fb:=t.fb
 let ct:Ctx:=⟨λi=>if i<b8 c.S then c.μ i else match st.m[i-b8 c.S]? with
  |some x=>Bo c' x
  |none=>Z,S'++bs,c'.σ,c.fb⟩
 have Q: ∀k,k<b8 c.S->ae ct.S k=ae S' k:=λk h=>mV (by rw[X];exact h)
 have F: ∀k,k<b8 c.S->k∉fx->ae ct.S k=ae (kl fx mov Za 0 c.S) k:=λk h q=>by rw[Q k h,s3 k q]
 have p: ∀k,k<b8 c.S->k∉fx->(ae ct.S k).dim≠Z->(k∉mov∨(ae c.S k).frozen=Za)/\ae ct.S k=(ae c.S k).freeze/\ae c'.S k=(ae c.S k).freeze/\c'.μ k=c.μ k/\(ae c.S k).dim≠Z:=by
  intro k h q f;rw[F k h q]at f⊢;have⟨z,v⟩:=GN h q f;have C:=W.fr k h q z;rw[v]at f;simp only[zC]at f v;rw[gy]at f
  have D:ae c'.S k=(ae c.S k).freeze:=by
   rw[J.fz k (by rw[C,kN]) (by rw[C,gy];exact f),C]
  refine⟨z,v,D, ?_,f⟩;cases r:(ae c.S k).dim with
  |none=>exact(f r).elim
  |some d=>exact(t.al k d h (by rw[D,gy];exact r)).2
 have H: ∀k,k<b8 c.S->k∉fx->(ae ct.S k).dim≠Z->∀b y,c.μ k=O b->c.σ.m b=O y->c'.σ.m b=O y:=by
  intro k h q f b y u L;have⟨z,v,C,D,E⟩:=p k h q f;have h6:=W.un k h q z E b y u L;have h7:=W.fr k h q z
  have T:c1.μ k=O b:=by
   cases r:(ae c.S k).dim with
   |none=>exact(E r).elim
   |some d=>rw[(W.le.al k d h (by rw[h7,gy];exact r)).2];exact u
  have h8: ¬c1.mut b:=hR1.fz_mut (by rw[h7,kN]) (by rw[h7,gy];exact E) T;exact J.un b y h6 λe=>h8 (.inl e)
 have g:GT c c' ct (b8 c.S) id fx sk st fs bs:=by
  refine⟨rfl,rfl,by simp[ct,X],λk h q=> ?_,λi j b hi Y=> ?_,λj A=>(md B A).1,λi b Y=> ?_,λ_=>rfl,λk h=>zE h,λi x hx=> ?_,t.un,t.ow,t.n,λk h q f b y u L=> ?_,λk h q f s hs w b u e=> ?_,λj A f=> ?_,λj A=>(md B A).2,
   λ_ _ _ _ e=>e,λk b f u=> ?_,λj A q=> ?_,λk h q w b y u L=> ?_,λk h q w s hs hsd b u e=> ?_,λb Y=> ?_,λj A=>(md B A).1,hro, .inr λk h q f=>by rw[(p k h (λe=>q k e rfl) f).2.1,kN]⟩
  .have U:k∉fx:=λe=>q k e rfl
   rw[F k h U];by_cases f:(ae (kl fx mov Za 0 c.S) k).dim=Z
   .rw[mr h,aD,kV U]at f⊢;by_cases u:k∈mov
    .rw[kW.2 u]at f⊢;cases w:(ae c.S k).frozen with
     |false=>exact .inr (.inr ⟨rfl,rfl⟩)
     |true=>exact .inl rfl
    .rw[kV u];exact .inr (.inl rfl)
   grind
  .have A:=cB hi;have K:=(md B A).1
   grind
  .show ae (S'++bs) (b8 c.S+i)=b;rw[<-X,rZ];exact vU Y
  .show(if b8 c.S+i<b8 c.S then _ else _)=_;rw[Zh,Nat.add_sub_cancel_left,hx]
  .exact H k h (λe=>q k e rfl) f b y u L
  .obtain⟨z,v,C,D,E⟩:=p k h (λe=>q k e rfl) f;have:=I.inj s k b w (by rw[C,gy];exact E) u<|D.trans e;subst this;rw[C,kN]at w;cases w
  .have K:=(md B A).1;cases r:(ae c'.S j).dim with
   |none=>exact(f r).elim
   |some d=>
    have⟨z,v⟩:=t.al j d K r;exact⟨z,v,λb y u L=>t.ln j d b y K r u L⟩
  .rw[<-P];exact I.fbk k b f u
  .refine⟨by simp only[id,ct,bD,X];omega,λd' M=> ?_⟩;have⟨z,v,C,D,E⟩:=p j A q (by rw[show id j=j from rfl]at M;rw[M];simp)
   grind
  .obtain⟨z,v,C,D,E⟩:=p k h (λe=>q k e rfl)<|mw w;rw[v,kN]at w;cases w
  .obtain⟨z,v,C,D,E⟩:=p k h (λe=>q k e rfl)<|mw w;rw[v,kN]at w;cases w
  .exact .inr (by rw[P];exact Y)
 have⟨r1,r2,r3⟩:=g.all hR I hd he hf;exact⟨ct,rfl,rfl,rfl,λk h=>zE h,r1,r2,r3,λk h q f=>⟨(p k h q f).1,H k h q f⟩⟩
end
section
open Bool renaming or_eq_false_iff->aB
open List renaming cons_append->bB,length_append->bD,mem_of_getElem?->cB,nodup_append->cD
open Nat renaming zero_add->aD
theorem Xt (H:Rel c)
  (t:JO c.S fx=Za) (L:sk.fxRo=Za) (M:mS c.S (b8 c.S) fx sk vals=O st) (Q:ot id sk st.ls=O (vs,fs,bs)) (T:F2 (VRel c) vals as) (P:vX fx fs (kl fx (rB st.m) Za 0 c.S)=O S'):
  ∃ct:Ctx,ct.σ=c.σ/\ct.S=S'++bs/\ct.fb=c.fb/\(∀k,k<b8 c.S->ct.μ k=c.μ k)/\Le c ct/\Rel ct/\F2 (VRel ct) vs as:=by
 have⟨s1,E,s3,s4⟩:=kA P;rw[mt]at E s4;have⟨K,_⟩:=pN M;have D:=pL K;rw[cD]at D;have⟨Y,_,_⟩:=D
 let ct:Ctx:=⟨λi=>if i<b8 c.S then c.μ i else match st.m[i-b8 c.S]? with
  |some x=>Bo c x
  |none=>Z,S'++bs,c.σ,c.fb⟩
 have B: ∀k,k<b8 c.S->ae ct.S k=ae S' k:=λk n=>mV (by rw[E];exact n)
 have v: ∀k,k<b8 c.S->k∉fx->ae ct.S k=ae (kl fx (rB st.m) Za 0 c.S) k:=λk n p=>by rw[B k n,s3 k p]
 have f: ∀k,k<b8 c.S->k∉fx->(ae ct.S k).dim≠Z->(k∉rB st.m∨(ae c.S k).frozen=Za)/\ae ct.S k=(ae c.S k).freeze/\(ae c.S k).dim≠Z:=by
  intro k n p d;rw[v k n p]at d⊢;have⟨A,q⟩:=GN n p d;rw[q]at d;simp only[zC]at d q;rw[gy]at d;exact⟨A,q,d⟩
 have g:GT c c ct (b8 c.S) id fx sk st fs bs:=by
  refine⟨rfl,rfl,by simp[ct,E],λk n p=> ?_,λi j b U I=> ?_,λj r=>(md t r).1,λi b I=> ?_,λ_=>rfl,λk n=>zE n,λi x hx=> ?_,λ_ _ h _=>h,λ_ _ _ h=>h,Nat.le_refl _,λk n p d b y z J=>J,λk n p d s W u b z e=> ?_,λj r d=>⟨rfl,rfl,λb y _ J=>⟨y,J,rfl⟩⟩,λj r=>(md t r).2,
   λ_ _ _ _ e=>e,λk b d z=>H.fbk k b d z,λj r p=> ?_,λk n p u b y z J=> ?_,λk n p u s W X b z e=> ?_,λb I=> .inr I,λj r=>(md t r).1,L, .inr λk n p d=>by rw[(f k n (λe=>p k e rfl) d).2.1,kN]⟩
  .have C:k∉fx:=λe=>p k e rfl
   rw[v k n C];by_cases d:(ae (kl fx (rB st.m) Za 0 c.S) k).dim=Z
   .rw[mr n,aD,kV C]at d⊢
    grind
   grind
  .have r:=cB U;have V:=(md t r).1
   grind
  .show ae (S'++bs) (b8 c.S+i)=b;rw[<-E,rZ];exact vU I
  .show(if b8 c.S+i<b8 c.S then _ else _)=_
   grind
  .obtain⟨A,q,F⟩:=f k n (λe=>p k e rfl) d;have:=H.inj s k b u F z e
   grind
  .refine⟨by simp only[id,ct,bD,E];omega,λd' w=> ?_⟩;have⟨A,q,F⟩:=f j r p (by rw[show id j=j from rfl]at w;rw[w];simp);rw[show id j=j from rfl,q,gy]at w
   grind
  .obtain⟨A,q,F⟩:=f k n (λe=>p k e rfl)<|mw u;rw[q,kN]at u;cases u
  .obtain⟨A,q,F⟩:=f k n (λe=>p k e rfl)<|mw u;rw[q,kN]at u;cases u
 have⟨r1,r2,r3⟩:=g.all H H M Q T;exact⟨ct,rfl,rfl,rfl,λk n=>zE n,r1,r2,r3⟩
def O2 (d:Le c c1)(q:vX fx fs (kl fx mov Za 0 c.S)=O S')(p:c1.S=S'++bs)
  (f: ∀k,k<b8 c.S->k∉fx->(k∉mov∨(ae c.S k).frozen=Za)->(ae c.S k).dim≠Z->∀b y,c.μ k=O b->c.σ.m b=O y->c1.σ.m b=O y):Within c c1 fx mov:=by
 have⟨t,n,r,u⟩:=kA q;rw[mt]at n;refine⟨d,λk g h e=> ?_,f⟩;rw[p,mV (by rw[n];exact g),r k h,mr g,aD,kV h];rcases e with e|hz
 .rw[kV e];rfl
 .cases lB k mov with
  |false=>rfl
  |true=>rw[hz];simp[AZ hz]
section
variable {ctf ct:Ctx}
def VRel.thaw (r:ct.μ=ctf.μ)(w:ct.σ=ctf.σ)(q:b8 ct.S=b8 ctf.S)(p: ∀k,(ae ct.S k).dim=(ae ctf.S k).dim): ∀{v:VV} {a:Value},VRel ctf v a->alV v=Zb->VRel ct v a
 |_,_, .undef a,_=> .undef a
 |_,_, .bool b,_=> .bool b
 |_,_, .int k n,_=> .int k n
 |_,_, .str u,_=> .str u
 |_,_, .nilp,_=> .nilp
 |_,_, .nils,_=> .nils
 |_,_, .nilf,_=> .nilf
 |_,_, .ptr g e f,_=> .ptr ZF e λd h=>by rw[p]at h;rw[r];exact f d h
 |_,_, .it g e u f,_=> .it ZF e u λd h=>by rw[p]at h;rw[r];exact f d h
 |_,_, .bld g e f,_=> .bld ZF e λd h=>by rw[p]at h;rw[r];exact f d h
 |_,_, .pix g e z f,_=> .pix ZF e z λd h=>by rw[p]at h;rw[r];exact f d h
 |_,_, .pel g e f,_=> .pel ZF e λd h=>by rw[p]at h;rw[r];exact f d h
 |_,_, .pin _ _ _ _,h=>by cases h
 |_,_, .lstn _,h=>by cases h
 |_,_, .tgtn _,h=>by cases h
 |_,_, .tgt _ _ _ _ _,h=>by cases h
 |_,_, .lst _ _ _ _ _ _ _,h=>by cases h
 |_,_, .full g e f,_=> .full ZF e λd h=>by
  rw[p]at h;have⟨n,y,t⟩:=f d h;refine⟨n,y, ?_⟩;unfold Gn at t⊢;rw[r,w];exact t
 |_,_, .part g e f,_=> .part ZF e λd h=>by
  rw[p]at h;have t:=f d h;unfold Gn at t⊢;rw[r,w];exact t
 |_,_, .fn e f,h=>by
  simp only[alV,aB]at h;exact .fn (go e h.1) (go f h.2)
 |_,_, .agg e,h=>by
  simp only[alV]at h;exact .agg (go e h)
 |_,_, .tup e,h=>by
  simp only[alV]at h;exact .tup<|go e h
where
 go: ∀{l:List VV} {m:List Value},F2 (VRel ctf) l m->Pu l=Zb->F2 (VRel ct) l m
  |_,_, .nil,_=> .nil
  |_,_, .cons e f,h=>by
   simp only[Pu,aB]at h;exact .cons (VRel.thaw r w q p e h.1)<|go f h.2
def Gk : ∀{s:Sh} (x:El s),s.al=Zb->Pu (bn s x)=Zb
 | .int _,_,_=>rfl
 | .bool,_,_=>rfl
 | .str,_,_=>rfl
 | .list _,_,h=>by cases h
 | .pair a b,x,h=>by
  simp only[Sh.al,aB]at h;have d:=Gk x.1 h.1;have e:=Gk x.2 h.2;simp only[bn];revert d;generalize bn a x.1=l;intro d;induction l with
  |nil=>exact e
  |cons v l f=>
   simp only[Pu,aB,bB]at d⊢;exact⟨d.1,f d.2⟩
def at4 {l m:List VV}(d:Pu l=Zb)(e:Pu m=Zb):Pu (l++m)=Zb:=by
 induction l with
 |nil=>exact e
 |cons v l f=>
  simp only[Pu,aB,bB]at d⊢;exact⟨d.1,f d.2⟩
def YM (h:alB b=Zb):Pu b.vals=Zb:=by
 cases b with
 |dead=>rfl
 |cells e z l=>exact h
 |arr s z l=>
  simp only[Blk.vals];induction l with
  |nil=>rfl
  |cons x l d=>rw[fO];exact at4 (Gk x h)<|d h
theorem thaw {c:Ctx}{S2:ah}{vs:List VV}{as:List Value}(hR:Rel c)(f:Le c ctf)(q:Rel ctf)(hf:F2 (VRel ctf) vs as)(V:Pu vs=Zb)(u:b8 S2=b8 ctf.S)(K: ∀k,k<b8 c.S->ctf.μ k=c.μ k)
  (P: ∀k,(ae S2 k=ae ctf.S k/\((ae ctf.S k).dim≠Z->((ae ctf.S k).frozen=Zb/\alB (ae ctf.S k)=Zb)∨(k<b8 c.S/\ae ctf.S k=ae c.S k/\∀b y,c.μ k=O b->c.σ.m b=O y->ctf.σ.m b=O y)))∨
   (k<b8 c.S/\ae S2 k=ae c.S k/\ae ctf.S k=(ae c.S k).freeze/\((ae c.S k).dim≠Z->∀b y,c.μ k=O b->c.σ.m b=O y->ctf.σ.m b=O y))):
  Le c ⟨ctf.μ,S2,ctf.σ,ctf.fb⟩/\Rel ⟨ctf.μ,S2,ctf.σ,ctf.fb⟩/\F2 (VRel ⟨ctf.μ,S2,ctf.σ,ctf.fb⟩) vs as:=by
 have E: ∀k,(ae S2 k).dim=(ae ctf.S k).dim:=by
  intro k;rcases P k with⟨h,_⟩|⟨_,p,e,_⟩
  .rw[h]
  .rw[p,e,gy]
 have A:Le c ⟨ctf.μ,S2,ctf.σ,ctf.fb⟩:=by
  refine⟨by rw[u];exact f.len,λk d F h=>f.al k d F (by rw[<-E];exact h),λk J t=> ?_,λk d b y F h=>f.ln k d b y F (by rw[<-E];exact h),f.un,λb y hy hn=> ?_,f.n,f.fb⟩
  .rcases P k with⟨h,_⟩|⟨_,p,e,_⟩
   .rw[h];exact f.fz k J t
   .exact p
  .rintro⟨k,p,e⟩;rcases P k with⟨h,_⟩|⟨w,T,U,_⟩
   .exact f.ow b y hy hn ⟨k,by rw[<-h];exact p,e⟩
   .exact hn ⟨k,by rw[<-T];exact p,by rw[<-K k w];exact e⟩
 have hth: ∀{v:VV} {a:Value},VRel ctf v a->alV v=Zb->VRel ⟨ctf.μ,S2,ctf.σ,ctf.fb⟩ v a:=λp e=>VRel.thaw (ctf:=ctf) (ct:=⟨ctf.μ,S2,ctf.σ,ctf.fb⟩) rfl rfl u E p e
 have B: ∀{l:List VV} {m:List Value},F2 (VRel ctf) l m->Pu l=Zb->F2 (VRel ⟨ctf.μ,S2,ctf.σ,ctf.fb⟩) l m:=λp e=>VRel.thaw.go (ctf:=ctf) (ct:=⟨ctf.μ,S2,ctf.σ,ctf.fb⟩) rfl rfl u E p e
 refine⟨A,⟨q.ok,λk C b J t I z=> ?_,λk=> ?_,λk b t I=>q.fbk k b (by rw[<-E];exact t) I,q.fbl⟩,B hf V⟩
 .have M:(ae ctf.S C).dim≠Z:=by rw[<-E];exact t
  rcases P k with⟨h,_⟩|⟨w,T,U,_⟩
  .exact q.inj k C b (by rw[<-h];exact J) M I z
  .rw[T]at J;rw[K k w]at I
   have D:(C<b8 c.S/\(ae c.S C).dim≠Z)∨(ae ctf.S C).frozen=Zb:=by
    grind
   rcases D with⟨g1,g2⟩|g1
   .rw[K C g1]at z;exact hR.inj k C b J g2 I z
   .exact(q.inj C k b g1 (by rw[U,gy];exact mw J) z (by rw[K k w];exact I)).symm
 .intro d hdd
  have W:k<b8 c.S->ae S2 k=ae c.S k->(∀b y,c.μ k=O b->c.σ.m b=O y->ctf.σ.m b=O y)->1<=d.1/\
   ((d.2=0/\ctf.μ k=Z)∨∃b y H g,ctf.μ k=O b/\ctf.σ.m b=O y/\y.es=d.1/\((ae S2 k).frozen=Zb->y.own=Za)/\y.cells=H++g/\F2 (VRel ⟨ctf.μ,S2,ctf.σ,ctf.fb⟩) (ae S2 k).vals H):=by
   intro p e w;have⟨X,r⟩:=hR.blk k d (by rw[<-e];exact hdd);refine⟨X, ?_⟩;rcases r with⟨r,Q⟩|⟨b,y,H,g,r,Q,Y,q5,q6,q7⟩
   .exact .inl ⟨r,(K k p).trans Q⟩
   .exact .inr ⟨b,y,H,g,(K k p).trans r,w b y r Q,Y,by rw[e];exact q5,q6,by rw[e];exact VRel.frames A q7⟩
  rcases P k with⟨h,h'⟩|⟨w,T,U,h6⟩
  .have L:(ae ctf.S k).dim=O d:=by rw[<-E];exact hdd
   rcases h' (by rw[L];simp)with⟨p,e⟩|⟨p,e,w⟩
   .obtain⟨X,r⟩:=q.blk k d L;refine⟨X, ?_⟩;rcases r with r|⟨b,y,H,g,r,Q,Y,q5,q6,q7⟩
    .exact .inl r
    .exact .inr ⟨b,y,H,g,r,Q,Y,by rw[h];exact q5,q6,by rw[h];exact B q7<|YM e⟩
   .exact W p (h.trans e) w
  grind
end
end
section
open List renaming getElem?_eq_getElem->aB,nodup_nil->aD,mem_cons_self->bB
def Ox : ∀{m:List<|Option Src},Ow m=Za->∀(i:Nat) (x:Option Src),m[i]?=O x->∃k,x=O ⟨k,Z⟩
 |[],_,i,x,h=>by simp at h
 |none::_,h,_,_,_=>by cases h
 |some ⟨k,O n⟩::_,h,_,_,_=>by cases h
 |some ⟨k,Z⟩::r,h,0,x,d=>by simp at d;exact⟨k,d.symm⟩
 |some ⟨k,Z⟩::r,h,i+1,x,d=>Ox (m:=r) h i x V7
theorem Ih : ∀{os:List OSk} {i j:Nat},j∈qR os i↔∃p o,os[p]?=O o/\o.ro=Zb/\j=i+p
 |[],i,j=>by simp[qR]
 |o::os,i,j=>by
  simp only[qR];have n:= @Ih os (i+1) j;constructor
  .intro h;cases f:o.ro with
   |true=>
    rw[f,zC]at h;have⟨p,g,d,e,q⟩:=n.1 h;exact⟨p+1,g,V7,e,V1⟩
   |false=>
    rw[f,zD]at h;rcases aA.1 h with h|h
    .exact⟨0,o,rfl,f,V1⟩
    .obtain⟨p,g,d,e,q⟩:=n.1 h;exact⟨p+1,g,V7,e,V1⟩
  grind
theorem N0 : ∀{os:List OSk} {m:List<|Option Src} {i:Nat} {f:Nat->Nat},b8 os=b8 m->(∀(p:Nat) (x:Option Src),m[p]?=O x->∃k,x=O ⟨k,Z⟩/\f (i+p)=k)->(qR os i).map f=lq os m
 |[],[],i,f,_,_=>rfl
 |[],_::_,_,_,h,_=>by simp at h
 |_::_,[],_,_,h,_=>by simp at h
 |o::os,x::m,i,f,h,d=>by
  have⟨k,e,n⟩:=d 0 x rfl;subst e
  have t:= @N0 os m (i+1) f V6 λp y g=>by
   have⟨u,q,r⟩:=d (p+1) y (by simpa using g)
   grind
  simp only[qR,lq]
  grind
def Ex : ∀{os:List OSk} {m:List<|Option Src} {k:Nat},k∈lq os m->∃(i:Nat) (o:OSk) (x:Src),m[i]?=O (O x)/\os[i]?=O o/\o.ro=Zb/\x.k=k
 |[],[],k,h=>by simp[lq]at h
 |[],_::_,k,h=>by simp[lq]at h
 |_::_,[],k,h=>by simp[lq]at h
 |o::os,Z::m,k,h=>by
  have⟨i,n,x,d,e,f,g⟩:=Ex (os:=os) (m:=m) h;exact⟨i+1,n,x,V7,by simpa using e,f,g⟩
 |o::os,O x::m,k,h=>by
  simp only[lq]at h;cases p:o.ro with
  |true=>
   rw[p,zC]at h;have⟨i,n,q,d,e,f,g⟩:=Ex (os:=os) (m:=m) h;exact⟨i+1,n,q,V7,by simpa using e,f,g⟩
  |false=>
   rw[p,zD]at h;rcases aA.1 h with h|h
   .exact⟨0,o,x,rfl,rfl,p,h.symm⟩
   .obtain⟨i,n,q,d,e,f,g⟩:=Ex (os:=os) (m:=m) h;exact⟨i+1,n,q,V7,by simpa using e,f,g⟩
def LN : ∀{m:List<|Option Src} {k:Nat},k∈rB m->∃(i:Nat) (x:Src),m[i]?=O (O x)/\x.k=k
 |[],k,h=>by simp[rB]at h
 |none::m,k,h=>by
  have⟨i,x,d,e⟩:=LN (m:=m) h;exact⟨i+1,x,V7,e⟩
 |some x::m,k,h=>by
  rcases aA.1 h with h|h
  .exact⟨0,x,rfl,h.symm⟩
  .obtain⟨i,f,d,e⟩:=LN (m:=m) h;exact⟨i+1,f,V7,e⟩
def uL : ∀{os:List OSk} {m:List<|Option Src},(rB m).Nodup->(lq os m).Nodup
 |[],[],_=>aD
 |[],_::_,_=>aD
 |_::_,[],_=>aD
 |o::os,Z::m,h=>uL (os:=os) (m:=m) h
 |o::os,O x::m,h=>by
  have d:=aJ.1 h;have e:=uL (os:=os) d.2;simp only[lq];cases o.ro with
  |true=>exact e
  |false=>
   refine aJ.2 ⟨λf=>d.1 ?_,e⟩;have⟨i,p,q,g,_,_,n⟩:=Ex f;rw[<-n];exact yx g
def Qj {S:ah}{N:Nat}: ∀{os:List OSk} {i:Nat} {st st1:DSt},tz S N os i st=O st1->∀(p:Nat) (o:OSk) (x:Src),os[p]?=O o->o.ro=Za->st1.m[i+p]?=O (O x)->x.k∈st1.lent
 |[],i,st,st1,h,p,o,x,n,_,_=>by simp at n
 |o'::os,i,st,st1,h,p,o,x,n,f,q=>by
  simp only[tz]at h;split at h
  .rename_i y hy;have⟨w,e,r⟩:=ag h;cases p with
   |succ p=>exact Qj r p o x (by simpa using n) f (by rw[<-q];congr 1;omega)
   |zero=>
    simp at n;subst n;have⟨C,z⟩:=(GV e).m;have⟨D,A⟩:=(pM r).m
    have u:st1.m[i]?=O y:=by
     rw[<-yB,A,z];exact Hj (Hj hy)
    rw[Nat.add_zero,u]at q;cases q;refine(pM r).lent _ ?_;unfold Ui at e;split at e
    .cases f
    .rename_i d;cases d;split at e
     .rename_i es ro l k _ es' fz cs hb;simp only[OSk.ro]at f;subst f;cases g:(Nat.beq es es'&&(Za|| !fz))with
      |false=>rw[g]at e;cases e
      |true=>
       rw[g,zC]at e;exact(tA _ _ _ _ e).lent _ bB
     .cases e
    .rename_i d;cases d
    .rename_i d;cases d;rename_i ro s v _ _;simp only[OSk.ro]at f;subst f;cases g:(Za|| !(ae S _).frozen)with
     |false=>rw[g]at e;cases e
     |true=>
      rw[g,zC]at e;have⟨l,B,t⟩:=ag e;cases t;exact bB
    .cases e
  .cases h
def lZ (c:Ctx)(st:DSt)(bs:List Blk):Ctx:=⟨λi=>match st.m[i]? with
 |some x=>Bo c x
 |none=>Z,bs,c.σ,λb=>c.mut b/\¬∃k,(k∈rB st.m∨k∈st.lent)/\(ae c.S k).dim≠Z/\c.μ k=O b⟩
structure Entered (c c0:Ctx)(objs:List OSk)(st:DSt)(bs:List Blk):Prop where
 rel:Rel c0
 sub: ∀i,(ae c0.S i).dim≠Z->∃x,st.m[i]?=O x/\c0.μ i=Bo c x/\∀y,x=O y->(ae c.S y.k).dim≠Z/\(y.cut=Z->(ae c0.S i).dim=(ae c.S y.k).dim)/\((ae c0.S i).frozen=Zb->(ae c.S y.k).frozen=Zb)
 own: ∀b,c0.own b->c.own b
 fz: ∀(i:Nat) (o:OSk),objs[i]?=O o->o.ro=Za->(ae c0.S i).frozen=Za/\(ae c0.S i).dim≠Z
 len:b8 bs=b8 objs/\b8 st.m=b8 objs
theorem enter (E:Rel c)(h0:sk.fix=[])(hd:mS c.S 0 [] sk vals=O st)(he:ot id sk st.ls=O (vs,fs,bs))(hf:F2 (VRel c) vals as):
  Entered c (lZ c st bs) sk.free st bs/\F2 (VRel<|lZ c st bs) vs as:=by
 have⟨ct0,vs0,fs0,bs0,L,p2,p3⟩:=NU (f:=id) E hd hf;rw[he]at L;injection L with L
 injection L with q1 L
 injection L with q2 q3
 subst q1;subst q2;subst q3;have⟨Y,P⟩:=pN hd;have T:=pL Y;rw[List.nil_append]at T P;have⟨X,y2,y3⟩:=p3.get
 have I: ∀i,(ae bs i).dim≠Z->∃(x:Option Src) (o:OSk),st.m[i]?=O x/\sk.free[i]?=O o/\uN c ct0 o x (ae bs i):=by
  intro i F;have u:=kG F;have B:=aB u;have r:i<b8 st.m:=by rw[X];exact u
  have⟨o,g,p⟩:=y3 i _ _ (aB r) B;rw[vU B]
  grind
 have v: ∀i x,st.m[i]?=O x->(lZ c st bs).μ i=Bo c x:=by
  intro i x hx
  show(match st.m[i]? with
   |some x=>Bo c x
   |none=>Z)=_
  rw[hx]
 have H: ∀i,(ae bs i).frozen=Zb->∀b,(lZ c st bs).μ i=O b->∃x,st.m[i]?=O (O x)/\(ae c.S x.k).frozen=Zb/\c.μ x.k=O b/\x.k∈lq sk.free st.m:=by
  intro i z b r;have⟨x,o,g,p,q⟩:=I i<|mw z;rw[v i x g]at r;rcases q with⟨_,q⟩|⟨q,t⟩
  .rw[q]at z;cases z
  .cases x with
   |none=>cases r
   |some x=>
    have⟨k,K⟩:=x;rw[q]at z;exact⟨_,g,t.1 z,r,HH g p z⟩
 have J: ∀i,(ae bs i).dim≠Z->∀b,(lZ c st bs).μ i=O b->∃x,st.m[i]?=O (O x)/\(ae c.S x.k).dim≠Z/\c.μ x.k=O b:=by
  intro i z b r;have⟨x,o,g,p,q⟩:=I i z;rw[v i x g]at r;rcases q with⟨_,q⟩|⟨q,t⟩
  .rw[q]at z;exact(z rfl).elim
  .cases x with
   |none=>cases r
   |some x=>
    have⟨k,K⟩:=x;have⟨_,d,w,_⟩:=t;exact⟨_,g,by rw[w];simp,r⟩
 have hT:Tell c (lZ c st bs) 0 id st:=by
  refine⟨⟨rfl,λb y W hn=> ?_⟩,λj x hl=> ?_,λs hs U b r=> ?_⟩
  .rintro(⟨i,g,p⟩|h)
   .obtain⟨x,_,q,t,_⟩:=H i g b p;exact hn (.inl ⟨x.k,q,t⟩)
   .exact hn h.1
  .rcases hl with⟨g,_⟩|⟨_,p⟩
   .omega
   .rw[Nat.sub_zero,yB]at p
    have u:j<b8 bs:=by
     grind
    refine⟨u,λd' C=> ?_⟩;have⟨x',o,g,q,t⟩:=I j (by rw[show(ae bs j).dim=O d' from C];simp);rw[p]at g;cases g;have e:(ae bs j).dim=O d':=C;rcases t with⟨_,t⟩|⟨t,w⟩
    .rw[t]at e;cases e
    .cases x with
     |none=>
      have⟨_,s,D⟩:=w;rw[D]at e;cases e;exact⟨V2,v j _ p⟩
     |some x=>
      have⟨k,K⟩:=x;have⟨_,d,D,V,_⟩:=w;refine⟨d,D, ?_⟩;cases K with
      |none=>
       simp only at V;rw[V]at e;cases e;exact⟨rfl,v j _ p,rfl⟩
      |some n=>
       simp only at V;rw[V]at e;cases e;exact⟨rfl,v j _ p,rfl⟩
  .rintro(⟨i,g,p⟩|h)
   .obtain⟨x,_,q,t,w⟩:=H i g b p;have:=E.inj x.k s b q U t r;rw[this]at w;exact Ly P w hs
   .exact h.2 ⟨s, .inr hs,U,r⟩
 have⟨vs1,fs1,bs1,M,r2,r3,r4⟩:=Ib E hT hd hf;rw[he]at M;injection M with M
 injection M with e1 M
 injection M with e2 e3
 subst e1;subst e2;subst e3;have⟨_,_,y4⟩:=r4.get;refine⟨⟨⟨E.ok,λi i' b z A r hm'=> ?_,λi=> ?_,λi b A r B=> ?_,λb B=> ?_⟩,λi F=> ?_,λb B=> ?_,λi o ho hr=> ?_,⟨y2.symm,by rw[X,y2]⟩⟩,r2⟩
 .obtain⟨x,g,p,q,_⟩:=H i z b r;have⟨x',t,w,D⟩:=J i' A b hm';exact G9 T g t (E.inj _ _ b p w q D)
 .by_cases A:(ae bs i).dim=Z
  .intro d C;rw[show(ae (lZ c st bs).S i).dim=Z from A]at C;cases C
  .have u:=kG A;have B:=aB u;have r:i<b8 st.m:=by rw[X];exact u
   have⟨o,g,p⟩:=y4 i _ _ (aB r) B;exact p.blkRel (ct:=lZ c st bs) E rfl (vU B) λ_=>v i _ (aB r)
 .obtain⟨x',t,w,D⟩:=J i A b r;exact B.2 ⟨x'.k, .inl<|yx t,w,D⟩
 .rcases B.1 with⟨k,g,p⟩|h
  .cases Q:(ae c.S k).dim with
   |none=>exact(mw g Q).elim
   |some d=>
    have⟨y,_,_,W,_⟩:=E.block Q p;exact E.ok b y W
  .exact E.fbl b h
 .obtain⟨x,o,g,p,q⟩:=I i F;refine⟨x,g,v i x g,λy W=> ?_⟩;subst W;rcases q with⟨_,q⟩|⟨q,t,d,w,D,_⟩
  .rw[show ae (lZ c st bs).S i=ae bs i from rfl,q]at F;exact(F rfl).elim
  .refine⟨by rw[w];simp,λhc=> ?_,λz=>t (by rw[<-q];exact z)⟩;rw[hc]at D;rw[w];exact D
 .obtain⟨i,g,p⟩:=B;have⟨x,_,q,t,_⟩:=H i g b p;exact⟨x.k,q,t⟩
 .have F:i<b8 bs:=by
   grind
  have r:i<b8 st.m:=by rw[X];exact F
  have⟨o',g,p⟩:=y3 i _ _ (aB r)<|aB F;rw[ho]at g;cases g;rw[show ae (lZ c st bs).S i=ae bs i from rfl,vU<|aB F];rcases p with⟨p,_⟩|⟨p,q⟩
  .subst p;cases hr
  grind
end
section
open List renaming getElem?_eq_getElem->aB
theorem N3 : ∀{l:List Nat} {S:ah} {k:Nat},k∈l->(ae (CZ l S) k).frozen=Za
 |[],S,k,h=>by simp at h
 |a::l,S,k,h=>by
  simp only[CZ];by_cases d:k∈l
  .exact N3 d
  .have:k=a:=by
    grind
   subst this;rcases(uA l<|gJ S k (ae S k).freeze).2 k with h1|h1
   .rw[h1,uG];split
    .exact kN
    .rename_i hn;have: ¬k<b8 S:=λe=>hn ⟨rfl,e⟩
     rw[vV V1];rfl
   .rw[h1];exact kN
theorem XP {c0:Ctx}{f:List OSk}{bs0:List Blk}{Sf:ah}(hR:Rel c)(h0:c0=lZ c st bs0)(hE:Entered c c0 f st bs0)(w:Le c0 c')(hR':Rel c')
  (hcut:Ow st.m=Za) (hok:JO c.S (lq f st.m)=Za) (hnd:(rB st.m).Nodup) (hlent: ∀(i:Nat) (o:OSk) (x:Src),f[i]?=O o->o.ro=Za->st.m[i]?=O (O x)->x.k∈st.lent)
  (hro:sk.noRo=Za) (hd:mS c'.S (b8 f) (qR f 0) sk vals=O st') (he:ot (wu st.m (b8 f)<|b8 c.S) sk st'.ls=O (vs,fs,bs)) (hf:F2 (VRel c') vals as) (hS:vX (lq f st.m) fs (CZ st.lent c.S)=O Sf):
  ∃ct:Ctx,ct.σ=c'.σ/\ct.S=Sf++bs/\ct.fb=c.fb/\(∀k,k<b8 c.S->ct.μ k=c.μ k)/\Le c ct/\Rel ct/\F2 (VRel ct) vs as/\
   (∀k,k<b8 c.S->k∉lq f st.m->(ae c.S k).dim≠Z->∀b y,c.μ k=O b->c.σ.m b=O y->ct.σ.m b=O y):=by
 have L:c0.σ=c.σ:=by rw[h0];rfl
 have I: ∀b,c0.fb b↔(c.mut b/\¬∃k,(k∈rB st.m∨k∈st.lent)/\(ae c.S k).dim≠Z/\c.μ k=O b):=by rw[h0];exact λb=>Iff.rfl
 have hS0:c0.S=bs0:=by rw[h0];rfl
 have H:c'.fb=c0.fb:=w.fb;have⟨l1,l2⟩:=hE.len;have⟨s1,s2,s3,s4⟩:=kA hS;rw[(uA st.lent c.S).1]at s2 s4;have hfz:=uA st.lent c.S
 have pos: ∀i,i<b8 f->∃k,st.m[i]?=O (O ⟨k,Z⟩)/\wu st.m (b8 f) (b8 c.S) i=k:=by
  intro i hi;have u:i<b8 st.m:=by omega
  have⟨k,q⟩:=Ox hcut i _<|aB u;have h1:st.m[i]?=O (O ⟨k,Z⟩):=by rw[aB u,q]
  refine⟨k,h1, ?_⟩;unfold wu;rw[show Nat.blt i (b8 f)=Za from Nat.ble_eq_true_of_le hi,zC,yB,h1]
 have Q:(qR f 0).map (wu st.m (b8 f)<|b8 c.S)=lq f st.m:=by
  refine N0 l2.symm λp x hx=> ?_
  grind
 have C: ∀j,j∈qR f 0->j<b8 f/\∃o,f[j]?=O o/\o.ro=Zb:=by
  intro j A;have⟨p,o,h1,v,z⟩:=Ih.1 A
  grind
 have fxw: ∀j,j∈qR f 0->wu st.m (b8 f) (b8 c.S) j∈lq f st.m:=λj A=>by rw[<-Q];exact List.mem_map_of_mem A
 have wfx: ∀k,k∈lq f st.m->∃j,j∈qR f 0/\wu st.m (b8 f) (b8 c.S) j=k:=λk q=>by rw[<-Q]at q;have⟨j,h1,v⟩:=aE.1 q;exact⟨j,h1,v⟩
 have E: ∀k,(∀j,j∈qR f 0->wu st.m (b8 f) (b8 c.S) j≠k)->k∉lq f st.m:=λk q h=>by have⟨j,h1,v⟩:=wfx k h;exact q j h1 v
 let ct:Ctx:=⟨λi=>if i<b8 c.S then c.μ i else match st'.m[i-b8 c.S]? with
  |some x=>Bo c' x
  |none=>Z,Sf++bs,c'.σ,c.fb⟩
 have hget: ∀k,k<b8 c.S->ae ct.S k=ae Sf k:=λk q=>mV (by rw[s2];exact q)
 have U: ∀k,k<b8 c.S->k∉lq f st.m->ae ct.S k=ae (CZ st.lent c.S) k:=λk q t=>by rw[hget k q,s3 k t]
 have own0: ∀b,c0.own b->∃k,k∈lq f st.m/\(ae c.S k).frozen=Zb/\c.μ k=O b:=by
  rintro b ⟨i,h1,v⟩;have⟨x,z,D,F⟩:=hE.sub i<|mw h1;rw[D]at v;cases x with
  |none=>cases v
  |some x=>
   have⟨h6,_,h8⟩:=F x rfl
   have hi:i<b8 f:=by
    grind
   have ho:f[i]?=O f[i]:=aB hi;refine⟨x.k,HH z ho ?_,h8 h1,v⟩;cases hr:(f[i]).ro with
   |false=>rfl
   |true=>rw[(hE.fz i _ ho hr).1]at h1;cases h1
 have nown: ∀k,k∉lq f st.m->(ae c.S k).dim≠Z->∀b,c.μ k=O b->¬c0.own b:=by
  intro k q r b u h;have⟨M,h1,v,z⟩:=own0 b h;have:=hR.inj M k b v r z u;subst this;exact q h1
 have hun: ∀k,k<b8 c.S->k∉lq f st.m->(ae c.S k).dim≠Z->∀b y,c.μ k=O b->c.σ.m b=O y->c'.σ.m b=O y:=λk _ q r b y u J=>w.un b y ZX (nown k q r b u)
 have B: ∀k b,(ae c.S k).dim≠Z->c.μ k=O b->∃y,c.σ.m b=O y:=by
  intro k b r u;cases K:(ae c.S k).dim with
  |none=>exact(r K).elim
  |some d=>
   have⟨y,_,_,J,_⟩:=hR.block K u;exact⟨y,J⟩
 have P: ∀k,k<b8 c.S->k∉lq f st.m->(ae ct.S k).dim=(ae c.S k).dim:=λk q t=>by rw[U k q t];exact hfz.dim k
 have X: ∀k,k<b8 c.S->k∉lq f st.m->(ae ct.S k).frozen=Zb->∀b,c.μ k=O b->(ae c.S k).frozen=Zb/\¬∃M,(M∈rB st.m∨M∈st.lent)/\(ae c.S M).dim≠Z/\c.μ M=O b:=by
  intro k q t W b u;rw[U k q t]at W;have hz':(ae c.S k).frozen=Zb:=by rw[<-hfz.fz W];exact W
  refine⟨hz', ?_⟩;rintro⟨M,h1,v,z⟩;have:=hR.inj k M b hz' v u z;subst this;have hnl:k∉st.lent:=λe=>by rw[N3 e]at W;cases W
  rcases h1 with h1|h1
  .obtain⟨i,x,D,F⟩:=LN h1
   have hi:i<b8 f:=by
    grind
   have ho:f[i]?=O f[i]:=aB hi;cases hr:(f[i]).ro with
   |true=>exact hnl (by rw[<-F];exact hlent i _ x ho hr D)
   |false=>exact t (by rw[<-F];exact HH D ho hr)
  .exact hnl h1
 have g:GT c c' ct (b8 f) (wu st.m (b8 f)<|b8 c.S) (qR f 0) sk st' fs bs:=by
  refine⟨rfl,rfl,by simp[ct,s2],λk q t=> ?_,λi j b hi T=> ?_,λj A=>(md hok<|fxw j A).1,λi b T=> ?_,λi=> ?_,λk q=>zE q,λi x hx=> ?_,λb y J t=>w.un b y ZX λe=>t<|hE.own b e,λb y J t=>w.ow b y ZX λe=>t<|hE.own b e,by rw[<-L];exact w.n,λk q t r b y u J=> ?_,λk q t r s hs W b u e=> ?_,λj A r=> ?_,λj A=>(md hok<|fxw j A).2,
   λj j' A hj' e=> ?_,λk b r u T=> ?_,λj A t=> ?_,λk q t W b y u J=> ?_,λk q t W s hs hsd b u e=> ?_,λb T=> ?_,λj A=>(C j A).1,VP hro, .inl hro⟩
  .rw[U k q<|E k t];rcases hfz.2 k with h|h
   .exact .inl h
   .exact .inr (.inl h)
  .have A:=List.mem_of_getElem? hi;have hw:=fxw j A;have hlt:=(md hok hw).1;show ae ct.S _=b;rw[hget _ hlt];refine s4 (uL hnd) i _ b ?_ T hlt;rw[<-Q,List.getElem?_map,hi];rfl
  .show ae (Sf++bs) (b8 c.S+i)=b;rw[<-s2,rZ];exact vU T
  .unfold wu
   have:Nat.blt (b8 f+i) (b8 f)=Zb:=by
    cases T:Nat.blt (b8 f+i) (b8 f) with
    |false=>rfl
    |true=>have:=Nat.le_of_ble_eq_true T;omega
   grind
  .show(if b8 c.S+i<b8 c.S then _ else _)=_;rw[Zh,Nat.add_sub_cancel_left,hx]
  .exact hun k q (E k t) (by rw[<-P k q (E k t)];exact r) b y u J
  .have hdm':(ae c.S k).dim≠Z:=by rw[<-P k q (E k t)];exact r
   have⟨y,J⟩:=B k b hdm' e;exact w.ow b y ZX (nown k (E k t) hdm' b e) ⟨s,W,u⟩
  .obtain⟨k,h1,v⟩:=pos j (C j A).1;have Y:j<b8 c0.S:=by rw[hS0,l1];exact(C j A).1
   cases K:(ae c'.S j).dim with
   |none=>exact(r K).elim
   |some d=>
    have⟨z,D⟩:=w.al j d Y K;have⟨x,F,h6,h7⟩:=hE.sub j (by rw[z];simp);rw[h1]at F;cases F;have⟨h8,h9,_⟩:=h7 _ rfl;rw[v];refine⟨by rw[<-h9 rfl,z],D.trans h6,λb y u J=>w.ln j d b y Y K (h6.trans u) ZX⟩
  .obtain⟨k,h1,v⟩:=pos j (C j A).1;have⟨M,z,D⟩:=pos j' (C j' hj').1;rw[v,D]at e;subst e;exact G9 hnd h1 z rfl
  .have h1:=hR'.fbk k b r u;rw[H,I]at h1;refine h1 ⟨.inr T, ?_⟩;rintro⟨M,_,z,D⟩;exact hR.fbk M b z D T
  .obtain⟨k,h1,v⟩:=pos j A;have ho:f[j]?=O f[j]:=aB A
   have hr:(f[j]).ro=Za:=by
    cases hr:(f[j]).ro with
    |true=>rfl
    |false=>exact(t<|Ih.2 ⟨j,_,ho,hr,V1⟩).elim
   have⟨z,D⟩:=hE.fz j _ ho hr;have⟨x,F,h6,h7⟩:=hE.sub j D;rw[h1]at F;cases F;have⟨h8,h9,_⟩:=h7 _ rfl;simp only at h8 h9;have hkl:k<b8 c.S:=kG h8
   have hkw:k∉lq f st.m:=by
    intro q;have⟨i,o,x,g1,g2,g3,g4⟩:=Ex q;have:=G9 hnd g1 h1 g4
    grind
   have Y:j<b8 c0.S:=by rw[hS0,l1];exact A
   have V:=w.fz j z D;rw[v];refine⟨by simp only[ct,List.length_append,s2];omega,λd' hd'=> ?_⟩;rw[P k hkl hkw]at hd';refine⟨d',by rw[V,h9 trivial];exact hd',rfl, ?_,rfl⟩;show(if k<b8 c.S then c.μ k else _)=_;rw[zE hkl,(w.al j d' Y (by rw[V,h9 trivial];exact hd')).2,h6];rfl
  .obtain⟨h1,v⟩:=X k q (E k t) W b u;exact .inr (by rw[H,I];exact⟨.inl ⟨k,h1,u⟩,v⟩)
  .obtain⟨h1,v⟩:=X k q (E k t) W b e;have z:=hR'.fbk s b hsd u;rw[H,I]at z;exact z ⟨.inl ⟨k,h1,e⟩,v⟩
  .refine .inr ?_;rw[H,I];refine⟨.inr T, ?_⟩;rintro⟨M,_,z,D⟩;exact hR.fbk M b z D T
 have⟨r1,r2,r3⟩:=g.all hR hR' hd he hf;exact⟨ct,rfl,rfl,rfl,λk q=>zE q,r1,r2,r3,hun⟩
end
section
open List renaming getElem?_eq_getElem->aB,all_eq_true->aD,length_append->bB
def IN : ∀{js:List Nat} {bs:List Blk} {S S1:ah},b8 js=b8 bs->∃S2,vX js bs S1=O S2
 |[],[],_,S1,_=>⟨S1,rfl⟩
 |[],_::_,_,_,h=>by simp at h
 |_::_,[],_,_,h=>by simp at h
 |j::js,b::bs,S,S1,h=>by
  have⟨S2,d⟩:=IN (js:=js) (bs:=bs) (S:=S) (S1:=gJ S1 j b) V6;exact⟨S2,d⟩
theorem Lq {f:Nat->Nat}: ∀{os:List OSk} {ls rest:List Leaf} {bs:List Blk},CV f os ls=O (bs,rest)->(∀o,o∈os->o.ro=Zb)->∀b,b∈bs->b.dim≠Z->b.frozen=Zb
 |[],ls,rest,bs,h,_,b,hb,_=>by
  simp only[CV]at h
  grind
 |o::os,ls,rest,bs,h,r,b,hb,n=>by
  simp only[CV]at h;obtain⟨p,d,h⟩:=ag h;obtain⟨q,t,h⟩:=ag h;injection h with h
  injection h with u z
  subst u;rcases aA.1 hb with hb|hb
  .subst hb;have g:=r o List.mem_cons_self;cases o with
   |dead=>
    simp only[Nl]at d;injection d with d
    rw[<-d]at n;exact(n rfl).elim
   |cells y ro l=>
    simp only[Nl]at d;have⟨v,w,e⟩:=ag d;injection e with e
    rw[<-e];exact g
   |arr ro s=>
    cases ls with
    |nil=>simp[Nl]at d
    |cons x ls=>
     simp only[Nl]at d;have⟨v,w,e⟩:=ag d;injection e with e
     rw[<-e];exact g
  .exact Lq t (λo g=>r o<|List.mem_cons_of_mem _ g) b hb n
def RF {f:Nat->Nat}{ls:List Leaf}(h:ot f sk ls=O (vs,fs,bs))(d:sk.noRo=Za):(∀b,b∈fs->b.dim≠Z->b.frozen=Zb)/\∀b,b∈bs->b.dim≠Z->b.frozen=Zb:=by
 unfold tR.noRo at d;rw[Bool.and_eq_true,aD,aD]at d;unfold ot at h;obtain⟨p,w,h⟩:=ag h;obtain⟨q,t,h⟩:=ag h;obtain⟨r,u,h⟩:=ag h;split at h
 .injection h with h
  injection h with v h
  injection h with g n
  subst g;subst n;exact⟨Lq (rest:=q.2) t λo e=>by simpa using d.1 o e,Lq (rest:=r.2) u λo e=>by simpa using d.2 o e⟩
 cases h
theorem Rg (h:CR vs fs bs=Zb):Pu vs=Zb/\(∀b,b∈fs->alB b=Zb)/\∀b,b∈bs->alB b=Zb:=by
 unfold CR at h
 grind
def Te {l:List Blk}(h:(ae l i).dim≠Z):ae l i∈l:=by
 have d:=kG h;rw[vU<|aB d];exact List.getElem_mem d
theorem OW {ctf:Ctx}{js:List Nat}{Sa Sb S1:ah}(P:Rel c)(H:Le c ctf)(A:Rel ctf)(Q:F2 (VRel ctf) vs as)(E:CR vs fs bs=Zb)
  (U: ∀b,b∈fs->b.dim≠Z->b.frozen=Zb) (I: ∀b,b∈bs->b.dim≠Z->b.frozen=Zb) (g:b8 Sa=b8 c.S) (h:b8 Sb=b8 c.S) (C:vX js fs Sa=O S1) (D:vX js fs Sb=O S2) (r:js.Nodup) (T: ∀j,j∈js->j<b8 c.S)
  (B:ctf.S=S1++bs) (V: ∀k,k<b8 c.S->ctf.μ k=c.μ k)
  (t: ∀k,k<b8 c.S->k∉js->(ae Sa k=ae Sb k/\((ae Sa k).dim≠Z->ae Sa k=ae c.S k))∨(ae Sb k=ae c.S k/\ae Sa k=(ae c.S k).freeze))
  (u: ∀k,k<b8 c.S->k∉js->(ae Sa k).dim≠Z->∀b y,c.μ k=O b->c.σ.m b=O y->ctf.σ.m b=O y):
  Le c ⟨ctf.μ,S2++bs,ctf.σ,ctf.fb⟩/\Rel ⟨ctf.μ,S2++bs,ctf.σ,ctf.fb⟩/\F2 (VRel ⟨ctf.μ,S2++bs,ctf.σ,ctf.fb⟩) vs as:=by
 have⟨L,a2,M⟩:=Rg E;have⟨W,J,X,Y⟩:=kA C;have⟨q1,K,q3,q4⟩:=kA D;refine thaw P H A Q L (by rw[B,bB,bB,J,K,g,h]) V λk=> ?_
 by_cases f:k<b8 c.S
 .have z:ae (S2++bs) k=ae S2 k:=mV (by rw[K,h];exact f);have v:ae ctf.S k=ae S1 k:=by rw[B];exact mV (by rw[J,g];exact f)
  by_cases p:k∈js
  .obtain⟨i,F,e⟩:=List.mem_iff_getElem.1 p;have q:i<b8 fs:=by rw[<-W];exact F
   have e1:=Y r i k _ (by rw[aB F,e]) (aB q) (by rw[g];exact f);have e2:=q4 r i k _ (by rw[aB F,e]) (aB q) (by rw[h];exact f)
   grind
  .rw[z,v,q3 k p,X k p];rcases t k f p with⟨n,w⟩|⟨n,w⟩
   .exact .inl ⟨n.symm,λd=> .inr ⟨f,w d,u k f p d⟩⟩
   .exact .inr ⟨f,n,w,λd=>u k f p (by rw[w,gy];exact d)⟩
 .have n:k=b8 c.S+(k-b8 c.S):=by omega
  have z:ae (S2++bs) k=ae bs (k-b8 c.S):=by
   rw[n,<-h,<-K,rZ]
   congr 1
   omega
  have v:ae ctf.S k=ae bs (k-b8 c.S):=by
   rw[B,n,<-g,<-J,rZ]
   congr 1
   omega
  refine .inl ⟨by rw[z,v],λd=> .inl ?_⟩;rw[v]at d⊢;exact⟨I _ (Te d) d,M _<|Te d⟩
theorem Ml {c0:Ctx}{f:List OSk}{z:List Blk}(L:Rel c)(h0:c0=lZ c st z)(hE:Entered c c0 f st z)(Q:Le c0 c')(M:Rel c')
  (B:Ow st.m=Za) (E:JO c.S (lq f st.m)=Za) (t:(rB st.m).Nodup) (v: ∀(i:Nat) (o:OSk) (x:Src),f[i]?=O o->o.ro=Za->st.m[i]?=O (O x)->x.k∈st.lent)
  (F:sk.noRo=Za) (hd:mS c'.S (b8 f) (qR f 0) sk vals=O st') (V:ot (wu st.m (b8 f)<|b8 c.S) sk st'.ls=O (vs,fs,bs)) (hf:F2 (VRel c') vals as)
  (w:vX (lq f st.m) fs (cond (CR vs fs bs) (CZ st.lent c.S) c.S)=O S2):
  ∃ct:Ctx,ct.σ=c'.σ/\ct.S=S2++bs/\Le c ct/\Rel ct/\F2 (VRel ct) vs as/\vk (lq f st.m) c ct:=by
 have⟨W,q2,q3,q4⟩:=kA w;have⟨Sf,p⟩:=IN (S:=c.S) (S1:=CZ st.lent c.S) W;have⟨ct,X,J,e3,Y,e5,e6,e7,e8⟩:=XP L h0 hE Q M B E t v F hd V hf p
 have A: ∀n:Ctx,n.σ=ct.σ->(∀k,(ae n.S k).dim=(ae ct.S k).dim)->vk (lq f st.m) c n:=by
  intro n K h2 k r H q;have⟨_,I,U,_⟩:=kA p;have hl:b8 (CZ st.lent c.S)=b8 c.S:=(uA st.lent c.S).1;refine⟨?_,λb hm=> ?_⟩
  .rw[h2,J,mV (by rw[I,hl];exact r),U k H,(uA st.lent c.S).dim];exact q
  .cases C:(ae c.S k).dim with
   |none=>exact(q C).elim
   |some d=>
    have⟨y,_,_,hy,_⟩:=L.block C hm
    grind
 cases u:CR vs fs bs with
 |true=>
  grind
 |false=>
  rw[u,zD]at w;have⟨z1,z2⟩:=RF V F;have g:=uA st.lent c.S
  have⟨r1,r2,r3⟩:=OW L e5 e6 e7 u z1 z2 g.1 rfl p w (uL t) (λj hj=>(md E hj).1) J Y (λk r H=>by
   rcases g.2 k with h|h
   .exact .inl ⟨h,λ_=>h⟩
   grind) (λk r H q=>e8 k r H (by rw[<-g.dim];exact q))
  refine⟨⟨ct.μ,S2++bs,ct.σ,ct.fb⟩,X,rfl,r1,r2,r3,A _ rfl λk=> ?_⟩;have⟨_,I,U,p4⟩:=kA p;rw[J];show(ae (S2++bs) k).dim=(ae (Sf++bs) k).dim;by_cases r:k<b8 c.S
  .rw[mV (S:=S2) (by rw[q2,u];exact r),mV (S:=Sf) (by rw[I,g.1];exact r)];by_cases T:k∈lq f st.m
   .obtain⟨i,P,e⟩:=List.mem_iff_getElem.1 T;have D:i<b8 fs:=by rw[<-W];exact P
    have⟨_,_,_,t4⟩:=kA w
    rw[t4 (uL t) i k _ (by rw[aB P,e]) (aB D) r,
     p4 (uL t) i k _ (by rw[aB P,e]) (aB D) (by rw[g.1];exact r)]
   .obtain⟨_,_,t3,_⟩:=kA w;rw[t3 k T,U k T,g.dim]
  .have K:k=b8 c.S+(k-b8 c.S):=by omega
   have g1:ae (S2++bs) k=ae bs (k-b8 c.S):=by
    have⟨_,t2,_,_⟩:=kA w;rw[K,<-t2,rZ]
    congr 1
    omega
   have g2:ae (Sf++bs) k=ae bs (k-b8 c.S):=by
    rw[K,<-g.1,<-I,rZ]
    congr 1
    omega
   rw[g1,g2]
theorem az3 (A:Rel c)(t:Rel c')(M:Within c c1 fx mov)(u:Rel c1)(y:Le c1 c')
  (n:JO c.S fx=Za) (p:sk.noRo=Za) (B:mS c'.S (b8 c.S) fx sk vals=O st) (C:ot id sk st.ls=O (vs,fs,bs)) (K:F2 (VRel c') vals as) (v:vX fx fs (kl fx mov (CR vs fs bs) 0 c.S)=O S2):
  ∃ct:Ctx,ct.σ=c'.σ/\ct.S=S2++bs/\Le c ct/\Rel ct/\F2 (VRel ct) vs as:=by
 have⟨T,Y,q3,q4⟩:=kA v;have⟨Sf,d⟩:=IN (S:=c.S) (S1:=kl fx mov Za 0 c.S) T;have⟨ct,W,z,X,E,F,H,I,J⟩:=leave A t M u y n (VP p) B C K d;cases e:CR vs fs bs with
 |true=>
  grind
 |false=>
  rw[e]at v;have⟨U,V⟩:=RF C p;have⟨r,_⟩:=pN B;have g:=pL r;rw[List.nodup_append]at g;have⟨_,D,Q,_⟩:=kA d;rw[mt]at D
  have⟨r1,r2,r3⟩:=OW A F H I e U V mt mt d v g.1 (λj L=>(md n L).1) z E (λk f q=>by
   rw[mr f,mr f,Nat.zero_add,kV q];cases lB k mov with
   |true=>
    refine .inl ⟨rfl,λh=> ?_⟩;cases P:(ae c.S k).frozen with
    |true=>rfl
    |false=>rw[P]at h;exact(h rfl).elim
   |false=>exact .inr ⟨rfl,rfl⟩) (λk f q w=>(J k f q (by rw[z,mV (by rw[D];exact f),Q k q];exact w)).2)
  grind
end
end Go.V
