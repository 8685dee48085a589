/- A part of the proof. No condition. -/
import Derived.Test.YtknphpcjacoaeaaGreatA6
set_option linter.unusedVariables false
set_option linter.unusedSimpArgs false
set_option linter.unusedSectionVars false
namespace Go.V
open Go.Ab
open Option renaming some->O,none->Y
open Bool renaming true->Za,false->Zb
open Decidable renaming decide->Zc
variable {c c' c1 ct:Ctx}{bs fs:List Blk}{sk:zd}{as:List Value}{vals vs:List VV}{fx l mov:List Nat}{st:DSt}{i k:Nat}{b:Blk}{m:List (Option Src)}{x:Src}{S' S2:ak}{tab:Tab}
section
open Bool renaming and_eq_true -> cD
open List renaming getElem?_eq_getElem -> aB, all_eq_true -> aD, getElem?_eq_none -> bD, replicate -> cB, mem_cons_of_mem -> dB, mem_cons_self -> dD, mem_of_getElem? -> eD, nodup_cons -> fB
open Nat renaming lt_or_ge -> bB, le_add_right -> fD, lt_of_lt_of_le -> gB
def Fk (c:Ctx):Option Src->Option Nat
 |none=>Y
 |some x=>c.μ x.k
theorem DQ.get : ∀{os:List OSk} {js:List Nat} {bs:List Blk},DQ c ct os js bs->js.length=bs.length/\os.length=bs.length/\∀(i j:Nat) (b:Blk),js[i]?=O j->bs[i]?=O b->∃o,os[i]?=O o/\zx c ct o (O ⟨j,Y⟩) b
 |_,_,_, .nil=>⟨rfl,rfl,λi j b h=>by simp at h⟩
 |_,_,_, .cons n p=>by
  obtain⟨e,f,g⟩:=p.get;refine⟨by simp[e],by simp[f],λi j b d a=> ?_⟩;cases i with
  |zero=>
   simp at d a;subst d;subst a;exact⟨_,rfl,n⟩
  |succ i=>
   simp at d a;obtain⟨o,q,r⟩:=g i j b d a;exact⟨o,by simpa using q,r⟩
theorem Al.get : ∀{os:List OSk} {e:List (Option Src)} {bs:List Blk},Al c ct os e bs->e.length=bs.length/\os.length=bs.length/\∀(i:Nat) (x:Option Src) (b:Blk),e[i]?=O x->bs[i]?=O b->∃o,os[i]?=O o/\zx c ct o x b
 |_,_,_, .nil=>⟨rfl,rfl,λi j b h=>by simp at h⟩
 |_,_,_, .cons p q=>by
  obtain⟨f,g,n⟩:=q.get;refine⟨by simp[f],by simp[g],λi j b d a=> ?_⟩;cases i with
  |zero=>
   simp at d a;subst d;subst a;exact⟨_,rfl,p⟩
  |succ i=>
   simp at d a;obtain⟨o,r,s⟩:=n i j b d a;exact⟨o,by simpa using r,s⟩
theorem zx.blkRel (Q:Rel c)(T:ct.Z=c.Z){o:OSk}{x:Option Src}{p:Nat}(h:zx c ct o x b)(C:ae ct.S p=b)(I:b.dim≠Y->ct.μ p=Fk c x):Oy ct p:=by
 intro u a;rw[C]at a;have e:ct.μ p=Fk c x:=I (by rw[a];simp);clear I;rcases h with⟨_,h⟩|⟨K,D⟩
 .subst h;cases a
 .cases x with
  |none=>
   obtain⟨_,s,B⟩:=D;subst B;injection a with a
   subst a;exact⟨qU s, .inl ⟨by simp,by simpa[Fk]using e⟩⟩
  |some x=>
   obtain⟨k,t⟩:=x;obtain⟨B,d,L,q,M⟩:=D;simp only[Fk]at e;obtain⟨N,P⟩:=Q.blk k d L
   have g:u.1=d.1/\u.2<=d.2:=by
    cases t with
    |none=>
     simp only at q;rw[q]at a;injection a with a
     subst a;exact⟨rfl,Nat.le_refl _⟩
    |some n=>
     simp only at q;rw[q]at a;injection a with a
     subst a;exact⟨rfl,Nat.min_le_right _ _⟩
   refine⟨by rw[g.1];exact N, ?_⟩;rcases P with⟨E,f⟩|⟨J,y,r,j,E,f,v,w,z,A⟩
   .exact .inl ⟨by omega,e.trans f⟩
   .have F:b.vals.length=u.2:=Gg a;refine .inr ⟨J,y,r.take b.vals.length,r.drop b.vals.length++j,e.trans E,by rw[T];exact f,by rw[g.1];exact v,λH=> ?_,by rw[<-List.append_assoc,List.take_append_drop];exact z, ?_⟩
    .rw[C,K]at H;exact w (B H)
    .rw[C];exact M r A
theorem YS (f:Nat->Nat): ∀n,∃K,∀j,j<n->f j<K
 |0=>⟨0,λj h=>by omega⟩
 |n+1=>by
  obtain⟨K,h⟩:=YS f n;refine⟨max K (f n+1),λj a=> ?_⟩;rcases bB j n with h1|h1
  .have:=h j h1;omega
  .have:j=n:=by omega
   subst this;omega
theorem II {n:Nat}:ae (cB n Blk.dead) k= .dead:=by
 induction n generalizing k with
 |zero=>rfl
 |succ n a=>
  cases k with
  |zero=>rfl
  |succ k=>exact a
theorem RH {N:Nat}{f:Nat->Nat}(p:Rel c)(h:qO c.S N fx sk vals=O st)(r:F2 (VRel c) vals as):
  ∃d vs fs bs,tT f sk st.ls=O (vs,fs,bs)/\DQ c d sk.fix fx fs/\Al c d sk.free st.m bs:=by
 obtain⟨K,o⟩:=YS f (N+st.m.length)
 have q:Tell c ⟨λ_=>Y,cB K .dead,c.Z,λ_=>False⟩ N f st:=by
  have n: ∀b,¬(⟨λ_=>Y,cB K .dead,c.Z,λ_=>False⟩:Ctx).mut b:=by
   rintro b (⟨k,a,_⟩|h)
   .simp only[II]at a;cases a
   .exact h
  refine⟨⟨rfl,λb _ _ _=>n b⟩,λj x s=>⟨?_,λt g=> ?_⟩,λk _ _ b _=>n b⟩
  .simp only[List.length_replicate];refine o j ?_;rcases s with⟨a,_⟩|⟨a,e⟩
   .omega
   .rw[A7]at e;rcases bB (j-N) st.m.length with h3|h3
    .omega
    .rw[bD h3]at e;cases e
  .simp only[II]at g;cases g
 obtain⟨vs,fs,bs,a,_,e,h3⟩:=Mp p q h r;exact⟨_,vs,fs,bs,a,e,h3⟩
theorem oH :qj k l=Za↔k∈l:=by
 induction l with
 |nil=>simp[qj]
 |cons a l d=>
  simp only[qj,List.mem_cons];cases h:Nat.beq a k with
  |true=>
   have:=Nat.eq_of_beq_eq_true h;simp[this]
  |false=>
   have:a≠k:=by rintro rfl;rw[Nat.beq_refl]at h;cases h
   rw[zD,d];simp[Ne.symm this]
theorem tQ :JX l=Za->l.Nodup:=by
 induction l with
 |nil=>intro _;exact List.nodup_nil
 |cons a l f=>
  intro h;simp only[JX]at h;cases d:qj a l with
  |true=>rw[d]at h;cases h
  |false=>
   rw[d]at h;refine List.nodup_cons.2 ⟨λe=> ?_,f h⟩;rw[oH.2 e]at d;cases d
theorem PC {w:List Nat}(h:Gm w l=Za)(d:k∈w):k∉l:=by
 intro a;simp only[Gm,aD]at h;have:=h k d;rw[oH.2 a]at this;cases this
theorem C0 (h:m[i]?=O (O x)):x.k∈sB m:=by
 induction m generalizing i with
 |nil=>simp at h
 |cons a m d=>
  cases i with
  |zero=>
   simp at h;subst h;exact dD
  |succ i=>
   simp at h;have:=d h;cases a with
   |none=>exact this
   |some a=>exact dB _ this
theorem Lq (d:(sB m).Nodup){j:Nat}{y:Src}(h:m[i]?=O (O x))(f:m[j]?=O (O y))(e:x.k=y.k):i=j:=by
 induction m generalizing i j with
 |nil=>simp at h
 |cons a m o=>
  cases i with
  |zero=>
   simp at h;subst h;cases j with
   |zero=>rfl
   |succ j=>
    simp at f;have g:=C0 f;simp only[sB,fB]at d;rw[e]at d;exact(d.1 g).elim
  |succ i=>
   simp at h;cases j with
   |zero=>
    simp at f;subst f;have g:=C0 h;simp only[sB,fB]at d;rw[<-e]at d;exact(d.1 g).elim
   |succ j=>
    simp at f
    have n:(sB m).Nodup:=by
     cases a with
     |none=>exact d
     |some a=>exact(List.nodup_cons.1 d).2
    rw[o n h f]
theorem LZ {os:List OSk}{o:OSk}(h:m[i]?=O (O x))(d:os[i]?=O o)(e:o.ro=Zb):x.k∈nN os m:=by
 induction m generalizing os i with
 |nil=>simp at h
 |cons a m f=>
  cases os with
  |nil=>simp at d
  |cons g os=>
   cases i with
   |zero=>
    simp at h d;subst h;subst d;simp only[nN,e,zD];exact dD
   |succ i=>
    simp at h d;have:=f h d;cases a with
    |none=>exact this
    |some a=>
     simp only[nN];cases g.ro with
     |true=>exact this
     |false=>exact dB _ this
theorem bb8 (h:b.may=Za)(d:b.dim≠Y)(a:b.frozen=Za):False:=by
 cases b with
 |dead=>exact d rfl
 |cells e z l=>simp only[Blk.may,Blk.frozen]at h a;rw[a]at h;cases h
 |arr s z l=>simp only[Blk.may,Blk.frozen]at h a;rw[a]at h;cases h
theorem Y3 (h:sk.noRo=Za):sk.fxRo=Za:=by
 unfold zd.noRo at h;rw[cD]at h;exact h.1
structure GT (c c' ct:Ctx)(N:Nat)(f:Nat->Nat)(fx:List Nat)(sk:zd)(st:DSt)(fs bs:List Blk):Prop where
 Z:ct.Z=c'.Z
 fb:ct.fb=c.fb
 len:ct.S.length=c.S.length+bs.length
 oth: ∀k,k<c.S.length->(∀j,j∈fx->f j≠k)->ae ct.S k=ae c.S k∨ae ct.S k=(ae c.S k).freeze∨(ae ct.S k= .dead/\(ae c.S k).frozen=Zb)
 fix: ∀(i j:Nat) (b:Blk),fx[i]?=O j->fs[i]?=O b->ae ct.S (f j)=b
 fixlt: ∀j,j∈fx->f j<c.S.length
 free: ∀(i:Nat) (b:Blk),bs[i]?=O b->ae ct.S (c.S.length+i)=b
 fN: ∀i,f (N+i)=c.S.length+i
 μo: ∀k,k<c.S.length->ct.μ k=c.μ k
 μn: ∀(i:Nat) (x:Option Src),st.m[i]?=O x->ct.μ (c.S.length+i)=Fk c' x
 un: ∀b y,c.Z.m b=O y->¬c.own b->c'.Z.m b=O y
 ow: ∀b y,c.Z.m b=O y->¬c.own b->¬c'.own b
 n:c.Z.n<=c'.Z.n
 oun: ∀k,k<c.S.length->(∀j,j∈fx->f j≠k)->(ae ct.S k).dim≠Y->∀b y,c.μ k=O b->c.Z.m b=O y->c'.Z.m b=O y
 odis: ∀k,k<c.S.length->(∀j,j∈fx->f j≠k)->(ae ct.S k).dim≠Y->∀s,(s∈fx∨s∈sB st.m)->(ae c'.S s).frozen=Zb->∀b,c'.μ s=O b->c.μ k≠O b
 wr: ∀j,j∈fx->(ae c'.S j).dim≠Y->(ae c.S (f j)).dim=(ae c'.S j).dim/\c'.μ j=c.μ (f j)/\∀b y,c.μ (f j)=O b->c.Z.m b=O y->∃y',c'.Z.m b=O y'/\y'.cells.length=y.cells.length
 wrz: ∀j,j∈fx->(ae c.S (f j)).may=Za
 finj: ∀j j',j∈fx->j'∈fx->f j=f j'->j=j'
 fbk: ∀k b,(ae c'.S k).dim≠Y->c'.μ k=O b->¬c.fb b
 lk: ∀j,j<N->j∉fx->Lk c' ct (O ⟨j,Y⟩) (f j)
 onm: ∀k,k<c.S.length->(∀j,j∈fx->f j≠k)->(ae ct.S k).frozen=Zb->∀b y,c.μ k=O b->c'.Z.m b=O y->c'.mut b
 olent: ∀k,k<c.S.length->(∀j,j∈fx->f j≠k)->(ae ct.S k).frozen=Zb->∀s,s∈st.lent->(ae c'.S s).dim≠Y->∀b,c'.μ s=O b->c.μ k≠O b
 fbm: ∀b,c.fb b->c'.mut b
 fxN: ∀j,j∈fx->j<N
 noro:sk.fxRo=Za
 roz:sk.noRo=Za∨∀k,k<c.S.length->(∀j,j∈fx->f j≠k)->(ae ct.S k).dim≠Y->(ae ct.S k).frozen=Za
theorem GT.all {N:Nat}{f:Nat->Nat}(g:GT c c' ct N f fx sk st fs bs)(hR:Rel c)(I:Rel c')(hd:qO c'.S N fx sk vals=O st)
  (he:tT f sk st.ls=O (vs,fs,bs)) (hf:F2 (VRel c') vals as):Le c ct/\Rel ct/\F2 (VRel ct) vs as:=by
 obtain⟨ct0,vs0,fs0,bs0,p1,p2,p3⟩:=RH (f:=f) I hd hf;rw[he]at p1;injection p1 with p1
 injection p1 with L p1
 injection p1 with M V
 subst L;subst M;subst V;obtain⟨ap1,ap2⟩:=tS hd;have hnd:=tQ ap1;rw[List.nodup_append]at hnd;obtain⟨nd1,nd2,nd3⟩:=hnd;obtain⟨x1,x2,x3⟩:=p2.get;obtain⟨y1,y2,y3⟩:=p3.get;have hro:=g.noro;unfold zd.fxRo at hro;rw[aD]at hro
 have nro: ∀(i:Nat) (o:OSk),sk.fix[i]?=O o->o.ro=Zb:=by
  intro i o h;simpa using hro o (eD h)
 have nro2: ∀(i:Nat) (o:OSk),sk.noRo=Za->sk.free[i]?=O o->o.ro=Zb:=by
  intro i o P h;unfold zd.noRo at P;rw[cD,aD,aD]at P;simpa using P.2 o (eD h)
 have U: ∀j,j∈fx->∃(i:Nat) (b:Blk) (o:OSk),fx[i]?=O j/\fs[i]?=O b/\sk.fix[i]?=O o/\ae ct.S (f j)=b/\zx c' ct0 o (O ⟨j,Y⟩) b:=by
  intro j t;obtain⟨i,B,e⟩:=List.mem_iff_getElem.1 t;have h1:fx[i]?=O j:=by rw[aB B,e]
  have p:i<fs.length:=by rw[<-x1];exact B
  obtain⟨o,q,r⟩:=x3 i j _ h1 (aB p);exact⟨i,fs[i],o,h1,aB p,q,g.fix i j _ h1 (aB p),r⟩
 have A: ∀i,i<bs.length->∃(b:Blk) (x:Option Src) (o:OSk),st.m[i]?=O x/\bs[i]?=O b/\sk.free[i]?=O o/\ae ct.S (c.S.length+i)=b/\ct.μ (c.S.length+i)=Fk c' x/\zx c' ct0 o x b:=by
  intro i B;have p:i<st.m.length:=by rw[y1];exact B
  obtain⟨o,q,r⟩:=y3 i _ _ (aB p) (aB B);exact⟨bs[i],st.m[i],o,aB p,aB B,q,g.free i _ (aB B),g.μn i _ (aB p),r⟩
 have C: ∀k,(ae ct.S k).dim≠Y->(∃j,j∈fx/\f j=k)∨(k<c.S.length/\(∀j,j∈fx->f j≠k))∨(∃i,i<bs.length/\k=c.S.length+i):=by
  intro k w;have hl:=qu w;rw[g.len]at hl;by_cases h1:k<c.S.length
  .by_cases p: ∃j,j∈fx/\f j=k
   .exact .inl p
   .exact .inr (.inl ⟨h1,λj t e=>p ⟨j,t,e⟩⟩)
  .exact .inr (.inr ⟨k-c.S.length,by omega,by omega⟩)
 have F: ∀j,j∈fx->∀d,(ae ct.S (f j)).dim=O d->(ae c'.S j).dim=O d/\(ae c'.S j).frozen=Zb/\(ae c.S (f j)).dim=O d/\c'.μ j=c.μ (f j):=by
  intro j t d a;obtain⟨i,b,o,h1,p,q,r,v⟩:=U j t;rw[r]at a;rcases v with⟨_,v⟩|⟨v,D,d0,h7,h8,h9⟩
  .subst v;cases a
  .simp only at h8;rw[h8]at a;injection a with a
   subst a;obtain⟨w1,w2,_⟩:=g.wr j t (by rw[h7];simp);exact⟨h7,D (nro i o q),by rw[w1,h7],w2⟩
 have found: ∀i,i<bs.length->∀d,(ae ct.S (c.S.length+i)).dim=O d->(∃x,st.m[i]?=O (O x)/\((ae ct.S (c.S.length+i)).frozen=Zb∨sk.noRo=Za->(ae c'.S x.k).frozen=Zb)/\(ae c'.S x.k).dim≠Y/\ct.μ (c.S.length+i)=c'.μ x.k)∨ct.μ (c.S.length+i)=Y:=by
  intro i B d a;obtain⟨b,x,o,h1,p,q,r,v,D⟩:=A i B;rw[r]at a;rcases D with⟨_,D⟩|⟨D,h7⟩
  .subst D;cases a
  .cases x with
   |none=>exact .inr v
   |some x=>
    obtain⟨k,cut⟩:=x;obtain⟨h7,d2,h8,_⟩:=h7;refine .inl ⟨_,h1,λhz=>h7 ?_,by rw[h8];simp,v⟩;rcases hz with hz|hz
    .rw[r,D]at hz;exact hz
    .exact nro2 i o hz q
 have z: ∀k b,(ae ct.S k).dim≠Y->ct.μ k=O b->(k<c.S.length/\(∀j,j∈fx->f j≠k)/\c.μ k=O b)∨
   ∃s,(s∈fx∨s∈sB st.m)/\((ae ct.S k).frozen=Zb∨sk.noRo=Za->(ae c'.S s).frozen=Zb)/\(ae c'.S s).dim≠Y/\c'.μ s=O b/\((s∈fx/\k=f s)∨∃i x,st.m[i]?=O (O x)/\x.k=s/\k=c.S.length+i):=by
  intro k b w H;cases T:(ae ct.S k).dim with
  |none=>exact(w T).elim
  |some d=>
   rcases C k w with⟨j,t,rfl⟩|⟨h1,p⟩|⟨i,B,rfl⟩
   .obtain⟨h1,p,q,r⟩:=F j t d T;exact .inr ⟨j, .inl t,λ_=>p,by rw[h1];simp,by rw[r,<-g.μo _ (g.fixlt j t)];exact H, .inl ⟨t,rfl⟩⟩
   .exact .inl ⟨h1,p,by rw[<-g.μo k h1];exact H⟩
   .rcases found i B d T with⟨x,h1,p,h2',q⟩|h1
    .exact .inr ⟨x.k, .inr (C0 h1),p,h2',by rw[<-q];exact H, .inr ⟨i,x,h1,rfl,rfl⟩⟩
    .rw[h1]at H;cases H
 have u: ∀k,k<c.S.length->(∀j,j∈fx->f j≠k)->(ae ct.S k).dim≠Y->(ae ct.S k=ae c.S k∨ae ct.S k=(ae c.S k).freeze):=by
  intro k h1 p q;rcases g.oth k h1 p with h|h|⟨h,_⟩
  .exact .inl h
  .exact .inr h
  .rw[h]at q;exact(q rfl).elim
 have K: ∀k,k<c.S.length->(∀j,j∈fx->f j≠k)->(ae ct.S k).frozen=Zb->ae ct.S k=ae c.S k:=by
  intro k h1 p q;rcases u k h1 p (qP q)with h|h
  .exact h
  .rw[h,oh]at q;cases q
 have hle:Le c ct:=by
  refine⟨by rw[g.len];exact fD _ _,λk d w a=>⟨?_,g.μo k w⟩,λk hz E=> ?_,λk d b y w a H hy=> ?_,λb y hy P=>by rw[g.Z];exact g.un b y hy P,λb y hy P=> ?_,by rw[g.Z];exact g.n,g.fb⟩
  .rcases C k (by rw[a];simp)with⟨j,t,rfl⟩|⟨h1,p⟩|⟨i,B,rfl⟩
   .exact(F j t d a).2.2.1
   .rcases u k h1 p (by rw[a];simp)with h|h
    .rw[<-h];exact a
    .rw[h,gp]at a;exact a
   .omega
  .have w:=qu E;by_cases p: ∃j,j∈fx/\f j=k
   .obtain⟨j,t,rfl⟩:=p;exact(bb8 (g.wrz j t) E hz).elim
   .rcases g.oth k w (λj t e=>p ⟨j,t,e⟩)with h|h|⟨_,h⟩
    .exact h
    .rw[h,E9 hz]
    .rw[h]at hz;cases hz
  .rw[g.Z];rcases C k (by rw[a];simp)with⟨j,t,rfl⟩|⟨h1,p⟩|⟨i,B,rfl⟩
   .obtain⟨h1,p,q,r⟩:=F j t d a;exact(g.wr j t (by rw[h1];simp)).2.2 b y H hy
   .exact⟨y,g.oun k h1 p (by rw[a];simp) b y H hy,rfl⟩
   .omega
  .rintro⟨k,h1,p⟩;rcases z k b (qP h1) p with⟨q,r,v⟩|⟨s,q,r,_,v,_⟩
   .exact P ⟨k,by rw[<-K k q r h1];exact h1,v⟩
   .exact g.ow b y hy P ⟨s,r (.inl h1),v⟩
 have hT:Tell c' ct N f st:=by
  have hsp: ∀k b,(ae ct.S k).frozen=Zb->ct.μ k=O b->(k<c.S.length/\(∀j,j∈fx->f j≠k)/\c.μ k=O b)∨∃s,(s∈fx∨s∈nN sk.free st.m)/\(ae c'.S s).frozen=Zb/\c'.μ s=O b:=by
   intro k b h1 p;rcases z k b (qP h1) p with h|⟨s,q,r,_,v,D⟩
   .exact .inl h
   .refine .inr ⟨s, ?_,r (.inl h1),v⟩;rcases D with⟨D,_⟩|⟨i,x,D,h7,h8⟩
    .exact .inl D
    .refine .inr ?_
     have B:i<bs.length:=by
      rw[<-y1];rcases bB i st.m.length with h|h
      .exact h
      .rw[bD h]at D;cases D
     obtain⟨b',x',o,L,M,V,W,q5,Q⟩:=A i B;rw[<-h7];refine LZ D V ?_;rcases Q with⟨Q,_⟩|⟨Q,_⟩
     .rw[Q];rfl
     .rw[<-Q,<-W,<-h8];exact h1
  refine⟨⟨g.Z,λb y hy P=> ?_⟩,λj x hl=> ?_,λs hs hsd b H=> ?_⟩
  .rintro(⟨k,h1,p⟩|h)
   .rcases hsp k b h1 p with⟨q,r,v⟩|⟨s,q,r,v⟩
    .exact P (g.onm k q r h1 b y v hy)
    .exact P (.inl ⟨s,r,v⟩)
   .rw[g.fb]at h;exact P (g.fbm b h)
  .rcases hl with⟨h1,rfl⟩|⟨h1,p⟩
   .by_cases t:j∈fx
    .refine⟨by rw[g.len];exact gB (g.fixlt j t) (fD _ _),λd' a=> ?_⟩;obtain⟨L,M,V,W⟩:=F j t d' a;exact⟨d',L,rfl,by rw[g.μo _ (g.fixlt j t),W],rfl⟩
    .exact g.lk j h1 t
   .rw[A7]at p
    have B:j-N<bs.length:=by
     rw[<-y1];rcases bB (j-N) st.m.length with h|h
     .exact h
     .rw[bD h]at p;cases p
    have hfj:f j=c.S.length+(j-N):=by rw[<-g.fN];congr 1;omega
    rw[hfj];refine⟨by rw[g.len];omega,λd' a=> ?_⟩;obtain⟨b,x',o,L,M,V,W,q5,Q⟩:=A (j-N) B;rw[p]at L;injection L with L
    subst L;rw[W]at a;rcases Q with⟨_,Q⟩|⟨Q,q7⟩
    .subst Q;cases a
    .cases x with
     |none=>
      obtain⟨_,s,q8⟩:=q7;subst q8;injection a with a
      subst a;exact⟨by simp,q5⟩
     |some x=>
      obtain⟨k,cut⟩:=x;obtain⟨q8,d,q9,q10,q11⟩:=q7;refine⟨d,q9, ?_⟩;cases cut with
      |none=>
       simp only at q10;rw[q10]at a;injection a with a
       subst a;exact⟨rfl,q5,rfl⟩
      |some n=>
       simp only at q10;rw[q10]at a;injection a with a
       subst a;exact⟨rfl,q5,rfl⟩
  .rintro(⟨k,h1,p⟩|h)
   .rcases hsp k b h1 p with⟨q,r,v⟩|⟨s',q,r,v⟩
    .exact g.olent k q r h1 s hs hsd b H v
    .have:=I.inj s' s b r hsd v H;subst this;exact PC ap2 (List.mem_append.2 q) hs
   .rw[g.fb]at h;exact g.fbk s b hsd H h
 obtain⟨vs1,fs1,bs1,r1,r2,r3,r4⟩:=Mp I hT hd hf;rw[he]at r1;injection r1 with r1
 injection r1 with e1 r1
 injection r1 with e2 e3
 subst e1;subst e2;subst e3;obtain⟨_,_,x4⟩:=r3.get;obtain⟨_,_,y4⟩:=r4.get;refine⟨hle,⟨by rw[g.Z];exact I.ok,λk k' b w J H hm'=> ?_,λk=> ?_,λk b w H hb=> ?_,λb hb=> ?_⟩,r2⟩
 .rcases z k b (qP w) H with⟨h1,p,q⟩|⟨s,h1,p,_,q,r⟩
  .rcases z k' b J hm' with⟨g1,g2,g3⟩|⟨s',g1,g2,_,g3,X⟩
   .refine hR.inj k k' b (by rw[<-K k h1 p w];exact w) ?_ q g3;rcases u k' g1 g2 J with h|h
    .rw[<-h];exact J
    .rw[h,gp]at J;exact J
   .rcases g.roz with P|hz
    .exact(g.odis k h1 p (qP w) s' g1 (g2 (.inr P)) b g3 q).elim
    .rw[hz k h1 p (qP w)]at w;cases w
  .rcases z k' b J hm' with⟨g1,g2,g3⟩|⟨s',g1,_,g2,g3,X⟩
   .exact(g.odis k' g1 g2 J s h1 (p (.inl w)) b q g3).elim
   .have:=I.inj s s' b (p (.inl w)) g2 q g3;subst this;rcases r with⟨r,v⟩|⟨i,x,r,v,D⟩
    .rcases X with⟨X,g5⟩|⟨i',x',X,g5,g6⟩
     .rw[v,g5]
     .subst g5;exact(nd3 _ r _ (C0 X) rfl).elim
    .rcases X with⟨X,g5⟩|⟨i',x',X,g5,g6⟩
     .subst v;exact(nd3 _ X _ (C0 r) rfl).elim
     .rw[D,g6,Lq nd2 r X (v.trans g5.symm)]
 .by_cases E:(ae ct.S k).dim=Y
  .intro d a;rw[E]at a;cases a
  .rcases C k E with⟨j,t,rfl⟩|⟨h1,p⟩|⟨i,B,rfl⟩
   .obtain⟨i,b,o,L,M,V,W,q5⟩:=U j t;obtain⟨o',Q,q7⟩:=x4 i j b L M;refine q7.blkRel I g.Z W λhb=> ?_
    cases T:(ae ct.S (f j)).dim with
    |none=>exact(E T).elim
    |some d=>
     obtain⟨_,_,_,q8⟩:=F j t d T;rw[g.μo _ (g.fixlt j t),<-q8];rfl
   .intro d a;have q:=u k h1 p E
    have hdc:(ae c.S k).dim=O d:=by
     rcases q with h|h
     .rw[<-h];exact a
     .rw[h,gp]at a;exact a
    have hvc:(ae ct.S k).vals=(ae c.S k).vals:=by
     rcases q with h|h
     .rw[h]
     .rw[h,NH]
    obtain⟨L,M⟩:=hR.blk k d hdc;refine⟨L, ?_⟩;rcases M with⟨M,V⟩|⟨b,y,cs,rest,M,V,W,q5,Q,q7⟩
    .exact .inl ⟨M,(g.μo k h1).trans V⟩
    .refine .inr ⟨b,y,cs,rest,(g.μo k h1).trans M,by rw[g.Z];exact g.oun k h1 p E b y M V,W,λhz=> ?_,Q,by rw[hvc];exact VRel.frames hle q7⟩;rw[K k h1 p hz]at hz;exact q5 hz
   .obtain⟨b,x,o,L,M,V,W,q5,Q⟩:=A i B;obtain⟨o',q7,q8⟩:=y4 i x b L M;exact q8.blkRel I g.Z W λ_=>q5
 .rw[g.fb]at hb;rcases z k b w H with⟨h1,p,q⟩|⟨s,h1,_,p,q,_⟩
  .refine hR.fbk k b ?_ q hb;rcases u k h1 p w with h|h
   .rw[<-h];exact w
   .rw[h,gp]at w;exact w
  .exact g.fbk s b p q hb
 .rw[g.fb]at hb;rw[g.Z];exact gB (hR.fbl b hb) g.n
end
section
open Bool renaming or_eq_false_iff -> aB
open List renaming cons_append -> bB, length_append -> bD, mem_of_getElem? -> cB, nodup_append -> cD
open Nat renaming zero_add -> aD, add_sub_cancel_left -> dB
theorem qd {fx mov:List Nat}{fz:Bool}: ∀{S:ak} {i:Nat},(nE fx mov fz i S).length=S.length
 |[],_=>rfl
 |_::r,i=>by simp[nE,qd (S:=r)]
theorem qc {fx mov:List Nat}{fz:Bool}: ∀{S:ak} {i k:Nat},k<S.length->ae (nE fx mov fz i S) k=cond (qj (i+k) mov) (cond (ae S k).frozen (ae S k) .dead) (cond (qj (i+k) fx) (ae S k) (cond fz (ae S k).freeze (ae S k)))
 |[],_,_,h=>by simp at h
 |b::r,i,0,_=>rfl
 |b::r,i,k+1,h=>by
  have:=qc (fx:=fx) (mov:=mov) (fz:=fz) (S:=r) (i:=i+1) (k:=k) (by simpa using h);rw[show i+1+k=i+(k+1)by omega]at this;exact this
theorem nM : ∀{js:List Nat} {bs:List Blk} {S S':ak},AJ js bs S=O S'->js.length=bs.length/\S'.length=S.length/\(∀k,k∉js->ae S' k=ae S k)/\
  (js.Nodup->∀(i j:Nat) (b:Blk),js[i]?=O j->bs[i]?=O b->j<S.length->ae S' j=b)
 |[],[],S,S',h=>by
  injection h with h;subst h
  exact⟨rfl,rfl,λ_ _=>rfl,λ_ i j b h=>by simp at h⟩
 |[],_::_,S,S',h=>by cases h
 |_::_,[],S,S',h=>by cases h
 |j::js,b::bs,S,S',h=>by
  simp only[AJ]at h;obtain⟨q,r,g,s⟩:=nM h;refine⟨by simp[q],by rw[r,IJ],λk n=> ?_,λf i t p d a o=> ?_⟩
  .rw[g k (λe=>n (List.mem_cons_of_mem _ e))];exact aN2 (λe=>n (by rw[e];exact List.mem_cons_self))
  .rw[List.nodup_cons]at f;cases i with
   |zero=>
    simp at d a;subst d;subst a;rw[g j f.1];exact ac4 o
   |succ i=>
    simp at d a;exact s f.2 i t p d a (by rw[IJ];exact o)
theorem AF : ∀{l:List Blk} {i:Nat} {b:Blk},l[i]?=O b->ae l i=b
 |[],i,b,h=>by simp at h
 |a::l,0,b,h=>by simpa[ae]using h
 |a::l,i+1,b,h=>AF (l:=l) (by simpa using h)
structure Within (c c1:Ctx)(fx mov:List Nat):Prop where
 le:Le c c1
 fr: ∀k,k<c.S.length->k∉fx->(k∉mov∨(ae c.S k).frozen=Za)->ae c1.S k=(ae c.S k).freeze
 un: ∀k,k<c.S.length->k∉fx->(k∉mov∨(ae c.S k).frozen=Za)->(ae c.S k).dim≠Y->∀b y,c.μ k=O b->c.Z.m b=O y->c1.Z.m b=O y
theorem pO {S:ak}(h:N4 S fx=Za){j:Nat}(e:j∈fx):j<S.length/\(ae S j).may=Za:=by
 simp only[N4,List.all_eq_true,Bool.and_eq_true]at h;obtain⟨a,d⟩:=h j e;exact⟨Nat.le_of_ble_eq_true a,d⟩
theorem nG (h:k∉l):qj k l=Zb:=by
 cases a:qj k l with
 |false=>rfl
 |true=>exact(h (oH.1 a)).elim
theorem BX {fz:Bool}{S:ak}(g:k<S.length)(f:k∉fx)(a:(ae (nE fx mov fz 0 S) k).dim≠Y):(k∉mov∨(ae S k).frozen=Za)/\ae (nE fx mov fz 0 S) k=cond fz (ae S k).freeze (ae S k):=by
 rw[qc g,aD,nG f]at a⊢;by_cases d:k∈mov
 .rw[oH.2 d]at a⊢;cases e:(ae S k).frozen with
  |false=>rw[e]at a;exact(a rfl).elim
  |true=>exact⟨.inr rfl,by cases fz<;>simp[E9 e]⟩
 .rw[nG d];exact⟨.inl d,rfl⟩
theorem aU5 (hR:Rel c)(J:Rel c')(U:Within c c1 fx mov)(hR1:Rel c1)(K:Le c1 c')
  (B:N4 c.S fx=Za) (hro:sk.fxRo=Za) (hd:qO c'.S c.S.length fx sk vals=O st) (he:tT id sk st.ls=O (vs,fs,bs)) (hf:F2 (VRel c') vals as) (hS:AJ fx fs (nE fx mov Za 0 c.S)=O S'):
  ∃ct:Ctx,ct.Z=c'.Z/\ct.S=S'++bs/\ct.fb=c.fb/\(∀k,k<c.S.length->ct.μ k=c.μ k)/\Le c ct/\Rel ct/\F2 (VRel ct) vs as/\
   (∀k,k<c.S.length->k∉fx->(ae ct.S k).dim≠Y->(k∉mov∨(ae c.S k).frozen=Za)/\∀b y,c.μ k=O b->c.Z.m b=O y->ct.Z.m b=O y):=by
 obtain⟨s1,V,s3,s4⟩:=nM hS;rw[qd]at V s4;obtain⟨W,_⟩:=tS hd;have T:=tQ W;rw[cD]at T;obtain⟨nd1,_,_⟩:=T;have q:=U.le.trans K;have P:c'.fb=c.fb:=q.fb
 let ct:Ctx:=⟨λi=>if i<c.S.length then c.μ i else match st.m[i-c.S.length]? with
  |some x=>Fk c' x
  |none=>Y,S'++bs,c'.Z,c.fb⟩
 have F: ∀k,k<c.S.length->ae ct.S k=ae S' k:=λk f=>qS (by rw[V];exact f)
 have H: ∀k,k<c.S.length->k∉fx->ae ct.S k=ae (nE fx mov Za 0 c.S) k:=λk f o=>by rw[F k f,s3 k o]
 have h: ∀k,k<c.S.length->k∉fx->(ae ct.S k).dim≠Y->(k∉mov∨(ae c.S k).frozen=Za)/\ae ct.S k=(ae c.S k).freeze/\ae c'.S k=(ae c.S k).freeze/\c'.μ k=c.μ k/\(ae c.S k).dim≠Y:=by
  intro k f o a;rw[H k f o]at a⊢;obtain⟨w,t⟩:=BX f o a;have z:=U.fr k f o w;rw[t]at a;simp only[zC]at a t;rw[gp]at a
  have C:ae c'.S k=(ae c.S k).freeze:=by
   rw[K.fz k (by rw[z,oh]) (by rw[z,gp];exact a),z]
  refine⟨w,t,C, ?_,a⟩;cases p:(ae c.S k).dim with
  |none=>exact(a p).elim
  |some d=>exact(q.al k d f (by rw[C,gp];exact p)).2
 have I: ∀k,k<c.S.length->k∉fx->(ae ct.S k).dim≠Y->∀b y,c.μ k=O b->c.Z.m b=O y->c'.Z.m b=O y:=by
  intro k f o a b y r M;obtain⟨w,t,z,C,E⟩:=h k f o a;have h6:=U.un k f o w E b y r M;have X:=U.fr k f o w
  have Q:c1.μ k=O b:=by
   cases p:(ae c.S k).dim with
   |none=>exact(E p).elim
   |some d=>rw[(U.le.al k d f (by rw[X,gp];exact p)).2];exact r
  have h8: ¬c1.mut b:=hR1.fz_mut (by rw[X,oh]) (by rw[X,gp];exact E) Q;exact K.un b y h6 λe=>h8 (.inl e)
 have g:GT c c' ct c.S.length id fx sk st fs bs:=by
  refine⟨rfl,rfl,by simp[ct,V],λk f o=> ?_,λi j b hi N=> ?_,λj u=>(pO B u).1,λi b N=> ?_,λ_=>rfl,λk f=>zE f,λi x hx=> ?_,q.un,q.ow,q.n,λk f o a b y r M=> ?_,λk f o a s hs v b r e=> ?_,λj u a=> ?_,λj u=>(pO B u).2,
   λ_ _ _ _ e=>e,λk b a r=> ?_,λj u o=> ?_,λk f o v b y r M=> ?_,λk f o v s hs hsd b r e=> ?_,λb N=> ?_,λj u=>(pO B u).1,hro, .inr λk f o a=>by rw[(h k f (λe=>o k e rfl) a).2.1,oh]⟩
  .have L:k∉fx:=λe=>o k e rfl
   rw[H k f L];by_cases a:(ae (nE fx mov Za 0 c.S) k).dim=Y
   .rw[qc f,aD,nG L]at a⊢;by_cases r:k∈mov
    .rw[oH.2 r]at a⊢;cases v:(ae c.S k).frozen with
     |false=>exact .inr (.inr ⟨rfl,rfl⟩)
     |true=>exact .inl rfl
    .rw[nG r];exact .inr (.inl rfl)
   .exact .inr (.inl (BX f L a).2)
  .have u:=cB hi;have A:=(pO B u).1;show ae ct.S j=b;rw[F j A];exact s4 nd1 i j b hi N A
  .show ae (S'++bs) (c.S.length+i)=b;rw[<-V,wS];exact AF N
  .show(if c.S.length+i<c.S.length then _ else _)=_;rw[Zh,dB,hx]
  .exact I k f (λe=>o k e rfl) a b y r M
  .obtain⟨w,t,z,C,E⟩:=h k f (λe=>o k e rfl) a;have:=J.inj s k b v (by rw[z,gp];exact E) r (C.trans e);subst this;rw[z,oh]at v;cases v
  .have A:=(pO B u).1;cases p:(ae c'.S j).dim with
   |none=>exact(a p).elim
   |some d=>
    obtain⟨w,t⟩:=q.al j d A p;exact⟨w,t,λb y r M=>q.ln j d b y A p r M⟩
  .rw[<-P];exact J.fbk k b a r
  .refine⟨by simp only[id,ct,bD,V];omega,λd' D=> ?_⟩;obtain⟨w,t,z,C,E⟩:=h j u o (by rw[show id j=j from rfl]at D;rw[D];simp);rw[show id j=j from rfl,t]at D;refine⟨d',by rw[z];exact D,rfl, ?_,rfl⟩;show(if j<c.S.length then c.μ j else _)=_;rw[zE u,C]
  .obtain⟨w,t,z,C,E⟩:=h k f (λe=>o k e rfl) (qP v);rw[t,oh]at v;cases v
  .obtain⟨w,t,z,C,E⟩:=h k f (λe=>o k e rfl) (qP v);rw[t,oh]at v;cases v
  .exact .inr (by rw[P];exact N)
 obtain⟨r1,r2,r3⟩:=g.all hR J hd he hf;exact⟨ct,rfl,rfl,rfl,λk f=>zE f,r1,r2,r3,λk f o a=>⟨(h k f o a).1,I k f o a⟩⟩
theorem ag3 (F:Rel c)
  (u:N4 c.S fx=Za) (J:sk.fxRo=Za) (L:qO c.S c.S.length fx sk vals=O st) (T:tT id sk st.ls=O (vs,fs,bs)) (U:F2 (VRel c) vals as) (Q:AJ fx fs (nE fx (sB st.m) Za 0 c.S)=O S'):
  ∃ct:Ctx,ct.Z=c.Z/\ct.S=S'++bs/\ct.fb=c.fb/\(∀k,k<c.S.length->ct.μ k=c.μ k)/\Le c ct/\Rel ct/\F2 (VRel ct) vs as:=by
 obtain⟨s1,D,s3,N⟩:=nM Q;rw[qd]at D N;obtain⟨I,_⟩:=tS L;have C:=tQ I;rw[cD]at C;obtain⟨K,_,_⟩:=C
 let ct:Ctx:=⟨λi=>if i<c.S.length then c.μ i else match st.m[i-c.S.length]? with
  |some x=>Fk c x
  |none=>Y,S'++bs,c.Z,c.fb⟩
 have v: ∀k,k<c.S.length->ae ct.S k=ae S' k:=λk d=>qS (by rw[D];exact d)
 have w: ∀k,k<c.S.length->k∉fx->ae ct.S k=ae (nE fx (sB st.m) Za 0 c.S) k:=λk d n=>by rw[v k d,s3 k n]
 have f: ∀k,k<c.S.length->k∉fx->(ae ct.S k).dim≠Y->(k∉sB st.m∨(ae c.S k).frozen=Za)/\ae ct.S k=(ae c.S k).freeze/\(ae c.S k).dim≠Y:=by
  intro k d n a;rw[w k d n]at a⊢;obtain⟨h1,q⟩:=BX d n a;rw[q]at a;simp only[zC]at a q;rw[gp]at a;exact⟨h1,q,a⟩
 have g:GT c c ct c.S.length id fx sk st fs bs:=by
  refine⟨rfl,rfl,by simp[ct,D],λk d n=> ?_,λi j b M A=> ?_,λj p=>(pO u p).1,λi b A=> ?_,λ_=>rfl,λk d=>zE d,λi x W=> ?_,λ_ _ h _=>h,λ_ _ _ h=>h,Nat.le_refl _,λk d n a b y t H=>H,λk d n a s hs o b t e=> ?_,λj p a=>⟨rfl,rfl,λb y _ H=>⟨y,H,rfl⟩⟩,λj p=>(pO u p).2,
   λ_ _ _ _ e=>e,λk b a t=>F.fbk k b a t,λj p n=> ?_,λk d n o b y t H=> ?_,λk d n o s hs V b t e=> ?_,λb A=> .inr A,λj p=>(pO u p).1,J, .inr λk d n a=>by rw[(f k d (λe=>n k e rfl) a).2.1,oh]⟩
  .have z:k∉fx:=λe=>n k e rfl
   rw[w k d z];by_cases a:(ae (nE fx (sB st.m) Za 0 c.S) k).dim=Y
   .rw[qc d,aD,nG z]at a⊢;by_cases t:k∈sB st.m
    .rw[oH.2 t]at a⊢;cases o:(ae c.S k).frozen with
     |false=>exact .inr (.inr ⟨rfl,rfl⟩)
     |true=>exact .inl rfl
    .rw[nG t];exact .inr (.inl rfl)
   .exact .inr (.inl (BX d z a).2)
  .have p:=cB M;have B:=(pO u p).1;show ae ct.S j=b;rw[v j B];exact N K i j b M A B
  .show ae (S'++bs) (c.S.length+i)=b;rw[<-D,wS];exact AF A
  .show(if c.S.length+i<c.S.length then _ else _)=_;rw[Zh,dB,W]
  .obtain⟨h1,q,E⟩:=f k d (λe=>n k e rfl) a;have:=F.inj s k b o E t e;subst this;rcases hs with hs|hs
   .exact n s hs rfl
   .rcases h1 with h1|h1
    .exact h1 hs
    .rw[h1]at o;cases o
  .refine⟨by simp only[id,ct,bD,D];omega,λP r=> ?_⟩;obtain⟨h1,q,E⟩:=f j p n (by rw[show id j=j from rfl]at r;rw[r];simp);rw[show id j=j from rfl,q,gp]at r;refine⟨P,r,rfl, ?_,rfl⟩;show(if j<c.S.length then c.μ j else _)=_;rw[zE p]
  .obtain⟨h1,q,E⟩:=f k d (λe=>n k e rfl) (qP o);rw[q,oh]at o;cases o
  .obtain⟨h1,q,E⟩:=f k d (λe=>n k e rfl) (qP o);rw[q,oh]at o;cases o
 obtain⟨X,r2,r3⟩:=g.all F F L T U;exact⟨ct,rfl,rfl,rfl,λk d=>zE d,X,r2,r3⟩
theorem SC (a:Le c c1)(n:AJ fx fs (nE fx mov Za 0 c.S)=O S')(j:c1.S=S'++bs)
  (e: ∀k,k<c.S.length->k∉fx->(k∉mov∨(ae c.S k).frozen=Za)->(ae c.S k).dim≠Y->∀b y,c.μ k=O b->c.Z.m b=O y->c1.Z.m b=O y):Within c c1 fx mov:=by
 obtain⟨p,h,o,q⟩:=nM n;rw[qd]at h;refine⟨a,λk f g d=> ?_,e⟩;rw[j,qS (by rw[h];exact f),o k g,qc f,aD,nG g];rcases d with d|hz
 .rw[nG d];rfl
 .cases qj k mov with
  |false=>rfl
  |true=>rw[hz];simp[E9 hz]
section
variable {ctf ct:Ctx}
theorem VRel.thaw (p:ct.μ=ctf.μ)(r:ct.Z=ctf.Z)(o:ct.S.length=ctf.S.length)(j: ∀k,(ae ct.S k).dim=(ae ctf.S k).dim): ∀{v:VV} {a:Value},VRel ctf v a->alV v=Zb->VRel ct v a
 |_,_, .undef a,_=> .undef a
 |_,_, .bool b,_=> .bool b
 |_,_, .int k n,_=> .int k n
 |_,_, .str s,_=> .str s
 |_,_, .nilp,_=> .nilp
 |_,_, .nils,_=> .nils
 |_,_, .nilf,_=> .nilf
 |_,_, .ptr g e f,_=> .ptr (by rw[o];exact g) e λd h=>by rw[j]at h;rw[p];exact f d h
 |_,_, .it g e s f,_=> .it (by rw[o];exact g) e s λd h=>by rw[j]at h;rw[p];exact f d h
 |_,_, .bld g e f,_=> .bld (by rw[o];exact g) e λd h=>by rw[j]at h;rw[p];exact f d h
 |_,_, .pix g e u f,_=> .pix (by rw[o];exact g) e u λd h=>by rw[j]at h;rw[p];exact f d h
 |_,_, .pel g e f,_=> .pel (by rw[o];exact g) e λd h=>by rw[j]at h;rw[p];exact f d h
 |_,_, .pin _ _ _ _,h=>by cases h
 |_,_, .lstn _,h=>by cases h
 |_,_, .tgtn _,h=>by cases h
 |_,_, .tgt _ _ _ _ _,h=>by cases h
 |_,_, .lst _ _ _ _ _ _ _,h=>by cases h
 |_,_, .full g e f,_=> .full (by rw[o];exact g) e λd h=>by
  rw[j]at h;obtain⟨n,t,q⟩:=f d h;refine⟨n,t, ?_⟩;unfold KH at q⊢;rw[p,r];exact q
 |_,_, .part g e f,_=> .part (by rw[o];exact g) e λd h=>by
  rw[j]at h;have q:=f d h;unfold KH at q⊢;rw[p,r];exact q
 |_,_, .fn e f,h=>by
  simp only[alV,aB]at h;exact .fn (go e h.1) (go f h.2)
 |_,_, .agg e,h=>by
  simp only[alV]at h;exact .agg (go e h)
 |_,_, .tup e,h=>by
  simp only[alV]at h;exact .tup (go e h)
where
 go: ∀{l:List VV} {m:List Value},F2 (VRel ctf) l m->TB l=Zb->F2 (VRel ct) l m
  |_,_, .nil,_=> .nil
  |_,_, .cons e f,h=>by
   simp only[TB,aB]at h;exact .cons (VRel.thaw p r o j e h.1) (go f h.2)
theorem KD : ∀{s:Sh} (x:El s),s.al=Zb->TB (du s x)=Zb
 | .int _,_,_=>rfl
 | .bool,_,_=>rfl
 | .str,_,_=>rfl
 | .list _,_,h=>by cases h
 | .pair a b,x,h=>by
  simp only[Sh.al,aB]at h;have d:=KD x.1 h.1;have e:=KD x.2 h.2;simp only[du];revert d;generalize du a x.1=l;intro d;induction l with
  |nil=>exact e
  |cons v l f=>
   simp only[TB,aB,bB]at d⊢;exact⟨d.1,f d.2⟩
theorem aG0 {l m:List VV}(a:TB l=Zb)(d:TB m=Zb):TB (l++m)=Zb:=by
 induction l with
 |nil=>exact d
 |cons v l e=>
  simp only[TB,aB,bB]at a⊢;exact⟨a.1,e a.2⟩
theorem ao7 (h:alB b=Zb):TB b.vals=Zb:=by
 cases b with
 |dead=>rfl
 |cells d z l=>exact h
 |arr s z l=>
  simp only[Blk.vals];induction l with
  |nil=>rfl
  |cons x l a=>rw[jc];exact aG0 (KD x h) (a h)
theorem thaw {c:Ctx}{S2:ak}{vs:List VV}{as:List Value}(hR:Rel c)(f:Le c ctf)(o:Rel ctf)(hf:F2 (VRel ctf) vs as)(U:TB vs=Zb)(s:S2.length=ctf.S.length)(M: ∀k,k<c.S.length->ctf.μ k=c.μ k)
  (J: ∀k,(ae S2 k=ae ctf.S k/\((ae ctf.S k).dim≠Y->((ae ctf.S k).frozen=Zb/\alB (ae ctf.S k)=Zb)∨(k<c.S.length/\ae ctf.S k=ae c.S k/\∀b y,c.μ k=O b->c.Z.m b=O y->ctf.Z.m b=O y)))∨
   (k<c.S.length/\ae S2 k=ae c.S k/\ae ctf.S k=(ae c.S k).freeze/\((ae c.S k).dim≠Y->∀b y,c.μ k=O b->c.Z.m b=O y->ctf.Z.m b=O y))):
  Le c ⟨ctf.μ,S2,ctf.Z,ctf.fb⟩/\Rel ⟨ctf.μ,S2,ctf.Z,ctf.fb⟩/\F2 (VRel ⟨ctf.μ,S2,ctf.Z,ctf.fb⟩) vs as:=by
 have D: ∀k,(ae S2 k).dim=(ae ctf.S k).dim:=by
  intro k;rcases J k with⟨h,_⟩|⟨_,j,e,_⟩
  .rw[h]
  .rw[j,e,gp]
 have A:Le c ⟨ctf.μ,S2,ctf.Z,ctf.fb⟩:=by
  refine⟨by rw[s];exact f.len,λk d F h=>f.al k d F (by rw[<-D];exact h),λk L p=> ?_,λk d b y F h=>f.ln k d b y F (by rw[<-D];exact h),f.un,λb y hy hn=> ?_,f.n,f.fb⟩
  .rcases J k with⟨h,_⟩|⟨_,j,e,_⟩
   .rw[h];exact f.fz k L p
   .exact j
  .rintro⟨k,j,e⟩;rcases J k with⟨h,_⟩|⟨t,I,T,_⟩
   .exact f.ow b y hy hn ⟨k,by rw[<-h];exact j,e⟩
   .exact hn ⟨k,by rw[<-I];exact j,by rw[<-M k t];exact e⟩
 have hth: ∀{v:VV} {a:Value},VRel ctf v a->alV v=Zb->VRel ⟨ctf.μ,S2,ctf.Z,ctf.fb⟩ v a:=λj e=>VRel.thaw (ctf:=ctf) (ct:=⟨ctf.μ,S2,ctf.Z,ctf.fb⟩) rfl rfl s D j e
 have B: ∀{l:List VV} {m:List Value},F2 (VRel ctf) l m->TB l=Zb->F2 (VRel ⟨ctf.μ,S2,ctf.Z,ctf.fb⟩) l m:=λj e=>VRel.thaw.go (ctf:=ctf) (ct:=⟨ctf.μ,S2,ctf.Z,ctf.fb⟩) rfl rfl s D j e
 refine⟨A,⟨o.ok,λk z b L p K w=> ?_,λk=> ?_,λk b p K=>o.fbk k b (by rw[<-D];exact p) K,o.fbl⟩,B hf U⟩
 .have r:(ae ctf.S z).dim≠Y:=by rw[<-D];exact p
  rcases J k with⟨h,_⟩|⟨t,I,T,_⟩
  .exact o.inj k z b (by rw[<-h];exact L) r K w
  .rw[I]at L;rw[M k t]at K
   have C:(z<c.S.length/\(ae c.S z).dim≠Y)∨(ae ctf.S z).frozen=Zb:=by
    rcases J z with⟨g1,u⟩|⟨g1,u,g3,_⟩
    .rcases u r with⟨u,_⟩|⟨u,g3,_⟩
     .exact .inr u
     .exact .inl ⟨u,by rw[<-g3];exact r⟩
    .exact .inl ⟨g1,by rw[<-u];exact p⟩
   rcases C with⟨g1,u⟩|g1
   .rw[M z g1]at w;exact hR.inj k z b L u K w
   .exact(o.inj z k b g1 (by rw[T,gp];exact qP L) w (by rw[M k t];exact K)).symm
 .intro d E
  have P:k<c.S.length->ae S2 k=ae c.S k->(∀b y,c.μ k=O b->c.Z.m b=O y->ctf.Z.m b=O y)->1<=d.1/\
   ((d.2=0/\ctf.μ k=Y)∨∃b y H g,ctf.μ k=O b/\ctf.Z.m b=O y/\y.es=d.1/\((ae S2 k).frozen=Zb->y.own=Za)/\y.cells=H++g/\F2 (VRel ⟨ctf.μ,S2,ctf.Z,ctf.fb⟩) (ae S2 k).vals H):=by
   intro j e t;obtain⟨V,q⟩:=hR.blk k d (by rw[<-e];exact E);refine⟨V, ?_⟩;rcases q with⟨q,Q⟩|⟨b,y,H,g,q,Q,W,X,q6,q7⟩
   .exact .inl ⟨q,(M k j).trans Q⟩
   .exact .inr ⟨b,y,H,g,(M k j).trans q,t b y q Q,W,by rw[e];exact X,q6,by rw[e];exact VRel.frames A q7⟩
  rcases J k with⟨h,h'⟩|⟨t,I,T,h6⟩
  .have N:(ae ctf.S k).dim=O d:=by rw[<-D];exact E
   rcases h' (by rw[N];simp)with⟨j,e⟩|⟨j,e,t⟩
   .obtain⟨V,q⟩:=o.blk k d N;refine⟨V, ?_⟩;rcases q with q|⟨b,y,H,g,q,Q,W,X,q6,q7⟩
    .exact .inl q
    .exact .inr ⟨b,y,H,g,q,Q,W,by rw[h];exact X,q6,by rw[h];exact B q7 (ao7 e)⟩
   .exact P j (h.trans e) t
  .exact P t I (h6 (by rw[<-I,E];simp))
end
end
section
open List renaming getElem?_eq_getElem -> aB, nodup_nil -> aD, getElem?_eq_none -> bB, mem_cons_self -> bD
theorem R5 : ∀{m:List (Option Src)},R4 m=Za->∀(i:Nat) (x:Option Src),m[i]?=O x->∃k,x=O ⟨k,Y⟩
 |[],_,i,x,h=>by simp at h
 |none::_,h,_,_,_=>by cases h
 |some ⟨k,O n⟩::_,h,_,_,_=>by cases h
 |some ⟨k,Y⟩::r,h,0,x,a=>by simp at a;exact⟨k,a.symm⟩
 |some ⟨k,Y⟩::r,h,i+1,x,a=>R5 (m:=r) h i x (by simpa using a)
theorem Ms : ∀{os:List OSk} {i j:Nat},j∈yp os i↔∃p o,os[p]?=O o/\o.ro=Zb/\j=i+p
 |[],i,j=>by simp[yp]
 |o::os,i,j=>by
  simp only[yp];have g:= @Ms os (i+1) j;constructor
  .intro h;cases f:o.ro with
   |true=>
    rw[f,zC]at h;obtain⟨p,e,a,d,n⟩:=g.1 h;exact⟨p+1,e,by simpa using a,d,by omega⟩
   |false=>
    rw[f,zD]at h;rcases List.mem_cons.1 h with h|h
    .exact⟨0,o,rfl,f,by omega⟩
    .obtain⟨p,e,a,d,n⟩:=g.1 h;exact⟨p+1,e,by simpa using a,d,by omega⟩
  .rintro⟨p,e,a,d,n⟩;cases p with
   |zero=>
    simp at a;subst a;rw[d,zD];exact List.mem_cons.2 (.inl (by omega))
   |succ p=>
    have:=g.2 ⟨p,e,by simpa using a,d,by omega⟩;cases o.ro with
    |true=>exact this
    |false=>exact List.mem_cons_of_mem _ this
theorem RN : ∀{os:List OSk} {m:List (Option Src)} {i:Nat} {f:Nat->Nat},os.length=m.length->(∀(p:Nat) (x:Option Src),m[p]?=O x->∃k,x=O ⟨k,Y⟩/\f (i+p)=k)->(yp os i).map f=nN os m
 |[],[],i,f,_,_=>rfl
 |[],_::_,_,_,h,_=>by simp at h
 |_::_,[],_,_,h,_=>by simp at h
 |o::os,x::m,i,f,h,d=>by
  obtain⟨k,g,a⟩:=d 0 x rfl;subst g
  have e:= @RN os m (i+1) f (by simpa using h) λp y q=>by
   obtain⟨r,j,n⟩:=d (p+1) y (by simpa using q);exact⟨r,j,by rw[<-n];congr 1;omega⟩
  simp only[yp,nN];cases o.ro with
  |true=>exact e
  |false=>
   simp only[zD,List.map_cons,e];rw[Nat.add_zero]at a;rw[a]
theorem IX : ∀{os:List OSk} {m:List (Option Src)} {k:Nat},k∈nN os m->∃(i:Nat) (o:OSk) (x:Src),m[i]?=O (O x)/\os[i]?=O o/\o.ro=Zb/\x.k=k
 |[],[],k,h=>by simp[nN]at h
 |[],_::_,k,h=>by simp[nN]at h
 |_::_,[],k,h=>by simp[nN]at h
 |o::os,Y::m,k,h=>by
  obtain⟨i,g,x,a,d,e,f⟩:=IX (os:=os) (m:=m) h;exact⟨i+1,g,x,by simpa using a,by simpa using d,e,f⟩
 |o::os,O x::m,k,h=>by
  simp only[nN]at h;cases j:o.ro with
  |true=>
   rw[j,zC]at h;obtain⟨i,g,n,a,d,e,f⟩:=IX (os:=os) (m:=m) h;exact⟨i+1,g,n,by simpa using a,by simpa using d,e,f⟩
  |false=>
   rw[j,zD]at h;rcases List.mem_cons.1 h with h|h
   .exact⟨0,o,x,rfl,rfl,j,h.symm⟩
   .obtain⟨i,g,n,a,d,e,f⟩:=IX (os:=os) (m:=m) h;exact⟨i+1,g,n,by simpa using a,by simpa using d,e,f⟩
theorem PM : ∀{m:List (Option Src)} {k:Nat},k∈sB m->∃(i:Nat) (x:Src),m[i]?=O (O x)/\x.k=k
 |[],k,h=>by simp[sB]at h
 |none::m,k,h=>by
  obtain⟨i,x,a,d⟩:=PM (m:=m) h;exact⟨i+1,x,by simpa using a,d⟩
 |some x::m,k,h=>by
  rcases List.mem_cons.1 h with h|h
  .exact⟨0,x,rfl,h.symm⟩
  .obtain⟨i,e,a,d⟩:=PM (m:=m) h;exact⟨i+1,e,by simpa using a,d⟩
theorem zw : ∀{os:List OSk} {m:List (Option Src)},(sB m).Nodup->(nN os m).Nodup
 |[],[],_=>aD
 |[],_::_,_=>aD
 |_::_,[],_=>aD
 |o::os,Y::m,h=>zw (os:=os) (m:=m) h
 |o::os,O x::m,h=>by
  have a:=List.nodup_cons.1 h;have d:=zw (os:=os) a.2;simp only[nN];cases o.ro with
  |true=>exact d
  |false=>
   refine List.nodup_cons.2 ⟨λe=>a.1 ?_,d⟩;obtain⟨i,j,n,f,_,_,g⟩:=IX e;rw[<-g];exact C0 f
theorem UE {S:ak}{N:Nat}: ∀{os:List OSk} {i:Nat} {st e:DSt},ym S N os i st=O e->∀(p:Nat) (o:OSk) (x:Src),os[p]?=O o->o.ro=Za->e.m[i+p]?=O (O x)->x.k∈e.lent
 |[],i,st,e,h,p,o,x,j,_,_=>by simp at j
 |o'::os,i,st,e,h,p,o,x,j,f,n=>by
  simp only[ym]at h;split at h
  .rename_i y A;obtain⟨B,d,r⟩:=ah h;cases p with
   |succ p=>exact UE r p o x (by simpa using j) f (by rw[<-n];congr 1;omega)
   |zero=>
    simp at j;subst j;obtain⟨I,C⟩:=(Lf d).m;obtain⟨J,D⟩:=(tR r).m
    have u:e.m[i]?=O y:=by
     rw[<-A7,D,C];exact Lw (Lw A)
    rw[Nat.add_zero,u]at n;injection n with n
    subst n;refine(tR r).lent _ ?_;unfold XD at d;split at d
    .cases f
    .rename_i a;injection a with a
     subst a;split at d
     .rename_i w ro l k _ q z E H;simp only[OSk.ro]at f;subst f;cases g:(Nat.beq w q&&(Za|| !z))with
      |false=>rw[g]at d;cases d
      |true=>
       rw[g,zC]at d;exact(yn _ _ _ _ d).lent _ bD
     .cases d
    .rename_i a;cases a
    .rename_i a;injection a with a
     subst a;rename_i ro s v _ _;simp only[OSk.ro]at f;subst f;cases g:(Za|| !(ae S _).frozen)with
     |false=>rw[g]at d;cases d
     |true=>
      rw[g,zC]at d;obtain⟨l,F,t⟩:=ah d;injection t with t
      subst t;exact bD
    .cases d
  .cases h
def pN (c:Ctx)(st:DSt)(bs:List Blk):Ctx:=⟨λi=>match st.m[i]? with
 |some x=>Fk c x
 |none=>Y,bs,c.Z,λb=>c.mut b/\¬∃k,(k∈sB st.m∨k∈st.lent)/\(ae c.S k).dim≠Y/\c.μ k=O b⟩
structure Entered (c c0:Ctx)(objs:List OSk)(st:DSt)(bs:List Blk):Prop where
 rel:Rel c0
 sub: ∀i,(ae c0.S i).dim≠Y->∃x,st.m[i]?=O x/\c0.μ i=Fk c x/\∀y,x=O y->(ae c.S y.k).dim≠Y/\(y.cut=Y->(ae c0.S i).dim=(ae c.S y.k).dim)/\((ae c0.S i).frozen=Zb->(ae c.S y.k).frozen=Zb)
 own: ∀b,c0.own b->c.own b
 fz: ∀(i:Nat) (o:OSk),objs[i]?=O o->o.ro=Za->(ae c0.S i).frozen=Za/\(ae c0.S i).dim≠Y
 len:bs.length=objs.length/\st.m.length=objs.length
theorem enter (E:Rel c)(h0:sk.fix=[])(hd:qO c.S 0 [] sk vals=O st)(he:tT id sk st.ls=O (vs,fs,bs))(hf:F2 (VRel c) vals as):
  Entered c (pN c st bs) sk.free st bs/\F2 (VRel (pN c st bs)) vs as:=by
 obtain⟨ct0,vs0,fs0,bs0,K,p2,p3⟩:=RH (f:=id) E hd hf;rw[he]at K;injection K with K
 injection K with q1 K
 injection K with q2 q3
 subst q1;subst q2;subst q3;obtain⟨Z,M⟩:=tS hd;have P:=tQ Z;rw[List.nil_append]at P M;obtain⟨T,y2,y3⟩:=p3.get
 have I: ∀i,(ae bs i).dim≠Y->∃(x:Option Src) (o:OSk),st.m[i]?=O x/\sk.free[i]?=O o/\zx c ct0 o x (ae bs i):=by
  intro i F;have t:=qu F;have B:=aB t;have r:i<st.m.length:=by rw[T];exact t
  obtain⟨o,e,p⟩:=y3 i _ _ (aB r) B;rw[AF B];exact⟨_,o,aB r,e,p⟩
 have u: ∀i x,st.m[i]?=O x->(pN c st bs).μ i=Fk c x:=by
  intro i x W
  show(match st.m[i]? with
   |some x=>Fk c x
   |none=>Y)=_
  rw[W]
 have H: ∀i,(ae bs i).frozen=Zb->∀b,(pN c st bs).μ i=O b->∃x,st.m[i]?=O (O x)/\(ae c.S x.k).frozen=Zb/\c.μ x.k=O b/\x.k∈nN sk.free st.m:=by
  intro i w b r;obtain⟨x,o,e,p,g⟩:=I i (qP w);rw[u i x e]at r;rcases g with⟨_,g⟩|⟨g,q⟩
  .rw[g]at w;cases w
  .cases x with
   |none=>cases r
   |some x=>
    obtain⟨k,A⟩:=x;rw[g]at w;exact⟨_,e,q.1 w,r,LZ e p w⟩
 have J: ∀i,(ae bs i).dim≠Y->∀b,(pN c st bs).μ i=O b->∃x,st.m[i]?=O (O x)/\(ae c.S x.k).dim≠Y/\c.μ x.k=O b:=by
  intro i w b r;obtain⟨x,o,e,p,g⟩:=I i w;rw[u i x e]at r;rcases g with⟨_,g⟩|⟨g,q⟩
  .rw[g]at w;exact(w rfl).elim
  .cases x with
   |none=>cases r
   |some x=>
    obtain⟨k,A⟩:=x;obtain⟨_,d,v,_⟩:=q;exact⟨_,e,by rw[v];simp,r⟩
 have hT:Tell c (pN c st bs) 0 id st:=by
  refine⟨⟨rfl,λb y X hn=> ?_⟩,λj x hl=> ?_,λs hs Q b r=> ?_⟩
  .rintro(⟨i,e,p⟩|h)
   .obtain⟨x,_,g,q,_⟩:=H i e b p;exact hn (.inl ⟨x.k,g,q⟩)
   .exact hn h.1
  .rcases hl with⟨e,_⟩|⟨_,p⟩
   .omega
   .rw[Nat.sub_zero,A7]at p
    have t:j<bs.length:=by
     rw[<-T];rcases Nat.lt_or_ge j st.m.length with h|h
     .exact h
     .rw[bB h]at p;cases p
    refine⟨t,λd' C=> ?_⟩;obtain⟨x',o,e,g,q⟩:=I j (by rw[show(ae bs j).dim=O d' from C];simp);rw[p]at e;injection e with e
    subst e;have a:(ae bs j).dim=O d':=C;rcases q with⟨_,q⟩|⟨q,v⟩
    .rw[q]at a;cases a
    .cases x with
     |none=>
      obtain⟨_,s,D⟩:=v;rw[D]at a;injection a with a
      subst a;exact⟨by simp,u j _ p⟩
     |some x=>
      obtain⟨k,A⟩:=x;obtain⟨_,d,D,U,_⟩:=v;refine⟨d,D, ?_⟩;cases A with
      |none=>
       simp only at U;rw[U]at a;injection a with a
       subst a;exact⟨rfl,u j _ p,rfl⟩
      |some n=>
       simp only at U;rw[U]at a;injection a with a
       subst a;exact⟨rfl,u j _ p,rfl⟩
  .rintro(⟨i,e,p⟩|h)
   .obtain⟨x,_,g,q,v⟩:=H i e b p;have:=E.inj x.k s b g Q q r;rw[this]at v;exact PC M v hs
   .exact h.2 ⟨s, .inr hs,Q,r⟩
 obtain⟨vs1,fs1,bs1,L,r2,r3,r4⟩:=Mp E hT hd hf;rw[he]at L;injection L with L
 injection L with e1 L
 injection L with e2 e3
 subst e1;subst e2;subst e3;obtain⟨_,_,y4⟩:=r4.get;refine⟨⟨⟨E.ok,λi i' b w z r hm'=> ?_,λi=> ?_,λi b z r B=> ?_,λb B=> ?_⟩,λi F=> ?_,λb B=> ?_,λi o ho V=> ?_,⟨y2.symm,by rw[T,y2]⟩⟩,r2⟩
 .obtain⟨x,e,p,g,_⟩:=H i w b r;obtain⟨x',q,v,D⟩:=J i' z b hm';exact Lq P e q (E.inj _ _ b p v g D)
 .by_cases z:(ae bs i).dim=Y
  .intro d C;rw[show(ae (pN c st bs).S i).dim=Y from z]at C;cases C
  .have t:=qu z;have B:=aB t;have r:i<st.m.length:=by rw[T];exact t
   obtain⟨o,e,p⟩:=y4 i _ _ (aB r) B;exact p.blkRel (ct:=pN c st bs) E rfl (AF B) λ_=>u i _ (aB r)
 .obtain⟨x',q,v,D⟩:=J i z b r;exact B.2 ⟨x'.k, .inl (C0 q),v,D⟩
 .rcases B.1 with⟨k,e,p⟩|h
  .cases N:(ae c.S k).dim with
   |none=>exact(qP e N).elim
   |some d=>
    obtain⟨y,_,_,X,_⟩:=E.block N p;exact E.ok b y X
  .exact E.fbl b h
 .obtain⟨x,o,e,p,g⟩:=I i F;refine⟨x,e,u i x e,λy X=> ?_⟩;subst X;rcases g with⟨_,g⟩|⟨g,q,d,v,D,_⟩
  .rw[show ae (pN c st bs).S i=ae bs i from rfl,g]at F;exact(F rfl).elim
  .refine⟨by rw[v];simp,λhc=> ?_,λw=>q (by rw[<-g];exact w)⟩;rw[hc]at D;rw[v];exact D
 .obtain⟨i,e,p⟩:=B;obtain⟨x,_,g,q,_⟩:=H i e b p;exact⟨x.k,g,q⟩
 .have F:i<bs.length:=by
   rw[<-y2];rcases Nat.lt_or_ge i sk.free.length with h|h
   .exact h
   .rw[bB h]at ho;cases ho
  have r:i<st.m.length:=by rw[T];exact F
  obtain⟨o',e,p⟩:=y3 i _ _ (aB r) (aB F);rw[ho]at e;injection e with e
  subst e;rw[show ae (pN c st bs).S i=ae bs i from rfl,AF (aB F)];rcases p with⟨p,_⟩|⟨p,g⟩
  .subst p;cases V
  .refine⟨p.trans V, ?_⟩;cases W:st.m[i]with
   |none=>rw[W]at g;obtain⟨g,_⟩:=g;rw[g]at V;cases V
   |some x=>
    obtain⟨k,A⟩:=x;rw[W]at g;obtain⟨_,d,_,q,_⟩:=g;cases A with
    |none=>simp only at q;rw[q];simp
    |some n=>simp only at q;rw[q];simp
end
section
open List renaming getElem?_eq_getElem -> aB, getElem?_eq_none -> aD
open Nat renaming lt_or_ge -> bB, add_sub_cancel_left -> bD
theorem RQ : ∀{l:List Nat} {S:ak} {k:Nat},k∈l->(ae (G3 l S) k).frozen=Za
 |[],S,k,h=>by simp at h
 |a::l,S,k,h=>by
  simp only[G3];by_cases d:k∈l
  .exact RQ d
  .have:k=a:=by
    rcases List.mem_cons.1 h with h|h
    .exact h
    .exact(d h).elim
   subst this;rcases(zl l (oW S k (ae S k).freeze)).2 k with h1|h1
   .rw[h1,Cf];split
    .exact oh
    .rename_i f;have: ¬k<S.length:=λe=>f ⟨rfl,e⟩
     rw[AG (by omega)];rfl
   .rw[h1];exact oh
theorem ah9 {c0:Ctx}{a:List OSk}{st':DSt}{bs0:List Blk}{Sf:ak}(hR:Rel c)(h0:c0=pN c st bs0)(hE:Entered c c0 a st bs0)(w:Le c0 c')(hR':Rel c')
  (hcut:R4 st.m=Za) (hok:N4 c.S (nN a st.m)=Za) (hnd:(sB st.m).Nodup) (hlent: ∀(i:Nat) (o:OSk) (x:Src),a[i]?=O o->o.ro=Za->st.m[i]?=O (O x)->x.k∈st.lent)
  (hro:sk.noRo=Za) (hd:qO c'.S a.length (yp a 0) sk vals=O st') (he:tT (AY st.m a.length c.S.length) sk st'.ls=O (vs,fs,bs)) (hf:F2 (VRel c') vals as) (hS:AJ (nN a st.m) fs (G3 st.lent c.S)=O Sf):
  ∃ct:Ctx,ct.Z=c'.Z/\ct.S=Sf++bs/\ct.fb=c.fb/\(∀k,k<c.S.length->ct.μ k=c.μ k)/\Le c ct/\Rel ct/\F2 (VRel ct) vs as/\
   (∀k,k<c.S.length->k∉nN a st.m->(ae c.S k).dim≠Y->∀b y,c.μ k=O b->c.Z.m b=O y->ct.Z.m b=O y):=by
 have J:c0.Z=c.Z:=by rw[h0];rfl
 have H: ∀b,c0.fb b↔(c.mut b/\¬∃k,(k∈sB st.m∨k∈st.lent)/\(ae c.S k).dim≠Y/\c.μ k=O b):=by rw[h0];exact λb=>Iff.rfl
 have hS0:c0.S=bs0:=by rw[h0];rfl
 have F:c'.fb=c0.fb:=w.fb;obtain⟨l1,l2⟩:=hE.len;obtain⟨s1,s2,s3,s4⟩:=nM hS;rw[(zl st.lent c.S).1]at s2 s4;have hfz:=zl st.lent c.S
 have W: ∀i,i<a.length->∃k,st.m[i]?=O (O ⟨k,Y⟩)/\AY st.m a.length c.S.length i=k:=by
  intro i hi;have v:i<st.m.length:=by omega
  obtain⟨k,f⟩:=R5 hcut i _ (aB v);have h1:st.m[i]?=O (O ⟨k,Y⟩):=by rw[aB v,f]
  refine⟨k,h1, ?_⟩;unfold AY;rw[show Nat.blt i a.length=Za from Nat.ble_eq_true_of_le hi,zC,A7,h1]
 have N:(yp a 0).map (AY st.m a.length c.S.length)=nN a st.m:=by
  refine RN l2.symm λp x hx=> ?_
  have hp:p<a.length:=by
   rw[<-l2];rcases bB p st.m.length with h|h
   .exact h
   .rw[aD h]at hx;cases hx
  obtain⟨k,h1,r⟩:=W p hp;rw[hx]at h1;injection h1 with h1
  exact⟨k,h1,by rw[Nat.zero_add];exact r⟩
 have B: ∀j,j∈yp a 0->j<a.length/\∃o,a[j]?=O o/\o.ro=Zb:=by
  intro j z;obtain⟨p,o,h1,r,t⟩:=Ms.1 z;rw[Nat.zero_add]at t;subst t;refine⟨?_,o,h1,r⟩;rcases bB j a.length with h|h
  .exact h
  .rw[aD h]at h1;cases h1
 have fxw: ∀j,j∈yp a 0->AY st.m a.length c.S.length j∈nN a st.m:=λj z=>by rw[<-N];exact List.mem_map_of_mem z
 have wfx: ∀k,k∈nN a st.m->∃j,j∈yp a 0/\AY st.m a.length c.S.length j=k:=λk f=>by rw[<-N]at f;obtain⟨j,h1,r⟩:=List.mem_map.1 f;exact⟨j,h1,r⟩
 have D: ∀k,(∀j,j∈yp a 0->AY st.m a.length c.S.length j≠k)->k∉nN a st.m:=λk f h=>by obtain⟨j,h1,r⟩:=wfx k h;exact f j h1 r
 let ct:Ctx:=⟨λi=>if i<c.S.length then c.μ i else match st'.m[i-c.S.length]? with
  |some x=>Fk c' x
  |none=>Y,Sf++bs,c'.Z,c.fb⟩
 have hget: ∀k,k<c.S.length->ae ct.S k=ae Sf k:=λk f=>qS (by rw[s2];exact f)
 have Q: ∀k,k<c.S.length->k∉nN a st.m->ae ct.S k=ae (G3 st.lent c.S) k:=λk f u=>by rw[hget k f,s3 k u]
 have own0: ∀b,c0.own b->∃k,k∈nN a st.m/\(ae c.S k).frozen=Zb/\c.μ k=O b:=by
  rintro b ⟨i,h1,r⟩;obtain⟨x,t,C,E⟩:=hE.sub i (qP h1);rw[C]at r;cases x with
  |none=>cases r
  |some x=>
   obtain⟨h6,_,h8⟩:=E x rfl
   have hi:i<a.length:=by
    rw[<-l2];rcases bB i st.m.length with h|h
    .exact h
    .rw[aD h]at t;cases t
   have ho:a[i]?=O a[i]:=aB hi;refine⟨x.k,LZ t ho ?_,h8 h1,r⟩;cases X:(a[i]).ro with
   |false=>rfl
   |true=>rw[(hE.fz i _ ho X).1]at h1;cases h1
 have nown: ∀k,k∉nN a st.m->(ae c.S k).dim≠Y->∀b,c.μ k=O b->¬c0.own b:=by
  intro k f q b v h;obtain⟨L,h1,r,t⟩:=own0 b h;have:=hR.inj L k b r q t v;subst this;exact f h1
 have hun: ∀k,k<c.S.length->k∉nN a st.m->(ae c.S k).dim≠Y->∀b y,c.μ k=O b->c.Z.m b=O y->c'.Z.m b=O y:=λk _ f q b y v I=>w.un b y (by rw[J];exact I) (nown k f q b v)
 have A: ∀k b,(ae c.S k).dim≠Y->c.μ k=O b->∃y,c.Z.m b=O y:=by
  intro k b q v;cases K:(ae c.S k).dim with
  |none=>exact(q K).elim
  |some d=>
   obtain⟨y,_,_,I,_⟩:=hR.block K v;exact⟨y,I⟩
 have M: ∀k,k<c.S.length->k∉nN a st.m->(ae ct.S k).dim=(ae c.S k).dim:=λk f u=>by rw[Q k f u];exact hfz.dim k
 have V: ∀k,k<c.S.length->k∉nN a st.m->(ae ct.S k).frozen=Zb->∀b,c.μ k=O b->(ae c.S k).frozen=Zb/\¬∃L,(L∈sB st.m∨L∈st.lent)/\(ae c.S L).dim≠Y/\c.μ L=O b:=by
  intro k f u U b v;rw[Q k f u]at U;have hz':(ae c.S k).frozen=Zb:=by rw[<-hfz.fz U];exact U
  refine⟨hz', ?_⟩;rintro⟨L,h1,r,t⟩;have:=hR.inj k L b hz' r v t;subst this;have hnl:k∉st.lent:=λe=>by rw[RQ e]at U;cases U
  rcases h1 with h1|h1
  .obtain⟨i,x,C,E⟩:=PM h1
   have hi:i<a.length:=by
    rw[<-l2];rcases bB i st.m.length with h|h
    .exact h
    .rw[aD h]at C;cases C
   have ho:a[i]?=O a[i]:=aB hi;cases X:(a[i]).ro with
   |true=>exact hnl (by rw[<-E];exact hlent i _ x ho X C)
   |false=>exact u (by rw[<-E];exact LZ C ho X)
  .exact hnl h1
 have g:GT c c' ct a.length (AY st.m a.length c.S.length) (yp a 0) sk st' fs bs:=by
  refine⟨rfl,rfl,by simp[ct,s2],λk f u=> ?_,λi j b hi P=> ?_,λj z=>(pO hok (fxw j z)).1,λi b P=> ?_,λi=> ?_,λk f=>zE f,λi x hx=> ?_,λb y I u=>w.un b y (by rw[J];exact I) λe=>u (hE.own b e),λb y I u=>w.ow b y (by rw[J];exact I) λe=>u (hE.own b e),by rw[<-J];exact w.n,λk f u q b y v I=> ?_,λk f u q s hs U b v e=> ?_,λj z q=> ?_,λj z=>(pO hok (fxw j z)).2,
   λj j' z hj' e=> ?_,λk b q v P=> ?_,λj z u=> ?_,λk f u U b y v I=> ?_,λk f u U s hs hsd b v e=> ?_,λb P=> ?_,λj z=>(B j z).1,Y3 hro, .inl hro⟩
  .rw[Q k f (D k u)];rcases hfz.2 k with h|h
   .exact .inl h
   .exact .inr (.inl h)
  .have z:=List.mem_of_getElem? hi;have hw:=fxw j z;have hlt:=(pO hok hw).1;show ae ct.S _=b;rw[hget _ hlt];refine s4 (zw hnd) i _ b ?_ P hlt;rw[<-N,List.getElem?_map,hi];rfl
  .show ae (Sf++bs) (c.S.length+i)=b;rw[<-s2,wS];exact AF P
  .unfold AY
   have:Nat.blt (a.length+i) a.length=Zb:=by
    cases P:Nat.blt (a.length+i) a.length with
    |false=>rfl
    |true=>have:=Nat.le_of_ble_eq_true P;omega
   rw[this,zD,bD]
  .show(if c.S.length+i<c.S.length then _ else _)=_;rw[Zh,bD,hx]
  .exact hun k f (D k u) (by rw[<-M k f (D k u)];exact q) b y v I
  .have hdm':(ae c.S k).dim≠Y:=by rw[<-M k f (D k u)];exact q
   obtain⟨y,I⟩:=A k b hdm' e;exact w.ow b y (by rw[J];exact I) (nown k (D k u) hdm' b e) ⟨s,U,v⟩
  .obtain⟨k,h1,r⟩:=W j (B j z).1;have hj0:j<c0.S.length:=by rw[hS0,l1];exact(B j z).1
   cases K:(ae c'.S j).dim with
   |none=>exact(q K).elim
   |some d=>
    obtain⟨t,C⟩:=w.al j d hj0 K;obtain⟨x,E,h6,h7⟩:=hE.sub j (by rw[t];simp);rw[h1]at E;injection E with E
    subst E;obtain⟨h8,h9,_⟩:=h7 _ rfl;rw[r];refine⟨by rw[<-h9 rfl,t],C.trans h6,λb y v I=>w.ln j d b y hj0 K (h6.trans v) (by rw[J];exact I)⟩
  .obtain⟨k,h1,r⟩:=W j (B j z).1;obtain⟨L,t,C⟩:=W j' (B j' hj').1;rw[r,C]at e;subst e;exact Lq hnd h1 t rfl
  .have h1:=hR'.fbk k b q v;rw[F,H]at h1;refine h1 ⟨.inr P, ?_⟩;rintro⟨L,_,t,C⟩;exact hR.fbk L b t C P
  .obtain⟨k,h1,r⟩:=W j z;have ho:a[j]?=O a[j]:=aB z
   have X:(a[j]).ro=Za:=by
    cases X:(a[j]).ro with
    |true=>rfl
    |false=>exact(u (Ms.2 ⟨j,_,ho,X,by omega⟩)).elim
   obtain⟨t,C⟩:=hE.fz j _ ho X;obtain⟨x,E,h6,h7⟩:=hE.sub j C;rw[h1]at E;injection E with E
   subst E;obtain⟨h8,h9,_⟩:=h7 _ rfl;simp only at h8 h9;have hkl:k<c.S.length:=qu h8
   have hkw:k∉nN a st.m:=by
    intro f;obtain⟨i,o,x,g1,g2,g3,g4⟩:=IX f;have:=Lq hnd g1 h1 g4;subst this;rw[ho]at g2;injection g2 with g2
    rw[g2,g3]at X;cases X
   have hj0:j<c0.S.length:=by rw[hS0,l1];exact z
   have T:=w.fz j t C;rw[r];refine⟨by simp only[ct,List.length_append,s2];omega,λd' hd'=> ?_⟩;rw[M k hkl hkw]at hd';refine⟨d',by rw[T,h9 trivial];exact hd',rfl, ?_,rfl⟩;show(if k<c.S.length then c.μ k else _)=_;rw[zE hkl,(w.al j d' hj0 (by rw[T,h9 trivial];exact hd')).2,h6];rfl
  .obtain⟨h1,r⟩:=V k f (D k u) U b v;exact .inr (by rw[F,H];exact⟨.inl ⟨k,h1,v⟩,r⟩)
  .obtain⟨h1,r⟩:=V k f (D k u) U b e;have t:=hR'.fbk s b hsd v;rw[F,H]at t;exact t ⟨.inl ⟨k,h1,e⟩,r⟩
  .refine .inr ?_;rw[F,H];refine⟨.inr P, ?_⟩;rintro⟨L,_,t,C⟩;exact hR.fbk L b t C P
 obtain⟨r1,r2,r3⟩:=g.all hR hR' hd he hf;exact⟨ct,rfl,rfl,rfl,λk f=>zE f,r1,r2,r3,hun⟩
end
section
open Bool renaming or_eq_false_iff -> bB
open List renaming getElem?_eq_getElem -> aB, getElem_mem -> aD, all_eq_true -> bD, any_eq_false -> cB, length_append -> cD
theorem MW : ∀{js:List Nat} {bs:List Blk} {S S1:ak},js.length=bs.length->∃S2,AJ js bs S1=O S2
 |[],[],_,S1,_=>⟨S1,rfl⟩
 |[],_::_,_,_,h=>by simp at h
 |_::_,[],_,_,h=>by simp at h
 |j::js,b::bs,S,S1,h=>by
  obtain⟨S2,a⟩:=MW (js:=js) (bs:=bs) (S:=S) (S1:=oW S1 j b) (by simpa using h);exact⟨S2,a⟩
theorem Pw {f:Nat->Nat}: ∀{os:List OSk} {ls rest:List Leaf} {bs:List Blk},G2 f os ls=O (bs,rest)->(∀o,o∈os->o.ro=Zb)->∀b,b∈bs->b.dim≠Y->b.frozen=Zb
 |[],ls,rest,bs,h,_,b,hb,_=>by
  simp only[G2]at h;injection h with h
  injection h with a j
  subst a;simp at hb
 |o::os,ls,rest,bs,h,n,b,hb,g=>by
  simp only[G2]at h;obtain⟨p,a,h⟩:=ah h;obtain⟨q,j,h⟩:=ah h;injection h with h
  injection h with r w
  subst r;rcases List.mem_cons.1 hb with hb|hb
  .subst hb;have e:=n o List.mem_cons_self;cases o with
   |dead=>
    simp only[Rj]at a;injection a with a
    rw[<-a]at g;exact(g rfl).elim
   |cells u ro l=>
    simp only[Rj]at a;obtain⟨v,t,d⟩:=ah a;injection d with d
    rw[<-d];exact e
   |arr ro s=>
    cases ls with
    |nil=>simp[Rj]at a
    |cons x ls=>
     simp only[Rj]at a;obtain⟨v,t,d⟩:=ah a;injection d with d
     rw[<-d];exact e
  .exact Pw j (λo e=>n o (List.mem_cons_of_mem _ e)) b hb g
theorem VC {f:Nat->Nat}{ls:List Leaf}(h:tT f sk ls=O (vs,fs,bs))(a:sk.noRo=Za):(∀b,b∈fs->b.dim≠Y->b.frozen=Zb)/\∀b,b∈bs->b.dim≠Y->b.frozen=Zb:=by
 unfold zd.noRo at a;rw[Bool.and_eq_true,bD,bD]at a;unfold tT at h;obtain⟨p,t,h⟩:=ah h;obtain⟨q,j,h⟩:=ah h;obtain⟨r,n,h⟩:=ah h;split at h
 .injection h with h
  injection h with s h
  injection h with e g
  subst e;subst g;exact⟨Pw (rest:=q.2) j λo d=>by simpa using a.1 o d,Pw (rest:=r.2) n λo d=>by simpa using a.2 o d⟩
 .cases h
theorem Vj (h:G1 vs fs bs=Zb):TB vs=Zb/\(∀b,b∈fs->alB b=Zb)/\∀b,b∈bs->alB b=Zb:=by
 unfold G1 at h;rw[bB,bB,cB,cB]at h;exact⟨h.1.1,λb a=>by simpa using h.1.2 b a,λb a=>by simpa using h.2 b a⟩
theorem WL {l:List Blk}(h:(ae l i).dim≠Y):ae l i∈l:=by
 have a:=qu h;rw[AF (aB a)];exact aD a
theorem St {ctf:Ctx}{js:List Nat}{Sa Sb S1:ak}(P:Rel c)(D:Le c ctf)(v:Rel ctf)(Q:F2 (VRel ctf) vs as)(B:G1 vs fs bs=Zb)
  (E: ∀b,b∈fs->b.dim≠Y->b.frozen=Zb) (F: ∀b,b∈bs->b.dim≠Y->b.frozen=Zb) (g:Sa.length=c.S.length) (h:Sb.length=c.S.length) (z:AJ js fs Sa=O S1) (A:AJ js fs Sb=O S2) (q:js.Nodup) (T: ∀j,j∈js->j<c.S.length)
  (w:ctf.S=S1++bs) (U: ∀k,k<c.S.length->ctf.μ k=c.μ k)
  (r: ∀k,k<c.S.length->k∉js->(ae Sa k=ae Sb k/\((ae Sa k).dim≠Y->ae Sa k=ae c.S k))∨(ae Sb k=ae c.S k/\ae Sa k=(ae c.S k).freeze))
  (s: ∀k,k<c.S.length->k∉js->(ae Sa k).dim≠Y->∀b y,c.μ k=O b->c.Z.m b=O y->ctf.Z.m b=O y):
  Le c ⟨ctf.μ,S2++bs,ctf.Z,ctf.fb⟩/\Rel ⟨ctf.μ,S2++bs,ctf.Z,ctf.fb⟩/\F2 (VRel ⟨ctf.μ,S2++bs,ctf.Z,ctf.fb⟩) vs as:=by
 obtain⟨K,L,M⟩:=Vj B;obtain⟨V,H,W,X⟩:=nM z;obtain⟨q1,I,q3,q4⟩:=nM A;refine thaw P D v Q K (by rw[w,cD,cD,H,I,g,h]) U λk=> ?_
 by_cases f:k<c.S.length
 .have t:ae (S2++bs) k=ae S2 k:=qS (by rw[I,h];exact f);have n:ae ctf.S k=ae S1 k:=by rw[w];exact qS (by rw[H,g];exact f)
  by_cases p:k∈js
  .obtain⟨i,C,e⟩:=List.mem_iff_getElem.1 p;have d:i<fs.length:=by rw[<-V];exact C
   have J:=X q i k _ (by rw[aB C,e]) (aB d) (by rw[g];exact f);have N:=q4 q i k _ (by rw[aB C,e]) (aB d) (by rw[h];exact f);refine .inl ⟨by rw[t,n,J,N],λa=> .inl ?_⟩;rw[n,J]at a⊢;exact⟨E _ (aD d) a,L _ (aD d)⟩
  .rw[t,n,q3 k p,W k p];rcases r k f p with⟨o,u⟩|⟨o,u⟩
   .exact .inl ⟨o.symm,λa=> .inr ⟨f,u a,s k f p a⟩⟩
   .exact .inr ⟨f,o,u,λa=>s k f p (by rw[u,gp];exact a)⟩
 .have o:k=c.S.length+(k-c.S.length):=by omega
  have t:ae (S2++bs) k=ae bs (k-c.S.length):=by
   rw[o,<-h,<-I,wS]
   congr 1
   omega
  have n:ae ctf.S k=ae bs (k-c.S.length):=by
   rw[w,o,<-g,<-H,wS]
   congr 1
   omega
  refine .inl ⟨by rw[t,n],λa=> .inl ?_⟩;rw[n]at a⊢;exact⟨F _ (WL a) a,M _ (WL a)⟩
theorem Qi {c0:Ctx}{a:List OSk}{F:DSt}{w:List Blk}(K:Rel c)(h0:c0=pN c st w)(hE:Entered c c0 a st w)(N:Le c0 c')(L:Rel c')
  (z:R4 st.m=Za) (D:N4 c.S (nN a st.m)=Za) (t:(sB st.m).Nodup) (v: ∀(i:Nat) (o:OSk) (x:Src),a[i]?=O o->o.ro=Za->st.m[i]?=O (O x)->x.k∈st.lent)
  (E:sk.noRo=Za) (hd:qO c'.S a.length (yp a 0) sk vals=O F) (he:tT (AY st.m a.length c.S.length) sk F.ls=O (vs,fs,bs)) (hf:F2 (VRel c') vals as)
  (p:AJ (nN a st.m) fs (cond (G1 vs fs bs) (G3 st.lent c.S) c.S)=O S2):
  ∃ct:Ctx,ct.Z=c'.Z/\ct.S=S2++bs/\Le c ct/\Rel ct/\F2 (VRel ct) vs as/\zX (nN a st.m) c ct:=by
 obtain⟨q1,q2,q3,q4⟩:=nM p;obtain⟨Sf,g⟩:=MW (S:=c.S) (S1:=G3 st.lent c.S) q1;obtain⟨ct,T,H,e3,e4,U,V,W,X⟩:=ah9 K h0 hE N L z D t v E hd he hf g
 have u: ∀r:Ctx,r.Z=ct.Z->(∀k,(ae r.S k).dim=(ae ct.S k).dim)->zX (nN a st.m) c r:=by
  intro r I h2 k q C n;obtain⟨_,J,Q,_⟩:=nM g;have hl:(G3 st.lent c.S).length=c.S.length:=(zl st.lent c.S).1;refine⟨?_,λb hm=> ?_⟩
  .rw[h2,H,qS (by rw[J,hl];exact q),Q k C,(zl st.lent c.S).dim];exact n
  .cases A:(ae c.S k).dim with
   |none=>exact(n A).elim
   |some d=>
    obtain⟨y,_,_,hy,_⟩:=K.block A hm;rw[hy,I];exact X k q C n b y hm hy
 cases s:G1 vs fs bs with
 |true=>
  rw[s,zC,g]at p;injection p with p
  subst p;exact⟨ct,T,H,U,V,W,u ct rfl λ_=>rfl⟩
 |false=>
  rw[s,zD]at p;obtain⟨z1,z2⟩:=VC he E;have f:=zl st.lent c.S
  obtain⟨r1,r2,r3⟩:=St K U V W s z1 z2 f.1 rfl g p (zw t) (λj hj=>(pO D hj).1) H e4 (λk q C=>by
   rcases f.2 k with h|h
   .exact .inl ⟨h,λ_=>h⟩
   .exact .inr ⟨rfl,h⟩) (λk q C n=>X k q C (by rw[<-f.dim];exact n))
  refine⟨⟨ct.μ,S2++bs,ct.Z,ct.fb⟩,T,rfl,r1,r2,r3,u _ rfl λk=> ?_⟩;obtain⟨_,J,Q,p4⟩:=nM g;rw[H];show(ae (S2++bs) k).dim=(ae (Sf++bs) k).dim;by_cases q:k<c.S.length
  .rw[qS (S:=S2) (by rw[q2,s];exact q),qS (S:=Sf) (by rw[J,f.1];exact q)];by_cases P:k∈nN a st.m
   .obtain⟨i,M,e⟩:=List.mem_iff_getElem.1 P;have B:i<fs.length:=by rw[<-q1];exact M
    obtain⟨_,_,_,t4⟩:=nM p
    rw[t4 (zw t) i k _ (by rw[aB M,e]) (aB B) q,
     p4 (zw t) i k _ (by rw[aB M,e]) (aB B) (by rw[f.1];exact q)]
   .obtain⟨_,_,t3,_⟩:=nM p;rw[t3 k P,Q k P,f.dim]
  .have I:k=c.S.length+(k-c.S.length):=by omega
   have g1:ae (S2++bs) k=ae bs (k-c.S.length):=by
    obtain⟨_,t2,_,_⟩:=nM p;rw[I,<-t2,wS]
    congr 1
    omega
   have g2:ae (Sf++bs) k=ae bs (k-c.S.length):=by
    rw[I,<-f.1,<-J,wS]
    congr 1
    omega
   rw[g1,g2]
theorem aJ3 (B:Rel c)(s:Rel c')(K:Within c c1 fx mov)(t:Rel c1)(v:Le c1 c')
  (n:N4 c.S fx=Za) (o:sk.noRo=Za) (C:qO c'.S c.S.length fx sk vals=O st) (D:tT id sk st.ls=O (vs,fs,bs)) (I:F2 (VRel c') vals as) (d:AJ fx fs (nE fx mov (G1 vs fs bs) 0 c.S)=O S2):
  ∃ct:Ctx,ct.Z=c'.Z/\ct.S=S2++bs/\Le c ct/\Rel ct/\F2 (VRel ct) vs as:=by
 obtain⟨N,X,q3,q4⟩:=nM d;obtain⟨Sf,a⟩:=MW (S:=c.S) (S1:=nE fx mov Za 0 c.S) N;obtain⟨ct,w,r,W,F,y,z,A,H⟩:=aU5 B s K t v n (Y3 o) C D I a;cases e:G1 vs fs bs with
 |true=>
  rw[e,a]at d;injection d with d
  subst d;exact⟨ct,w,r,y,z,A⟩
 |false=>
  rw[e]at d;obtain⟨U,V⟩:=VC D o;obtain⟨q,_⟩:=tS C;have g:=tQ q;rw[List.nodup_append]at g;obtain⟨_,E,M,_⟩:=nM a;rw[qd]at E
  obtain⟨P,Q,T⟩:=St B y z A e U V qd qd a d g.1 (λj J=>(pO n J).1) r F (λk f p=>by
   rw[qc f,qc f,Nat.zero_add,nG p];cases qj k mov with
   |true=>
    refine .inl ⟨rfl,λh=> ?_⟩;cases L:(ae c.S k).frozen with
    |true=>rfl
    |false=>rw[L]at h;exact(h rfl).elim
   |false=>exact .inr ⟨rfl,rfl⟩) (λk f p u=>(H k f p (by rw[r,qS (by rw[E];exact f),M k p];exact u)).2)
  exact⟨⟨ct.μ,S2++bs,ct.Z,ct.fb⟩,w,rfl,P,Q,T⟩
end
section
open List renaming mem_cons_of_mem -> aB, mem_cons_self -> aD
open Nat renaming eq_of_beq_eq_true -> bB
def ap0 (l:List Alt)(s:zf l):Option (Σ a:Alt,a.Ty):=ao9 l s λa u=>O ⟨a,u⟩
theorem TC {β:Type}: ∀(l:List Alt) (s:zf l) (k:(a:Alt)->a.Ty->Option β),ao9 l s k=(ap0 l s).bind λp=>k p.1 p.2
 |[],_,_=>rfl
 |[a],t,k=>rfl
 |a::b::r, .inl t,k=>rfl
 |a::b::r, .inr s,k=>TC (b::r) s k
def FSum.spec (F:FSum):Ab.Tt:=λd Z K=> ∃(c:Ctx) (vals:List VV) (st:DSt) (t:HE F.ins.shs) (o:zf F.outs) (p:Σ a:Alt,a.Ty) (v:VV) (fs bs:List Blk) (S':ak),
 c.Z=Z/\Rel c/\F2 (VRel c) vals d/\qO c.S 0 [] F.ins vals=O st/\UZ F.ins.shs st.ls=O t/\R4 st.m=Za/\N4 c.S (nN F.objs st.m)=Za/\F.run t=O o/\ap0 F.outs o=O p/\
 tT (AY st.m F.objs.length c.S.length) p.1.sk (WU p.1.sk.shs p.2)=O ([v],fs,bs)/\AJ (nN F.objs st.m) fs (cond (G1 [v] fs bs) (G3 st.lent c.S) c.S)=O S'/\
 ∀r Z',(∃ct:Ctx,ct.Z=Z'/\ct.S=S'++bs/\Le c ct/\Rel ct/\VRel ct v r/\zX (nN F.objs st.m) c ct)->K r Z'
theorem FSum.mono (F:FSum):aT1 F.spec:=by
 rintro f Z K K' A ⟨c,vals,st,t,o,p,v,fs,bs,S',g,j,n,q,s,u,w,y,z,a,d,e⟩;exact⟨c,vals,st,t,o,p,v,fs,bs,S',g,j,n,q,s,u,w,y,z,a,d,λr Z' h=>A r Z' (e r Z' h)⟩
def Inl.spec (I:Inl):Ab.Tt:=λa Z K=> ∃(β:Type) (y:β) (c:Ctx) (vals:List VV) (k:VV->ak->Option β),c.Z=Z/\Rel c/\F2 (VRel c) vals a/\I.run β vals c.S k=O y/\∀r Z',ng c (Pb c.S.length) k y r Z'->K r Z'
theorem Inl.mono (I:Inl):aT1 I.spec:=by
 rintro a Z K K' n ⟨β,y,c,vals,k,d,e,f,g,j⟩;exact⟨β,y,c,vals,k,d,e,f,g,λr Z' h=>n r Z' (j r Z' h)⟩
def jf (tab:Tab):Ab.mE:=λf a Z K=>(∃F,F∈tab.fs/\F.f=f/\F.spec a Z K)∨∃I,I∈tab.is/\I.f=f/\I.spec a Z K
theorem cb (tab:Tab):yM (jf tab):=by
 rintro f a Z K K' h (⟨F,d,e,g⟩|⟨F,d,e,g⟩)
 .exact .inl ⟨F,d,e,F.mono a Z K K' h g⟩
 .exact .inr ⟨F,d,e,F.mono a Z K K' h g⟩
def dq (P:Program)(F:FSum):Prop:=Sim P F.f F.spec
def Xl (P:Program)(I:Inl):Prop:=Sim P I.f I.spec
def gr (P:Program)(tab:List FSum):Prop:= ∀F,F∈tab->dq P F
def aa (P:Program)(a:List Inl):Prop:= ∀I,I∈a->Xl P I
theorem aa.nil (P:Program):aa P []:=λF h=>by cases h
theorem aa.cons {P:Program}{F:Inl}{tab:List Inl}(h:Xl P F)(a:aa P tab):aa P (F::tab):=λG hG=>by
 rcases List.mem_cons.1 hG with rfl|hG
 .exact h
 .exact a G hG
theorem gr.nil (P:Program):gr P []:=λF h=>by cases h
theorem gr.cons {P:Program}{F:FSum}{tab:List FSum}(h:dq P F)(a:gr P tab):gr P (F::tab):=λG hG=>by
 rcases List.mem_cons.1 hG with rfl|hG
 .exact h
 .exact a G hG
theorem IL {P:Program}(h:gr P tab.fs)(p:aa P tab.is)(f:FuncId):Sim P f (jf tab f):=by
 rintro B μ Z w d a K (⟨F,e,g,j⟩|⟨F,e,g,j⟩) n o
 .subst g;exact h F e B μ Z w d a K j n o
 .subst g;exact p F e B μ Z w d a K j n o
theorem Vt {β:Type}{c:Ctx}{k:VV->ak->Option β}{y:β}{f:Nat}{a:List VV}{as:List Value}(B:Rel c)(C:F2 (VRel c) a as): ∀{tab:List FSum},Pm tab f a c.S k=O y->(λf a Z K=> ∃F,F∈tab/\F.f=f/\F.spec a Z K:Ab.mE) f as c.Z (ng c (zj tab f a c.S) k y)
 |[],h=>by cases h
 |F::r,h=>by
  have next:Pm r f a c.S k=O y->zj (F::r) f a c.S=zj r f a c.S->(λf a Z K=> ∃G,G∈F::r/\G.f=f/\G.spec a Z K:Ab.mE) f as c.Z (ng c (zj (F::r) f a c.S) k y):=by
   intro n u;obtain⟨G,z,w,A⟩:=Vt B C n;rw[u];exact⟨G,aB _ z,w,A⟩
  simp only[Pm]at h;cases g:Nat.beq F.f f with
  |false=>
   rw[g,zD]at h;exact next h (by simp only[zj,g,zD])
  |true=>
   rw[g,zC]at h;cases j:qO (Iq F.vals a c.S) 0 [] F.ins a with
   |none=>
    rw[j]at h;exact next h (by simp only[zj,g,zC,j])
   |some st=>
    rw[j]at h;simp only at h;cases s:UZ F.ins.shs st.ls with
    |none=>
     rw[s]at h;exact next h (by simp only[zj,g,zC,j,s])
    |some t=>
     rw[s]at h;simp only at h;obtain⟨n,u⟩:=aw h;rw[Bool.and_eq_true]at n;have e:zj (F::r) f a c.S=nN F.objs st.m:=by simp only[zj,g,zC,j,s]
     rw[e];unfold aT6 at u;obtain⟨o,z,w⟩:=ah u;rw[TC]at w;obtain⟨p,A,q⟩:=ah w;have d:=PE F.vals a c.S;split at q
     .rename_i v fs bs N;split at q
      .rename_i S' M;refine⟨F,aD,bB g,⟨c.μ,Iq F.vals a c.S,c.Z,c.fb⟩,a,st,t,o,p,v,fs,bs,S',rfl,d.rel B,VRel.frames d.le C,j,s,n.1,n.2,z,A,N,M, ?_⟩;rintro P Z' ⟨ct,D,E,H,I,J,L⟩;exact⟨v,ct,D,d.le.trans H,I,(d.calm _).trans L d.le,J,by rw[E];exact q⟩
      .cases q
     .cases q
theorem Vu {β:Type}{c:Ctx}{k:VV->ak->Option β}{y:β}{f:Nat}{a:List VV}{as:List Value}(e:Rel c)(g:F2 (VRel c) a as): ∀{j:List Inl},YU j f a c.S k=O y->∃I,I∈j/\I.f=f/\I.spec as c.Z (ng c (Pb c.S.length) k y)
 |[],h=>by cases h
 |I::r,h=>by
  simp only[YU]at h;cases d:Nat.beq I.f f with
  |false=>
   rw[d,zD]at h;obtain⟨J,n,o,p⟩:=Vu e g h;exact⟨J,aB _ n,o,p⟩
  |true=>
   rw[d,zC]at h;exact⟨I,aD,bB d,β,y,c,a,k,rfl,e,g,h,λr Z' h=>h⟩
theorem Vv {β:Type}{k:VV->ak->Option β}{y:β}{f:Nat}{a:List VV}(d:Rel c)(g:F2 (VRel c) a as)(h:YV tab f a c.S k=O y):jf tab f as c.Z (ng c (TO tab f a c.S) k y):=by
 unfold YV at h;unfold TO;cases e:aI9 tab.is f with
 |false=>
  rw[e,zD]at h;rw[zD];exact .inl (Vt d g h)
 |true=>
  rw[e,zC]at h;rw[zC];exact .inr (Vu d g h)
theorem Lh {β:Type}{e:dk}{C:cm}{k:VV->ak->Option β}{y:β}(d:Rel c)(g:ba c e C){op:AOp}(h:Py tab op e c.S k=O y):cc (jf tab) op C c.Z (ng c (Lg tab op e c.S) k y):=by
 cases op<;>simp only[Py]at h
 case move x=>exact aK1 d g h
 case pick t a b=>
  split at h
  .rename_i p w;exact aL9 d g w h
  .cases h
 case alloc es z=>exact ao8 d h
 case box es x=>exact aZ8 d g h
 case build z ps=>
  split at h
  .rename_i F v;exact aq5 d g v h
  .cases h
 case buildSlice es ln z ps=>
  split at h
  .rename_i F v;exact Rf d g v h
  .cases h
 case load x=>exact aJ4 d g h
 case loadN n x=>exact au6 d g h
 case store n a x=>exact aA8 d g (λq u=>Pt _ u) h
 case nilCheck x=>exact V0 d g h
 case bin op x z=>exact aZ7 d g h
 case eqv B neg x z=>
  split at h
  .rename_i p w;exact ba2 d g w h
  .cases h
 case eqCells neg ks x z=>
  split at h
  .rename_i a b j r;split at h
   .rename_i p w;exact XN d g j r w h
   .cases h
  .cases h
 case un op x=>exact bp6 d g h
 case conv B x=>
  split at h
  .rename_i n H;exact aG8 d g H h
  .cases h
 case mkFunc f a b=>exact ai1 d g h
 case makeSlice es bytes z l m=>exact aJ9 d g h
 case slice es x lo hi=>exact aA5 d g h
 case sliceArr es n x lo hi=>exact WP d g h
 case off n x=>exact bc1 d g h
 case idx es x i=>exact bb0 d g h
 case idxA ln es x i=>exact aJ0 d g h
 case fieldV o n agg x=>
  split at h
  .rename_i F v;exact ag6 d g v h
  .cases h
 case indexV ln es agg x i=>
  split at h
  .rename_i F B i j r;exact ah5 d g j r h
  .cases h
 case indexS x i=>
  split at h
  .rename_i l B i j r;exact ah4 d g j r h
  .cases h
 case extract x i=>
  split at h
  .rename_i vs v;exact XP d g v h
  .cases h
 case call f xs=>exact Vv d (Oi g xs) h
 case callv x xs=>
  have A:=cd g x;split at h
  .rename_i f a b K;rw[K]at A
   have: ∃D E,C.ev x= .func (.func f) D E/\F2 (VRel c) a D.toList/\F2 (VRel c) b E.toList:=by
    generalize C.ev x=M at A;cases A;exact⟨_,_,rfl,by assumption,by assumption⟩
   obtain⟨D,E,j,r,L⟩:=this;have:=Vv d ((r.append (Oi g xs)).append L) h;simp only[cc,j,Lg,K];exact this
  .cases h
 case append es bytes s x=>exact Xn d g (λq u=>Pt _ u) h λh=>ae7 d g (λq u=>Pt _ u) h
 case stuck=>cases h
 case capN x=>
  split at h
  .rename_i A;exact aG4 d g A h
  .cases h
 case sliceX x hi mx=>exact al4 d g h
 case appendZ es bytes z s x=>exact Xo d g (λq u=>Pt _ u) h
 case copy es s x=>exact aG9 d g (λq u=>Pt _ u) h
 case len x=>
  split at h
  .cases h
  .rename_i I;split at h
   .rename_i n H;exact bb5 d g I H h
   .cases h
 case lenC n=>exact ck rfl (ng.same d (.int _ _) h)
 case most x z=>
  split at h
  .rename_i B a J b j r;exact aK0 d g j r h
  .cases h
 case least x z=>
  split at h
  .rename_i B a J b j r;exact au2 d g j r h
  .cases h
end
end Go.V
