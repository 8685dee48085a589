/- A part of the proof. No condition. -/
import Derived.Test.YtlaofmfngnkldaaGreatA6
set_option linter.all false
namespace Go.V
open Go.Ab
open Option renaming some->O,none->Z
open Bool renaming true->Za,false->Zb
open Decidable renaming decide->Zc
open List renaming mem_singleton->aI
open Option renaming map_eq_some_iff->aC
open List renaming length->b8
open Option renaming bind->bA
open Option.some renaming injEq->aZ
variable {x z:Operand}{c:Ctx}{a:Value}{kd:IntKind}{v:VV}{S S':ah}{b i:Int}{e:cn}{ea:bj}{k o:Nat}{blk:Blk}{agg neg p:Bool}{cs:List VV}{d:Nat×Nat}{l:Zd}
section
open Bool renaming and_eq_true->aB
open List renaming all_append->aD,length_drop->bB,length_take->bD
open Nat renaming le_of_ble_eq_true->cB
def ar (c:Ctx)(e:cn)(ea:bj):Prop:= ∀t,VRel c (iZ e t)<|ea t
def ar.frame {f:Ctx}(h:ar c e ea)(g:Le c f):ar f e ea:=λt=>(h t).frame g
def vN {d t:Nat}:iZ (oA e d v) t=if t=d then v else iZ e t:=by
 induction d generalizing e t with
 |zero=>cases e<;>cases t<;>simp[oA,iZ]
 |succ d f=>
  cases e with
  |nil=>
   cases t with
   |zero=>simp[oA,iZ]
   |succ t=>simp[oA,iZ,f]
  |cons a r=>
   cases t with
   |zero=>simp[oA,iZ]
   |succ t=>simp[oA,iZ,f]
def ar.put (h:ar c e ea){d:Nat}(g:VRel c v a):ar c (oA e d v)<|ea.put d a:=by
 intro t;rw[vN];unfold bj.put;by_cases f:t=d
 .rw[zE f,zE f];exact g
 rw[zF f,zF f];exact h t
def ar.putO (h:ar c e ea){d:Option Nat}(f:VRel c v a):ar c (putO e d v)<|ea.putO d a:=by
 cases d with
 |none=>exact h
 |some d=>exact h.put f
def Sq (c:Ctx)(v:Value):VRel c (D9 v) v:=by
 unfold D9;split
 .exact .bool _
 .exact .int _ _
 .exact .str rfl
 .exact .nilp
 .exact .nils
 .exact .nilf
 exact .undef _
def uD (c:Ctx)(l:List Value):F2 (VRel c) (l.map D9) l:=by
 induction l with
 |nil=>exact .nil
 |cons v l f=>exact .cons (Sq c v) f
def aB0 (c:Ctx)(v:Value):VRel c (ofC v) v:=by
 unfold ofC;split
 .rename_i cs;exact .agg (by simpa using uD c cs.toList)
 exact Sq c _
def bt (h:ar c e ea)(x:Operand):VRel c (ev e x)<|ea.ev x:=by
 cases x with
 |tmp t=>exact h t
 |const v=>exact aB0 c v
 |global _=>exact .undef _
 |func f=>exact .fn .nil .nil
def J7 (h:ar c e ea)(xs:List Operand):F2 (VRel c) (xs.map<|ev e)<|xs.map ea.ev:=by
 induction xs with
 |nil=>exact .nil
 |cons x xs f=>exact .cons (bt h x) f
def am {β:Type}{b:Bool}{x:Option β}{y:β}(h:gd b x=O y):b=Za/\x=O y:=by
 cases b with
 |false=>cases h
 |true=>exact⟨rfl,h⟩
def Sx (h:VRel c v a)(f:aC4 v=Za):one a=Za:=by
 cases h<;>first|rfl|assumption|(cases f;done)|(rename_i h;rcases h with rfl|⟨_,_,rfl⟩<;>rfl)
def kj {c:Ctx}: ∀{l:List VV} {m:List Value},F2 (VRel c) l m->nX l=Za->m.all one=Za
 |_,_, .nil,_=>rfl
 |_,_, .cons f g,h=>by
  simp only[nX,List.all_cons,aB]at h⊢;exact⟨Sx f h.1,kj g h.2⟩
def Eo : ∀(s:Sh) (x:El s),nX (bn s x)=Za
 | .int _,_=>rfl
 | .bool,_=>rfl
 | .str,_=>rfl
 | .list _,_=>rfl
 | .pair a b,x=>by
  have f:=Eo a x.1;have g:=Eo b x.2;simp only[nX,bn,aD,aB]at*;exact⟨f,g⟩
def rT (s:Sh)(l:List<|El s):nX (fh s l)=Za:=by
 induction l with
 |nil=>rfl
 |cons x l g=>
  have f:=Eo s x;rw[fO];simp only[nX,aD,aB]at*;exact⟨f,g⟩
def H7 (h:VRel c v a)(g:nX (mR v)=Za):F2 (VRel c) (mR v)<|cellsOf a:=by
 have f:one a=Za->cellsOf a=[a]:=λh=>by cases a<;>first|rfl|(cases h;done)
 cases v with
 |agg l=>
  cases h with
  |agg h=>exact h
 |undef=>cases g
 |bag s l=>cases g
 |tup l=>cases g
 |_=>
  rw[f<|Sx h rfl];exact .cons h .nil
def cm {T:gw}{op:AOp}{e:bj}{σ σ':Hp}{v:Value}{K:Value->Hp->Prop}(h:op.run e σ=O (v,σ'))(f:K v σ'):bp T op e σ K:=by
 unfold bp;split
 .cases h
 .cases h
 .cases h
 rw[h];exact f
def yB {α:Type}: ∀(l:List α) (i:Nat),nth l i=l[i]?
 |[],_=>rfl
 |_::_,0=>rfl
 |_::l,i+1=>by
  rw[show nth (_::l) (i+1)=nth l i from rfl,yB l i];rfl
def F2.nth {l:List VV}{m:List Value}(h:F2 (VRel c) l m){i:Nat}(f:nth l i=O v): ∃a,m[i]?=O a/\VRel c v a:=by
 rw[yB]at f;exact h.get i v f
def Io {k:IntKind}: ∀{cs:List VV} {l:Zd},C1 k cs=O l->cs=l.map (.int k)
 |[],l,h=>by cases h;rfl
 |v::r,l,h=>by
  cases v<;>simp only[C1]at h<;>try(cases h;done)
  rename_i j n;cases g:Zc (j=k)with
  |false=>rw[g]at h;cases h
  |true=>
   rw[g,zC]at h;cases f:C1 k r with
   |none=>rw[f]at h;cases h
   |some m=>
    rw[f]at h;cases h;rw[Io f,of_decide_eq_true g];rfl
def K5 : ∀{cs:List VV} {l:List Bool},K4 cs=O l->cs=l.map .bool
 |[],l,h=>by cases h;rfl
 |v::r,l,h=>by
  cases v<;>simp only[K4]at h<;>try(cases h;done)
  cases f:K4 r with
  |none=>rw[f]at h;cases h
  |some m=>
   rw[f]at h;cases h;rw[K5 f];rfl
def OS : ∀{cs:List VV} {l:List<|Zd},Tj cs=O l->cs=l.map .str
 |[],l,h=>by cases h;rfl
 |v::r,l,h=>by
  cases v<;>simp only[Tj]at h<;>try(cases h;done)
  cases f:Tj r with
  |none=>rw[f]at h;cases h
  |some m=>
   rw[f]at h;cases h;rw[OS f];rfl
theorem SD {β:Type}{S:ah}{k:VV->ah->Option β}{y:β}: ∀{cs:List VV} {i:Nat},Wz S k cs i=O y->∃v,cs[i]?=O v/\k v S=O y
 |[],_,h=>by cases h
 |v::r,i,h=>by
  simp only[Wz]at h;cases f:Nat.beq i 0 with
  |true=>
   simp_all
  |false=>
   rw[f]at h;have⟨w,g,j⟩:=SD h;have:i≠0:=λe=>by subst e;cases f
   grind
theorem Rk {β:Type}{k:VV->ah->Option β}{y:β}{i:Nat}(f:i<b8 cs)(h:Rj cs i S k=O y): ∃v,cs[i]?=O v/\k v S=O y:=by
 unfold Rj at h;split at h
 .rename_i kd n r;split at h
  .rename_i l hl;have:=Io hl
   grind
  cases h
 .rename_i b r;split at h
  .rename_i l hl;have:=K5 hl
   grind
  cases h
 .rename_i b r;split at h
  .rename_i l hl;have:=OS hl
   grind
  cases h
 exact SD h
theorem Rel.block (g:Rel c){b:Nat}(j:(ae c.S k).dim=O d)(f:c.μ k=O b):
  ∃y cs rest,c.σ.m b=O y/\y.es=d.1/\((ae c.S k).frozen=Zb->y.own=Za)/\y.cells=cs++rest/\F2 (VRel c) (ae c.S k).vals cs:=by
 have⟨_,h⟩:=g.blk k d j;rcases h with⟨_,h⟩|⟨n,y,cs,rest,h,q⟩
 .rw[h]at f;cases f
 .grind
def ut (c:Ctx)(cs:List VV)(b p:Nat):Prop:= ∃y,c.σ.m b=O y/\p+b8 cs<=b8 y.cells/\F2 (VRel c) cs ((y.cells.drop p).take<|b8 cs)
theorem ut.get {b p:Nat}(h:ut c cs b p)(g:nth cs o=O v): ∃y a,c.σ.m b=O y/\y.cells[p+o]?=O a/\VRel c v a:=by
 have⟨y,j,n,f⟩:=h;have⟨a,q,r⟩:=F2.nth f g
 grind
def ut.read {b p:Nat}(h:ut c cs b p){n:Nat}(r:o+n<=b8 cs): ∃y as,c.σ.m b=O y/\oB y (p+o) n=O as/\F2 (VRel c) ((cs.drop o).take n) as:=by
 have⟨y,g,q,j⟩:=h;refine⟨y,(y.cells.drop<|p+o).take n,g,Zg, ?_⟩;have f:=(j.drop o).take n;rw[List.drop_take,List.drop_drop,List.take_take,Nat.min_eq_left V1]at f;exact f
theorem Rel.stands (m:Rel c){b:Nat}(n:(ae c.S k).dim=O d)(q:c.μ k=O b):ut c (ae c.S k).vals b 0:=by
 obtain⟨y,cs,f,g,_,_,h,j⟩:=m.block n q;have r:=j.length;refine⟨y,g,by rw[h,List.length_append];omega, ?_⟩
 grind
def ut.part {b p:Nat}(h:ut c cs b p){n:Nat}(r:o+n<=b8 cs):ut c ((cs.drop o).take n) b<|p+o:=by
 have⟨y,g,q,j⟩:=h;have f:b8 ((cs.drop o).take n)=n:=by rw[bD,bB];omega
 refine⟨y,g,by rw[f];omega, ?_⟩;have m:=(j.drop o).take n;rw[List.drop_take,List.drop_drop,List.take_take,Nat.min_eq_left V1]at m
 rwa [f]
theorem SU {β:Type}(L:Rel c){n:Nat}{k:VV->ah->Option β}{y:β}(h:OI c.S n agg v k=O y)(I:VRel c v a):
  ∃b o x,a= .pointer (O ⟨b,o,Z⟩)/\c.σ.m b=O x/\
   (agg=Zb->∃u w,x.cells[o]?=O u/\VRel c w u/\k w c.S=O y)/\
   (agg=Za->∃F H,oB x o n=O F/\F2 (VRel c) H F/\k (.agg H) c.S=O y):=by
 have r: ∀(cs:List VV) (b p o:Nat),ut c cs b p->a= .pointer (O ⟨b,p+o,Z⟩)->
   cond agg (gd (Nat.ble (o+n)<|b8 cs)<|k (.agg<|(cs.drop o).take n) c.S) (match nth cs o with
    |some v=>k v c.S
    |none=>Z)=O y->
   ∃b o x,a= .pointer (O ⟨b,o,Z⟩)/\c.σ.m b=O x/\
   (agg=Zb->∃u w,x.cells[o]?=O u/\VRel c w u/\k w c.S=O y)/\
   (agg=Za->∃F H,oB x o n=O F/\F2 (VRel c) H F/\k (.agg H) c.S=O y):=by
  intro cs b p o g B h;cases agg with
  |true=>
   have⟨A,P⟩:=am h;have⟨x,as,J,K,Q⟩:=g.read (cB A)
   grind
  |false=>
   rw[zD]at h;split at h
   .rename_i w hw;have⟨x,u,J,K,Q⟩:=g.get hw
    grind
   .cases h
 unfold OI at h;cases v with
 |ptr q o=>
  simp only at h;cases f:ae c.S q with
  |dead=>rw[f]at h;cases h
  |arr s z l=>rw[f]at h;cases h
  |cells t z l=>
   rw[f]at h;cases I with
   |ptr V _ D=>
    have⟨b,E,B⟩:=D (t,b8 l) Zp;have g:=L.stands (k:=q) (d:=(t,b8 l)) Zp E;rw[f]at g;exact r l b 0 o g (by rw[B,Nat.zero_add]) h
 |pix q o m i=>
  simp only at h;cases f:ae c.S q with
  |dead=>rw[f]at h;cases h
  |arr s z l=>rw[f]at h;cases h
  |cells t z l=>
   rw[f]at h;have⟨A,P⟩:=am h;rw[aB]at A;have J:=cB A.2;have C:agg=Zb:=by simpa using A.1
   subst C;cases I with
   |pix V _ U D=>
    have⟨b,E,B⟩:=D (t,b8 l) Zp;have g:=L.stands (k:=q) (d:=(t,b8 l)) Zp E;rw[f]at g;have W:b8 ((l.drop o).take m)=m:=by rw[bD,bB];omega
    have⟨w,K,Q⟩:=Rk V1 P;have j:ut c ((l.drop o).take m) b<|0+o:=ut.part (cs:=l) g J;rw[<-yB]at K
    grind
 |pel q i o=>
  simp only at h;cases f:ae c.S q with
  |dead=>rw[f]at h;cases h
  |cells t z l=>rw[f]at h;cases h
  |arr s z l=>
   rw[f]at h;simp only at h;cases N:l[i]? with
   |none=>rw[N]at h;cases h
   |some x=>
    rw[N]at h;cases I with
    |pel V _ D=>
     have⟨b,E,B⟩:=D (s.w,b8 l*s.w) Zp;have g:=L.stands (k:=q) (d:=(s.w,b8 l*s.w)) Zp E;rw[f]at g
     have U:i<b8 l:=by
      grind
     have M:i*s.w+s.w<=b8 (fh s l):=by
      rw[gR,<-Nat.succ_mul];exact Nat.mul_le_mul_right _ U
     have j:ut c (((fh s l).drop<|i*s.w).take s.w) b<|0+i*s.w:=ut.part (cs:=fh s l) g M;rw[Ij N,Nat.zero_add]at j;exact r (bn s x) b (i*s.w) o j B h
 |pin s x o=>
  simp only at h;cases I with
  |pin hn hy Y X=>
   exact r (bn s x) _ _ o ⟨_,hy,by rw[cu];exact Y,by rw[cu];exact X⟩ rfl h
 |_=>cases h
end
section
open Nat renaming lt_of_lt_of_le->aB
def Ks.frame {f:Ctx}(D:Le c f)(h:Ks c k)(r:ae f.S k=ae c.S k)(E:(ae c.S k).dim≠Z->f.μ k=c.μ k)(F: ∀b y,(ae c.S k).dim≠Z->c.μ k=O b->c.σ.m b=O y->f.σ.m b=O y):Ks f k:=by
 intro d n;rw[r]at n;have⟨t,u⟩:=h d n;have s:=E (by rw[n];simp);refine⟨t, ?_⟩;rcases u with⟨j,q⟩|⟨b,y,cs,g,j,q,w,A,B,C⟩
 .exact .inl ⟨j,s.trans q⟩
 exact .inr ⟨b,y,cs,g,s.trans j,F b y (by rw[n];simp) j q,w,by rw[r];exact A,B,by rw[r];exact VRel.frames D C⟩
def qF (S S':ah):Prop:=b8 S'=b8 S/\∀k,ae S' k=ae S k∨ae S' k=(ae S k).freeze
def qF.refl (S:ah):qF S S:=⟨rfl,λ_=> .inl rfl⟩
def Nn {b:Blk}:b.freeze.freeze=b.freeze:=by cases b<;>rfl
def qF.trans {a b c:ah}(h:qF a b)(k:qF b c):qF a c:=by
 refine⟨k.1.trans h.1,λi=> ?_⟩;rcases h.2 i with h1|h1<;>rcases k.2 i with h2|h2
 .exact .inl (h2.trans h1)
 .exact .inr (by rw[h2,h1])
 .exact .inr (h2.trans h1)
 exact .inr (by rw[h2,h1,Nn])
theorem qF.put :qF S<|gJ S k (ae S k).freeze:=by
 refine⟨yF,λi=> ?_⟩;rw[uG]
 grind
def qF.fold {f:ah->VV->ah}(g: ∀S v,qF S<|f S v): ∀(l:List VV) (S:ah),qF S (l.foldl f S)
 |[],S=>qF.refl S
 |v::l,S=>(g S v).trans<|qF.fold g l _
def VQ : ∀(n:Nat) (S:ah) (v:VV),qF S (fzv n S v)
 |0,S,_=>qF.refl S
 |n+1,S,v=>by
  have f: ∀k,qF S (match ae S k with
    | .cells j _ l=>l.foldl (fzv n) (gJ S k<|.cells j Za l)
    |b=>gJ S k b.freeze):=by
   intro k;have g:=qF.put (S:=S) (k:=k);split
   .rename_i j z l h;rw[h]at g;exact qF.trans g (qF.fold (VQ n) l _)
   .exact g
  unfold fzv;split
  .exact f _
  .exact f _
  .exact qF.refl S
def Ck (S:ah)(l:List VV):qF S<|C0 S l:=qF.fold (VQ 3) l S
def RU (S:ah)(v:VV):qF S<|ax7 S v:=by
 unfold ax7;split
 .split
  .exact Ck S _
  exact qF.refl S
 .split
  .exact Ck S _
  exact qF.refl S
 exact qF.refl S
def RQ (b:Bool)(h:qF S S'):qF S<|cond b S' S:=by
 cases b
 .exact qF.refl S
 exact h
def XD (k:Sk)(v:VV)(S:ah):qF S<|ac8 k v S:=by
 unfold ac8;split
 .exact RQ _ (RU S v)
 exact qF.refl S
def LA : ∀(l:List Sk) (vs:List VV) (S:ah),qF S (D0 l vs S)
 |[],_,S=>qF.refl S
 |_::_,[],S=>qF.refl S
 |k::r,v::vs,S=>(XD k v S).trans<|LA r vs _
def RT (N:Nat)(f:List OSk): ∀(l:List Sk) (vs:List VV) (S:ah),qF S (ax6 N f l vs S)
 |[],_,S=>qF.refl S
 |_::_,[],S=>qF.refl S
 |k::r,v::vs,S=>by
  refine qF.trans ?_ (RT N f r vs _);split
  .split
   .exact RQ _ (RU S v)
   .exact qF.refl S
  .exact qF.refl S
def uA : ∀(l:List Nat) (S:ah),qF S (CZ l S)
 |[],S=>qF.refl S
 |_::l,S=>qF.put.trans<|uA l _
def qF.dim (h:qF S S')(k:Nat):(ae S' k).dim=(ae S k).dim:=by
 rcases h.2 k with h|h<;>rw[h]
 exact gy
def qF.vals (h:qF S S')(k:Nat):(ae S' k).vals=(ae S k).vals:=by
 rcases h.2 k with h|h<;>rw[h]
 exact Js
def qF.fz (h:qF S S')(f:(ae S' k).frozen=Zb):ae S' k=ae S k:=by
 rcases h.2 k with h|h
 .exact h
 rw[h,kN]at f;cases f
def qF.le (h:qF c.S S'):Le c ⟨c.μ,S',c.σ,c.fb⟩:=by
 refine⟨Nat.le_of_eq h.1.symm,λk d _ g=>⟨(h.dim k)▸g,rfl⟩,λk j _=> ?_,λ_ _ _ y _ _ _ f=>⟨y,f,rfl⟩,λb y f _=>f,λb y f m=> ?_,Nat.le_refl _,rfl⟩
 .rcases h.2 k with h|h
  .exact h
  exact h.trans (AZ j)
 rintro⟨k,h1,h2⟩;exact m ⟨k,by rw[<-h.fz h1];exact h1,h2⟩
def qF.rel (f:Rel c)(h:qF c.S S'):Rel ⟨c.μ,S',c.σ,c.fb⟩:=by
 refine⟨f.ok,λk H b j q r s=>f.inj k H b (by rw[<-h.fz j];exact j) (by rw[<-h.dim];exact q) r s,λk d F=> ?_,λk b j r=>f.fbk k b (by rw[<-h.dim];exact j) r,f.fbl⟩;have n:(ae c.S k).dim=O d:=(h.dim k)▸F;have⟨u,m⟩:=f.blk k d n;refine⟨u, ?_⟩;rcases m with m|⟨b,y,cs,g,w,A,B,C,D,E⟩
 .exact .inl m
 exact .inr ⟨b,y,cs,g,w,A,B,λt=>C (by rw[<-h.fz t];exact t),D,by rw[h.vals k];exact VRel.frames h.le E⟩
def qF.calm (d:List Nat)(h:qF c.S S'):vk d c ⟨c.μ,S',c.σ,c.fb⟩:=λk _ _ f=>⟨by rw[h.dim];exact f,λ_ _=>rfl⟩
def vk.trans {a b:Ctx}{d:List Nat}(h:vk d a b)(k:vk d b c)(q:Le a b):vk d a c:=by
 intro i f n w;have⟨j,s⟩:=h i f n w;have⟨t,u⟩:=k i (aB f q.len) n j;refine⟨t,λx r=> ?_⟩
 have g:b.μ i=O x:=by
  cases m:(ae b.S i).dim with
  |none=>exact(j m).elim
  |some z=>exact(q.al i z f m).2.trans r
 exact(u x g).trans<|s x r
def Vo (c:Ctx)(kill:Option Nat)(b:Nat):Prop:= ∃k,kill=O k/\c.μ k=O b
def pR (c:Ctx)(b1:Option Nat):Nat->Option Nat:=λi=>if i=b8 c.S then b1 else c.μ i
def xy {kill:Option Nat}:b8 (mb S kill)=b8 S:=by cases kill<;>simp[mb,yF]
def XN {kill:Option Nat}{i:Nat}:ae (mb S kill) i=if kill=O i then .dead else ae S i:=by
 cases kill with
 |none=>simp[mb]
 |some k=>
  simp only[mb,uG,aZ];by_cases h:i=k
  .subst h;by_cases f:i<b8 S
   .simp[f]
   simp[f,vV<|Nat.le_of_not_lt f]
  simp[h,Ne.symm h]
structure Moves (c:Ctx)(kill:Option Nat)(b1:Option Nat)(blk:Blk)(σ':Hp):Prop where
 fr: ∀b,b1=O b->(∀z,c.σ.m b≠O z)->¬c.fb b
 kz: ∀k,kill=O k->(ae c.S k).frozen=Zb
 ok:σ'.Ok
 n:c.σ.n<=σ'.n
 old: ∀i y,c.σ.m i=O y->¬Vo c kill i->σ'.m i=O y
 one: ∃d,blk.dim=O d/\1<=d.1/\((b1=Z/\d.2=0)∨∃b y cs rest,b1=O b/\σ'.m b=O y/\y.es=d.1/\(blk.frozen=Zb->y.own=Za)/\y.cells=cs++rest/\F2 (VRel c) blk.vals cs/\((∀z,c.σ.m b≠O z)∨Vo c kill b))
section
variable {c:Ctx} {kill b1:Option Nat} {blk:Blk} {σ':Hp}
def jY (i:Nat):ae (mb c.S kill++[blk]) i=if i=b8 c.S then blk else if kill=O i then .dead else ae c.S i:=by
 by_cases h:i=b8 c.S
 .subst h;rw[zE rfl,<-xy (S:=c.S) (kill:=kill),Tf]
 rw[zF h];by_cases f:i<b8 c.S
 .rw[mV (by rw[xy];exact f),XN]
 have g:b8 c.S<i:=by omega
 rw[vV (by rw[List.length_append,xy];simp;omega),vV (k:=i) (S:=c.S) V1];split<;>rfl
def Moves.low (g:Rel c)(h:Moves c kill b1 blk σ'){i b:Nat}(_:i≠b8 c.S)(m:kill≠O i)(j:(ae c.S i).dim≠Z)(n:c.μ i=O b): ¬Vo c kill b:=by
 rintro⟨k,rfl,f⟩;exact m<|congrArg O<|g.inj k i b (h.kz k rfl) j f n
theorem Moves.le (u:Rel c)(h:Moves c kill b1 blk σ'):Le c ⟨pR c b1,mb c.S kill++[blk],σ',c.fb⟩:=by
 have j: ∀k,k<b8 c.S->k≠b8 c.S:=λk g=>by omega
 refine⟨by simp[xy],λk d g f=> ?_,λk A f=> ?_,λk d b y g f q t=> ?_,λb y t s=>h.old b y t λ⟨k,e,q⟩=>s ⟨k,h.kz k e,q⟩,λb y t s=> ?_,h.n,rfl⟩
 .simp only[jY,zF<|j k g]at f;split at f
  .cases f
  exact⟨f,zF<|j k g⟩
 .have g:=kG f;simp only[jY,zF<|j k g];rw[zF];intro e;have:=h.kz k e;rw[A]at this;cases this
 .simp only[jY,zF<|j k g]at f;split at f
  .cases f
  rename_i hne;exact⟨y,h.old b y t<|h.low u (j k g) hne (by rw[f];simp) q,rfl⟩
 have w: ¬Vo c kill b:=λ⟨k,e,q⟩=>s ⟨k,h.kz k e,q⟩
 rintro⟨k,m,r⟩;simp only[jY]at m;simp only[pR]at r;by_cases g:k=b8 c.S
 .rw[zE g]at m r;have⟨d,_,_,B⟩:=h.one
  grind
 rw[zF g]at m r;split at m
 .cases m
 exact s ⟨k,m,r⟩
theorem Moves.rel (w:Rel c)(h:Moves c kill b1 blk σ'):Rel ⟨pR c b1,mb c.S kill++[blk],σ',c.fb⟩:=by
 have D:=h.le w
 have E: ∀i b,i≠b8 c.S->kill≠O i->(ae c.S i).dim≠Z->c.μ i=O b->b1≠O b:=by
  intro i b P f u m e;have⟨d,_,_,g⟩:=h.one;rcases g with⟨g,_⟩|⟨F,y',cs,t,g,_,_,_,_,_,h4⟩
  .rw[g]at e;cases e
  rw[g]at e;cases e;rcases h4 with h4|h4
  .cases C:(ae c.S i).dim with
   |none=>exact u C
   |some U=>
    have⟨y,_,_,J,_⟩:=w.block C m;exact h4 y J
  exact h.low w P f u m h4
 have I: ∀b,c.fb b->b1≠O b:=by
  intro b A e;have⟨d,_,_,g⟩:=h.one;rcases g with⟨g,_⟩|⟨F,y',cs,t,g,_,_,_,_,_,h4⟩
  .rw[g]at e;cases e
  rw[g]at e;cases e;rcases h4 with h4|⟨k,h4,H⟩
  .exact h.fr _ g h4 A
  exact w.fbk k _ (mw<|h.kz k h4) H A
 refine⟨h.ok,λk K b f j m q=> ?_,λk=> ?_,λk b f m A=> ?_,λb A=>aB (w.fbl b A) h.n⟩
 rotate_left 2
 .simp only[jY]at f;simp only[pR]at m;by_cases r:k=b8 c.S
  .rw[zE r]at m;exact I b A m
  rw[zF r]at m f;split at f
  .exact f rfl
  exact w.fbk k b f m A
 .simp only[jY]at f j;simp only[pR]at m q;by_cases r:k=b8 c.S<;>by_cases B:K=b8 c.S
  .omega
  .rw[zE r]at m;rw[zF B]at q j;split at j
   .exact(j rfl).elim
   grind
  .rw[zF r]at m f;rw[zE B]at q;split at f
   .cases f
   rename_i s;exact(E k b r s (mw f) m q).elim
  rw[zF r]at m f;rw[zF B]at q j;split at f
  .cases f
  split at j
  .exact(j rfl).elim
  exact w.inj k K b f j m q
 by_cases f:k=b8 c.S
 .subst f;intro d u;simp only[jY,if_true]at u⊢;have⟨Q,r,B,g⟩:=h.one;rw[u]at r;cases r;refine⟨B, ?_⟩;simp only[pR,if_true];rcases g with⟨g,h4⟩|⟨F,y',cs,t,g,h4,H,L,M,N,_⟩
  .exact .inl ⟨h4,g⟩
  exact .inr ⟨F,y',cs,t,g,h4,H,L,M,VRel.frames D N⟩
 by_cases s:kill=O k
 .intro d u;simp only[jY,zF f,zE s]at u;cases u
 refine(w.blk k).frame D ?_ (λ_=>zF f) λb y u m J=> ?_
 .simp only[jY,zF f,zF s]
 exact h.old b y J<|h.low w f s u m
def Moves.calm (n:Rel c)(h:Moves c kill b1 blk σ'){d:List Nat}(s: ∀k,kill=O k->k∈d):vk d c ⟨pR c b1,mb c.S kill++[blk],σ',c.fb⟩:=by
 intro k w t f;have j:k≠b8 c.S:=by omega
 have m:kill≠O k:=λe=>t (s k e)
 simp only[jY,zF j,zF m];refine⟨f,λb q=> ?_⟩;cases g:(ae c.S k).dim with
 |none=>exact(f g).elim
 |some u=>
  have⟨y,_,_,r,_⟩:=n.block g q;rw[r];exact h.old b y r<|h.low n j m f q
end
def Nc (g:Rel c){x:Ab.Blk}(q:blk.dim=O d)(j:1<=d.1)(r:x.es=d.1)(t:x.own=Za)(s:F2 (VRel c) blk.vals x.cells):
  Moves c Z (O c.σ.n) blk (c.σ.add x):=by
 refine⟨(λb h _ m=>by cases h;exact Nat.lt_irrefl _<|g.fbl _ m),(λ_ h=>by cases h),λb y f=> ?_,Nat.le_succ _,λi y f _=> ?_,d,q,j, .inr ⟨c.σ.n,x,x.cells,[],rfl,zE rfl,r,λ_=>t,V2,s, .inl λz u=> ?_⟩⟩
 .simp only[Hp.add]at f⊢;split at f
  .omega
  .have:=g.ok b y f;omega
 .have:=g.ok i y f;simp only[Hp.add];rw[Zh];exact f
 .have:=g.ok _ _ u;omega
structure Writes (c:Ctx)(k b:Nat)(blk:Blk)(y':Ab.Blk):Prop where
 kz:(ae c.S k).frozen=Zb
 mu:c.μ k=O b
 dim:blk.dim=(ae c.S k).dim
 fz:blk.frozen=Zb
 one: ∃y cs rest d,c.σ.m b=O y/\(ae c.S k).dim=O d/\y'.es=d.1/\y'.own=Za/\b8 y'.cells=b8 y.cells/\y'.cells=cs++rest/\F2 (VRel c) blk.vals cs
section
variable {c:Ctx} {k b:Nat} {blk:Blk} {y':Ab.Blk}
theorem Writes.get (h:Writes c k b blk y')(i:Nat):ae (gJ c.S k blk) i=if i=k then blk else ae c.S i:=by
 rw[uG];have:=kG (mw h.kz)
 grind
def Writes.low (g:Rel c)(h:Writes c k b blk y'){i f:Nat}(m:i≠k)(j:(ae c.S i).dim≠Z)(n:c.μ i=O f):f≠b:=by
 rintro rfl;exact m (g.inj k i f h.kz j h.mu n).symm
def Writes.le (s:Rel c)(h:Writes c k b blk y'):Le c ⟨c.μ,gJ c.S k blk,c.σ.set b<|O y',c.fb⟩:=by
 refine⟨by simp[yF],λi d _ g=> ?_,λi r g=> ?_,λi d x y _ g t j=> ?_,λx y j n=> ?_,λx y j n=> ?_,Nat.le_refl _,rfl⟩
 .simp only[h.get]at g;split at g
  .rename_i e;subst e;exact⟨h.dim▸g,rfl⟩
  exact⟨g,rfl⟩
 .simp only[h.get];rw[zF];rintro rfl;rw[h.kz]at r;cases r
 .by_cases e:x=b
  .subst e;have⟨u,_,_,_,f,_,_,_,m,_⟩:=h.one;rw[j]at f;cases f;exact⟨y',aT,m⟩
  exact⟨y,by simp[Hp.set,e,j],rfl⟩
 .have q:x≠b:=by rintro rfl;exact n ⟨k,h.kz,h.mu⟩
  simp[Hp.set,q,j]
 rintro⟨i,f,m⟩;simp only[h.get]at f;split at f
 .rename_i e;subst e;exact n ⟨i,h.kz,m⟩
 exact n ⟨i,f,m⟩
def Writes.rel (f:Rel c)(h:Writes c k b blk y'):Rel ⟨c.μ,gJ c.S k blk,c.σ.set b<|O y',c.fb⟩:=by
 have q:=h.le f
 have A: ∀i,(ae (gJ c.S k blk) i).frozen=Zb->(ae c.S i).frozen=Zb:=by
  intro i m;rw[h.get]at m;split at m
  .rename_i e;subst e;exact h.kz
  exact m
 have g: ∀i,(ae (gJ c.S k blk) i).dim=(ae c.S i).dim:=by
  intro i;rw[h.get];split
  .rename_i e;subst e;exact h.dim
  rfl
 refine⟨λx z s=> ?_,λi j x m I r B=>f.inj i j x (A i m) (by rw[<-g];exact I) r B,λi=> ?_,λi x m r=>f.fbk i x (by rw[<-g];exact m) r,f.fbl⟩
 .simp only[Hp.set]at s;split at s
  .rename_i e;subst e;have⟨y,_,_,_,C,_⟩:=h.one;exact f.ok _ _ C
  exact f.ok _ _ s
 by_cases e:i=k
 .subst e;intro d w;have⟨y,cs,t,J,C,u,D,E,K,F,H⟩:=h.one;have n:(ae c.S i).dim=O d:=by rw[<-g];exact w
  rw[n]at u;cases u;refine⟨(f.blk i d n).1, .inr ⟨b,y',cs,t,h.mu,aT,D,λ_=>E,F, ?_⟩⟩;simp only[h.get,if_true];exact VRel.frames q H
 refine(f.blk i).frame q (by simp only[h.get,zF e]) (λ_=>rfl) λx z w r s=> ?_
 have:=h.low f e w r;simp[Hp.set,this,s]
def Writes.calm (j:Rel c)(h:Writes c k b blk y'){d:List Nat}(m:k∈d):vk d c ⟨c.μ,gJ c.S k blk,c.σ.set b<|O y',c.fb⟩:=by
 intro i _ q f;have g:i≠k:=by rintro rfl;exact q m
 simp only[h.get,zF g];refine⟨f,λx n=> ?_⟩;have:=h.low j g f n;simp[Hp.set,this]
end
end
section
open Bool renaming and_eq_true->aB
open List renaming replicate->bD,nil_append->cW,append_assoc->cY,drop_append->cZ,drop_of_length_le->dA,length_append->dB,length_cons->dC,length_take->dD,replicate_succ->dE,take_append_drop->dF
open Nat renaming beq->aD,le_of_ble_eq_true->bB,eq_of_beq_eq_true->cB,ble->cD,le_refl->cV,zero_add->cX
section
variable {β:Type} {T:gw} {c:Ctx} {e:cn} {ea:bj} {k:VV->ah->Option β} {y:β} {d:List Nat}
def VRel.bool_inv {b:Bool}(h:VRel c (.bool b) a):a= .bool b:=by cases h;rfl
def VRel.int_inv {n:Int}(h:VRel c (.int kd n) a):a= .int kd n:=by cases h;rfl
def VRel.str_inv (h:VRel c (.str l) a): ∃s,a= .string s/\au s=l:=by cases h;exact⟨_,rfl,ZZ⟩
def VRel.agg_inv {l:List VV}(h:VRel c (.agg l) a): ∃as:Array Value,a= .agg as/\F2 (VRel c) l as.toList:=by cases h;exact⟨_,rfl,ZZ⟩
def VRel.tup_inv {l:List VV}(h:VRel c (.tup l) a): ∃as:Array Value,a= .tuple as/\F2 (VRel c) l as.toList:=by cases h;exact⟨_,rfl,ZZ⟩
theorem Td {x z v:VV}{f g:Value}(h:an5 p x z=O v)(j:VRel c x f)(m:VRel c z g):VRel c v<|cond p f g:=by
 unfold an5 at h
 grind
def aA3 (f:Rel c)(g:ar c e ea)(h:k (ev e x) c.S=O y):bp T (.move x) ea c.σ<|iG c d k y:=
 cm rfl (iG.same f (bt g x) h)
def aC9 (m:Rel c)(g:ar c e ea){t a b:Operand}(q:ev e t= .bool p)(h:aj1 p (ev e a) (ev e b) c.S k=O y):bp T (.pick t a b) ea c.σ<|iG c d k y:=by
 have j:=bt g t;rw[q]at j;have j:=j.bool_inv
 have f: ∀v,VRel c v (cond p (ea.ev a)<|ea.ev b)->k v c.S=O y->bp T (.pick t a b) ea c.σ (iG c d k y):=by
  intro v r n;refine cm (v:=cond p (ea.ev a)<|ea.ev b) (σ':=c.σ) ?_ (iG.same m r n);simp only[AOp.run,j];cases p<;>rfl
 unfold aj1 at h;split at h
 .rename_i v hs;exact f v (Td hs (bt g a)<|bt g b) h
 cases p with
 |true=>exact f _ (bt g a) h
 |false=>exact f _ (bt g b) h
def iG.new {v:Value}{g:VV}{b1:Option Nat}{σ':Hp}{kill:Option Nat}(f:Rel c)(h:Moves c kill b1 blk σ')(j: ∀q,kill=O q->q∈d)(n:VRel ⟨pR c b1,mb c.S kill++[blk],σ',c.fb⟩ g v)(m:k g (mb c.S kill++[blk])=O y):iG c d k y v σ':=
 ⟨g,_,rfl,h.le f,h.rel f,h.calm f j,n,m⟩
def P6 {x:Ab.Blk}{dm:Nat×Nat}(_:blk.dim=O dm):VRel ⟨pR c<|O c.σ.n,mb c.S Z++[blk],c.σ.add x,c.fb⟩ (.ptr (b8 c.S) 0)<|.pointer<|O ⟨c.σ.n,0,Z⟩:=by
 refine .ptr aV rfl λf _=>⟨c.σ.n, ?_,rfl⟩
 simp[pR]
theorem aq9 : ∀{z:List Value},z.all aP2=Za->z=bD (b8 z) (.int .u8 0)
 |[],_=>rfl
 |v::z,h=>by
  rw[List.all_cons,aB]at h
  have g:v= .int .u8 0:=by
   have f:=h.1;unfold aP2 at f
   grind
  rw[dC,dE,<-aq9 h.2,g]
def xf (es:Nat)(z:List Value):(DR es z).dim=O (es,b8 z)/\(DR es z).frozen=Zb/\∀c:Ctx,F2 (VRel c) (DR es z).vals z:=by
 unfold DR;cases f:Ud es z with
 |false=>
  rw[zD];exact⟨by simp[Blk.dim],rfl,λc=>uD c z⟩
 |true=>
  rw[zC];unfold Ud at f;rw[aB,aB]at f;have j:=cB f.1.1;subst j;refine⟨by simp[Blk.dim,Sh.w],rfl,λc=> ?_⟩;have m:=aq9 f.2
  have g: ∀n,F2 (VRel c) (fh (.int .u8)<|bD n (0:Int))<|bD n<|.int .u8 0:=by
   intro n;induction n with
   |zero=>exact .nil
   |succ n q=>exact .cons (.int _ _) q
  have h:=g<|b8 z;rw[<-m]at h;exact h
def YO (g:Rel c){es:Nat}{z:List Value}(h:gd (cD 1 es) (k (.ptr (b8 c.S) 0)<|c.S++[DR es z])=O y):bp T (.alloc es z) ea c.σ<|iG c d k y:=by
 have⟨j,m⟩:=am h;have⟨f,q,n⟩:=xf es z;exact cm rfl (iG.new (kill:=Z) g (Nc g (blk:=DR es z) (x:=⟨z,Za,es⟩) (d:=(es,b8 z)) f (bB j) rfl rfl (n c)) (λ_ h=>by cases h) (P6 (dm:=(es,b8 z)) f) m)
def aM3 (g:Rel c)(n:ar c e ea){es:Nat}(h:gd (cD 1 es&&nX (mR<|ev e x)) (k (.ptr (b8 c.S) 0)<|c.S++[.cells es Zb<|mR<|ev e x])=O y):bp T (.box es x) ea c.σ<|iG c d k y:=by
 have⟨f,m⟩:=am h;rw[aB]at f;have j:=H7 (bt n x) f.2;refine cm (by simp only[AOp.run];rw[zE<|kj j f.2])<|iG.new (kill:=Z) g (Nc g (blk:= .cells es Zb<|mR<|ev e x) (x:=⟨cellsOf<|ea.ev x,Za,es⟩) (d:=(es,b8<|mR<|ev e x)) rfl (bB f.1) rfl rfl j) (λ_ h=>by cases h) (P6 (dm:=(es,_)) rfl) m
def xh (n:ar c e ea): ∀(j:List<|Nat×Nat×Operand) {cs r:List VV} {as:List Value},Jf cs (AB e j)=O r->F2 (VRel c) cs as->∃m,CY as (j.map λ(o,s,x)=>(o,s,ea.ev x))=O m/\F2 (VRel c) r m
 |[],cs,r,as,h,g=>by
  injection h with h
  subst h;exact⟨as,rfl,g⟩
 |(o,s,x)::j,cs,r,as,h,g=>by
  simp only[AB,List.map_cons,Jf]at h;cases f:(aD (mR<|ev e x).length s&&cD (o+s) cs.length&&(mR<|ev e x).all aC4)with
  |false=>rw[f]at h;cases h
  |true=>
   rw[f,zC]at h;rw[aB,aB]at f;have t:=cB f.1.1;have B:=bB f.1.2;have q:=H7 (bt n x) f.2;have u:(cellsOf<|ea.ev x).length=s:=by rw[<-q.length];exact t
   have C:as.length=cs.length:=g.length.symm;obtain⟨m,w,A⟩:=xh n j h<|((g.take o).append q).append<|g.drop<|o+s;refine⟨m, ?_,A⟩;simp only[List.map_cons,CY];rw[zE ⟨u,V1⟩];exact w
def Y4 (m:Rel c)(n:ar c e ea){z:List Value}{f:List<|Nat×Nat×Operand}{cs:List VV}(q:Jf (z.map D9) (AB e f)=O cs)(h:k (.agg cs) c.S=O y):bp T (.build z f) ea c.σ<|iG c d k y:=by
 have⟨r,g,j⟩:=xh n f q<|uD c z;exact cm (by simp only[AOp.run,g];rfl)<|iG.same m (.agg (by simpa using j)) h
def vS {dm:Nat×Nat}{n m:Nat}{b:Nat}{yb:Ab.Blk}{σ':Hp}{kill:Option Nat}(h:blk.dim=O dm)(g:n*dm.1=dm.2)(q:n<=m)(r:σ'.m b=O yb)(j:m*dm.1<=b8 yb.cells):
  VRel ⟨pR c<|O b,mb c.S kill++[blk],σ',c.fb⟩ (.full<|b8 c.S) (.slice (O ⟨b,0,Z⟩) n m):=by
 refine .full (by simp[xy]) rfl λs f=> ?_
 simp only[jY,if_true]at f;rw[h]at f;cases f;exact⟨n,g, .inr ⟨b,m,yb,V2,by simp[pR],by rw[cX,g];exact cV _,q,r,by rw[cX];exact j⟩⟩
def IP : ∀(n:Nat) (z:List Value),F2 (VRel c) ((bD n<|z.map D9).flatten) (fp z n)
 |0,_=> .nil
 |n+1,z=>by
  simp only[fp,dE,List.flatten_cons];exact(uD c z).append<|IP n z
def Nf (n:Rel c)(t:ar c e ea){es ln:Nat}{z:List Value}{j:List<|Nat×Nat×Operand}{cs:List VV}(u:Jf ((bD ln<|z.map D9).flatten) (AB e j)=O cs)
  (h:gd (nX cs&&aD (ln*es) cs.length&&cD 1 es) (k (.full c.S.length)<|c.S++[.cells es Zb cs])=O y):bp T (.buildSlice es ln z j) ea c.σ<|iG c d k y:=by
 obtain⟨f,r⟩:=am h;rw[aB,aB]at f;obtain⟨q,s,g⟩:=xh t j u<|IP ln z;have m:=cB f.1.2;refine cm (by simp only[AOp.run,s];rw[zE<|kj g f.1.1])<|iG.new (kill:=Z) n (Nc n (blk:= .cells es Zb cs) (x:=⟨q,Za,es⟩) (d:=(es,cs.length)) rfl (bB f.2) rfl rfl g) (λ_ h=>by cases h) ?_ r;exact vS (dm:=(es,cs.length)) (yb:=⟨q,Za,es⟩) rfl m (cV _) (zE rfl) (by rw[<-g.length];exact Nat.le_of_eq m)
def az5 (f:Rel c)(s:ar c e ea)(h:OI c.S 1 Zb (ev e x) k=O y):bp T (.load x) ea c.σ<|iG c d k y:=by
 have⟨b,o,blk,g,j,m,_⟩:=SU f h<|bt s x;have⟨u,w,n,q,r⟩:=m rfl;exact cm (by simp only[AOp.run,g,j,n];rfl)<|iG.same f q r
def ae9 (f:Rel c)(t:ar c e ea){n:Nat}(h:OI c.S n Za (ev e x) k=O y):bp T (.loadN n x) ea c.σ<|iG c d k y:=by
 have⟨b,o,blk,g,j,_,m⟩:=SU f h<|bt t x;have⟨u,w,q,r,s⟩:=m rfl;exact cm (by simp only[AOp.run,g,j,q];rfl)<|iG.same f (.agg (by simpa using r)) s
def Eh : ∀(vs cells:List Value) (o:Nat),b8 (lm cells o vs)=b8 cells
 |[],_,_=>rfl
 |v::vs,cells,o=>by simp only[lm];rw[Eh vs];simp
def F2.set {l:List VV}{m:List Value}(h:F2 (VRel c) l m){v:VV}(j:VRel c v a): ∀i,F2 (VRel c) (l.set i v)<|m.set i a:=by
 induction h with
 |nil=>intro i;simp;exact .nil
 |cons f g n=>
  intro i;cases i with
  |zero=>exact .cons j g
  |succ i=>exact .cons f<|n i
def Mw : ∀{vs:List VV} {as:List Value},F2 (VRel c) vs as->∀{l:List VV} {m:List Value} (o:Nat),F2 (VRel c) l m->F2 (VRel c) (aE5 l o vs) (lm m o as)
 |_,_, .nil,_,_,_,h=>h
 |_,_, .cons f g,_,_,o,h=>Mw g (o+1)<|F2.set h f o
def Eg : ∀(vs:List Value) (cs rest:List Value) (o:Nat),o+b8 vs<=b8 cs->lm (cs++rest) o vs=lm cs o vs++rest
 |[],_,_,_,_=>rfl
 |v::vs,cs,rest,o,h=>by
  simp only[dC]at h;simp only[lm];rw[List.set_append_left _ _ V1,Eg vs _ _ _ V4]
def yD : ∀(vs:List Value) (pre cs:List Value) (o:Nat),lm (pre++cs) (b8 pre+o) vs=pre++lm cs o vs
 |[],_,_,_=>rfl
 |v::vs,pre,cs,o=>by
  simp only[lm];rw[List.set_append_right _ _ V1,Nat.add_sub_cancel_left,Nat.add_assoc,yD vs]
def E9 {blk:Ab.Blk}{o:Nat}{vs:List Value}(f:blk.own=Za)(g:o+b8 vs<=b8 blk.cells)(h:vs.all one=Za):AF blk o vs=O ⟨lm blk.cells o vs,Za,blk.es⟩:=by
 unfold AF;rw[zE ⟨f,g,h⟩,f]
def HI (E:Rel c){q es o b:Nat}{l l' vs:List VV}{as:List Value}(g:ae c.S q= .cells es Zb l)(B:c.μ q=O b)(w:F2 (VRel c) vs as)(C:nX vs=Za)(H:o+vs.length<=l.length)
  (h: ∀cs,F2 (VRel c) l cs->F2 (VRel c) l' (lm cs o as)): ∃blk,c.σ.m b=O blk/\∃f,AF blk o as=O f/\Writes c q b (.cells es Zb l') f:=by
 obtain⟨r,cs,j,s,D,t,u,n⟩:=E.block (k:=q) (d:=(es,l.length)) Zq B;rw[g]at t n;have A:=F2.length n;simp only[Blk.vals]at A;have F:=F2.length w;refine⟨r,s,_,E9 (t rfl) (by rw[u,dB];omega)<|kj w C,⟨by rw[g];rfl,B, ?_,rfl,r,lm cs o as,j,(es,l.length),s,by rw[g];rfl,D,rfl,Eh _ _ _, ?_,h cs n⟩⟩
 .have:=F2.length<|h cs n;rw[Eh]at this;simp only[g,Blk.dim];rw[this,<-A]
 .show lm r.cells o as=_;rw[u,Eg _ _ _ _ V1]
def Mv {v:VV}{A:Value}(u:VRel c v A): ∀{cs:List VV} {as:List Value} {i j:Nat} {r:List VV},Ms v cs i j=O r->F2 (VRel c) cs as->F2 (VRel c) r (if j<=i then as.set (i-j) A else as)
 |[],_,i,j,r,h,q=>by
  cases q;cases h;simp;exact .nil
 |w::cs,_,i,j,r,h,q=>by
  cases q with
  |cons B C=>
   rename_i a as;simp only[Ms]at h;cases t:an5 (aD i j) v w with
   |none=>rw[t]at h;cases h
   |some x=>
    rw[t]at h;simp only[zG]at h;cases s:Ms v cs i (j+1)with
    |none=>rw[s]at h;cases h
    |some F=>
     rw[s]at h;cases h;have f:=Mv u s C;have g:=Td t u B;by_cases m:i=j
     .subst m;rw[Zh]at f;rw[zE<|cV _,Nat.sub_self];have:aD i i=Za:=Nat.beq_refl i;rw[this]at g;exact .cons g f
     .have D:aD i j=Zb:=by
       cases E:aD i j with
       |false=>rfl
       |true=>exact(m<|cB E).elim
      rw[D]at g;by_cases n:j+1<=i
      .rw[zE n]at f;rw[Zg,show i-j=(i-(j+1))+1 by omega];exact .cons g f
      .rw[zF n]at f;rw[Zh];exact .cons g f
theorem N1 {s:Sh}{x:El s}: ∀{l:List<|El s} {i:Nat},i<b8 l->fh s (l.set i x)=(fh s l).take (i*s.w)++(bn s x++(fh s l).drop (i*s.w+s.w))
 |[],_,h=>by simp at h
 |a::l,0,_=>by
  rw[List.set_cons_zero,fO,fO,Nat.zero_mul,List.take_zero,cW,cX,cZ,cu,Nat.sub_self,List.drop_zero,dA (by rw[cu];exact cV _),cW]
 |a::l,i+1,h=>by
  have f:(i+1)*s.w=s.w+i*s.w:=by rw[Nat.succ_mul];omega
  rw[List.set_cons_succ,fO,fO,N1 V6,f,List.take_append,cZ,cu,List.take_of_length_le (l:=bn s a) (by rw[cu];omega),dA (l:=bn s a) (by rw[cu];omega),cW,cY]
  grind
def Lm (v:VV){q:Nat}(h:zp v=O q):q∈Qb (zp v):=by rw[h];exact aI.2 rfl
def Mx {vs cs:List Value}{p o w:Nat}(g:o+b8 vs<=w)(m:p+w<=b8 cs):lm cs (p+o) vs=cs.take p++(lm ((cs.drop p).take w) o vs++cs.drop (p+w)):=by
 have f:cs=cs.take p++((cs.drop p).take w++cs.drop (p+w)):=by
  rw[<-List.drop_drop,dF,dF]
 have h:b8 (cs.take p)=p:=by rw[dD];omega
 have j:b8 ((cs.drop p).take w)=w:=by rw[dD,List.length_drop];omega
 conv=>lhs;rw[f]
 have:=yD vs (cs.take p) ((cs.drop p).take w++cs.drop (p+w)) o;rw[h]at this;rw[this,Eg _ _ _ _ (by rw[j];exact g)]
theorem ao4 (hR:Rel c)(he:ar c e ea){n:Nat}{a:Operand}(hd: ∀q,zp (ev e a)=O q->q∈d)
  (h:gd (aD (mR<|ev e x).length n&&nX (mR<|ev e x)) (U4 c.S (ev e a) (mR<|ev e x) λS'=>k .undef S')=O y):bp T (.store n a x) ea c.σ<|iG c d k y:=by
 obtain⟨V,f⟩:=am h;rw[aB]at V;have hn:=cB V.1;have P:=H7 (bt he x) V.2;have hlen:(cellsOf<|ea.ev x).length=n:=by rw[<-P.length];exact hn
 have ha:=bt he a
 have U: ∀(L:Ctx) (q b o:Nat) (j:Ab.Blk) (blk:Blk) (g:Ab.Blk),L.σ=c.σ->Le c L->vk d c L->Rel L->q∈d->ea.ev a= .pointer (O ⟨b,o,Z⟩)->c.σ.m b=O j->AF j o (cellsOf<|ea.ev x)=O g->Writes L q b blk g->
   k .undef (gJ L.S q blk)=O y->bp T (.store n a x) ea c.σ (iG c d k y):=by
  intro L q b o j blk g hσ N M r hq E F I H J;refine cm (v:=undef) (σ':=c.σ.set b<|O g) ?_ ?_
  .simp only[AOp.run,E,hlen,if_true,F,I]
  .rw[<-hσ];exact⟨.undef,_,rfl,N.trans<|H.le r,H.rel r,M.trans (H.calm r hq) N, .undef _,J⟩
 generalize cellsOf (ea.ev x)=as at*;generalize ev e a=av at*;generalize mR (ev e x)=K at*;unfold U4 at f;cases av with
 |ptr q o=>
  simp only at f;cases t:ae c.S q with
  |dead=>rw[t]at f;cases f
  |arr s z l=>rw[t]at f;cases f
  |cells es z l=>
   rw[t]at f;cases z with
   |true=>cases f
   |false=>
    obtain⟨E,F⟩:=am f;cases ha with
    |ptr hk _ C=>
     obtain⟨b,W,B⟩:=C (es,l.length) (by rw[t];rfl);obtain⟨j,I,g,H,J⟩:=HI hR t W P V.2 (bB E) λcs A=>Mw P o A
     exact U c q b o j _ g rfl (Le.refl c) (vk.refl d c) hR (hd q rfl) B I H J F
 |pix q o m i=>
  simp only at f;split at f
  .rename_i es l v t;obtain⟨E,F⟩:=am f;have E:=bB E;split at F
   .rename_i l' hs;cases P with
    |cons hv hnil=>
     rename_i va as';cases hnil;cases ha with
     |pix hk _ hi C=>
      obtain⟨b,W,B⟩:=C (es,l.length) (by rw[t];rfl)
      obtain⟨j,I,g,H,J⟩:=HI (l':=l.take o++l'++l.drop (o+m)) (o:=o+i) hR t W (.cons hv .nil) V.2 V4 λcs A=>by
       have hl:=A.length;rw[Mx (w:=m) V4 V1,cY];have h8:=Mv hv hs<|(A.drop o).take m;rw[zE<|Nat.zero_le _,Nat.sub_zero]at h8;exact(A.take o).append (h8.append<|A.drop _)
      exact U c q b (o+i) j _ g rfl (Le.refl c) (vk.refl d c) hR (hd q rfl) B I H J F
   .cases F
  .cases f
 |pel q i o=>
  simp only at f;cases t:ae (C0 c.S K) q with
  |dead=>rw[t]at f;cases f
  |cells es z l=>rw[t]at f;cases f
  |arr s z l=>
   rw[t]at f;cases z with
   |true=>cases f
   |false=>
    simp only at f;cases Q:l[i]? with
    |none=>rw[Q]at f;cases f
    |some x'=>
     rw[Q]at f;simp only[zG]at f;split at f
     .rename_i z hof;obtain⟨E,F⟩:=am f;have E:=bB E;have D:=Ck c.S K;have r:Rel ⟨c.μ,C0 c.S K,c.σ,c.fb⟩:=D.rel hR
      have hi:i<l.length:=by
       grind
      have hx1:F2 (VRel ⟨c.μ,C0 c.S K,c.σ,c.fb⟩) K as:=VRel.frames D.le P;cases ha with
      |pel hk _ C=>
       have u:(ae (C0 c.S K) q).dim=O (s.w,l.length*s.w):=by rw[t];rfl
       obtain⟨b,W,B⟩:=C (s.w,l.length*s.w) (by rw[<-D.dim];exact u);obtain⟨y0,cs,rest,I,H,J,h8,h9⟩:=r.block (k:=q) u W;rw[t]at J h9;have hl:=h9.length;simp only[Blk.vals,gR]at hl;have N:i*s.w+s.w<=l.length*s.w:=by rw[<-Nat.succ_mul];exact Nat.mul_le_mul_right _ hi
       have hlen':K.length=as.length:=P.length;refine U ⟨c.μ,C0 c.S K,c.σ,c.fb⟩ q b (i*s.w+o) y0 (.arr s Zb<|l.set i z) _ rfl D.le (D.calm d) r (hd q rfl) B I (E9 (J rfl) (by rw[h8,dB];omega)<|kj P V.2) ⟨by rw[t];rfl,W,by rw[u];simp[Blk.dim],rfl,y0,lm cs (i*s.w+o) as,rest,_,I,u,H,rfl,Eh _ _ _,by rw[h8,Eg _ _ _ _ V1], ?_⟩ F;obtain⟨pre,X,h11,h12⟩:=jA r s _ _ _ hof;rw[List.append_nil]at X;subst X;simp only[Blk.vals];rw[N1 hi,Mx (w:=s.w) V1 V1];refine(h9.take _).append<|F2.append (h12 _<|Mw hx1 o ?_)<|h9.drop _;have Y:=(h9.drop<|i*s.w).take s.w;simp only[Blk.vals]at Y
       rwa [Ij Q]at Y
     .cases f
 |_=>cases f
end
end
section
def Cb : ∀{n q:Nat},q<n->q∈HZ n
 |n+1,q,h=>by
  by_cases e:q=n
  .subst e;exact List.mem_cons_self
  .exact List.mem_cons_of_mem _ (Cb V1)
def az1 (w:Rel c){q b es:Nat}{l:List VV}(U:ae c.S q= .cells es Zb l)(Q:c.μ q=O b):
  Le c ⟨c.μ,gJ c.S q .dead,c.σ.set b Z,c.fb⟩/\Rel ⟨c.μ,gJ c.S q .dead,c.σ.set b Z,c.fb⟩:=by
 have M:q<b8 c.S:=kG (by rw[U];simp[Blk.dim]);have n:(ae c.S q).frozen=Zb:=by rw[U];rfl
 have C: ∀i,ae (gJ c.S q .dead) i=if i=q then .dead else ae c.S i:=λi=>by
  rw[uG];by_cases h:i=q
  .rw[zE ⟨h,M⟩,zE h]
  .rw[zF (λk=>h k.1),zF h]
 have B: ∀i d,(ae (gJ c.S q .dead) i).dim=O d->i≠q/\(ae c.S i).dim=O d:=λi d h=>by
  rw[C]at h;by_cases k:i=q
  .rw[zE k]at h;cases h
  .rw[zF k]at h;exact⟨k,h⟩
 have own:c.own b:=⟨q,n,Q⟩
 have E: ∀i d f,(ae (gJ c.S q .dead) i).dim=O d->c.μ i=O f->f≠b:=λi d f h t e=>by
  subst e;have⟨L,A⟩:=B i d h;exact L (w.inj q i f n (by rw[A];simp) Q t).symm
 have j: ∀f,f≠b->(c.σ.set b Z).m f=c.σ.m f:=λf h=>by simp[Hp.set,h]
 have V:Le c ⟨c.μ,gJ c.S q .dead,c.σ.set b Z,c.fb⟩:=by
  refine⟨by rw[yF];exact Nat.le_refl _,λk d K h=>⟨(B k d h).2,rfl⟩,λk s g=> ?_,λk d f y K h t r=>⟨y,(j f<|E k d f h t).trans r,rfl⟩,λf y r N=>(j f<|λe=>N<|e▸own).trans r,λf y r N ho=>N ?_,Nat.le_refl _,rfl⟩
  .show ae (gJ c.S q .dead) k=_;rw[C];by_cases e:k=q
   .subst e;rw[n]at s;cases s
   .rw[zF e]
  .obtain⟨k,u,J⟩:=ho;have u:(ae (gJ c.S q .dead) k).frozen=Zb:=u;rw[C]at u;by_cases e:k=q
   .subst e;exact⟨k,n,J⟩
   .rw[zF e]at u;exact⟨k,u,J⟩
 refine⟨V,⟨λf y r=> ?_,λk H f s g t D=> ?_,λk d h=> ?_,λk f g t=> ?_,w.fbl⟩⟩
 .by_cases e:f=b
  .subst e;have r:(c.σ.set f Z).m f=O y:=r;simp[Hp.set]at r
  .exact w.ok f y ((j f e).symm.trans r)
 .have g:(ae (gJ c.S q .dead) H).dim≠Z:=g;cases F:(ae (gJ c.S q .dead) H).dim with
  |none=>exact(g F).elim
  |some d=>
   have⟨L,A⟩:=B H d F;have s:(ae (gJ c.S q .dead) k).frozen=Zb:=s;rw[C]at s;by_cases e:k=q
   .subst e;exact w.inj k H f n (by rw[A];simp) t D
   .rw[zF e]at s;exact w.inj k H f s (by rw[A];simp) t D
 .obtain⟨L,A⟩:=B k d h;have K:ae (gJ c.S q .dead) k=ae c.S k:=by rw[C,zF L]
  have⟨u,J⟩:=w.blk k d A;refine⟨u,J.imp id λ⟨f,y,cs,I,P,W,X,Y,g5,g6⟩=>⟨f,y,cs,I,P,(j f<|E k d f h P).trans W,X,λq=>Y (by rw[<-K];exact q),g5, ?_⟩⟩;show F2 _ (ae (gJ c.S q .dead) k).vals cs;rw[K];exact VRel.frames V g6
 .have g:(ae (gJ c.S q .dead) k).dim≠Z:=g;cases F:(ae (gJ c.S q .dead) k).dim with
  |none=>exact(g F).elim
  |some d=>exact w.fbk k f (by rw[(B k d F).2];simp) t
end
section
open Bool renaming false_eq_true->aD
open List renaming extract_eq_take_drop->bB
open Nat renaming eq_of_beq_eq_true->bD
open Option renaming map_some->aB
section
variable {β:Type} {T:gw} {c:Ctx} {e:cn} {ea:bj} {k:VV->ah->Option β} {y:β} {d:List Nat}
def vJ (s:ByteArray):b8 (au s)=s.size:=by simp[au]
def Uc (s t:ByteArray):au (s++t)=au s++au t:=by
 simp[au,ByteArray.data_append]
def Ep : ∀{l m:List UInt8},(l.map λb=>(b.toNat:Int))=m.map (λb=>(b.toNat:Int))->l=m
 |[],[],_=>rfl
 |[],_::_,h=>by simp at h
 |_::_,[],h=>by simp at h
 |a::l,b::m,h=>by
  simp only[List.map_cons,List.cons.injEq]at h;rw[Ep h.2,UInt8.toNat_inj.1<|Int.ofNat.inj h.1]
def Jp (s:ByteArray):s.toList=s.data.toList:=by
 rw[ByteArray.toList_eq]
theorem H6 (s t:ByteArray):(s.toList==t.toList)=Zc (au s=au t):=by
 rw[Jp,Jp];by_cases h:s.data.toList=t.data.toList
 .simp[au,h]
 have:au s≠au t:=λe=>h (Ep e)
 grind
def W8 {op:BinOp}{a:Int}{j:VV->Option β}(h:TU op kd a b j=O y): ∃v m,N7 op kd a b=O m/\VRel c v m/\j v=O y:=by
 cases op<;>simp only[TU]at h<;>try(cases h;done)
 case add=>exact⟨_,_,rfl, .int _ _,h⟩
 case sub=>exact⟨_,_,rfl, .int _ _,h⟩
 case mul=>exact⟨_,_,rfl, .int _ _,h⟩
 case quo=>
  have⟨f,g⟩:=am h;exact⟨_,_,zF<|of_decide_eq_true f, .int _ _,g⟩
 case rem=>
  have⟨f,g⟩:=am h;exact⟨_,_,zF<|of_decide_eq_true f, .int _ _,g⟩
 case and=>exact⟨_,_,rfl, .int _ _,h⟩
 case or=>exact⟨_,_,rfl, .int _ _,h⟩
 case xor=>exact⟨_,_,rfl, .int _ _,h⟩
 case andNot=>exact⟨_,_,rfl, .int _ _,h⟩
 case eql=>
  refine⟨_,_,rfl, ?_,h⟩;have:(a==b)=Zc (a=b):=by by_cases h:a=b<;>simp[h]
  rw[this];exact .bool _
 case neq=>
  refine⟨_,_,rfl, ?_,h⟩;have:(a !=b)=Zc (a≠b):=by by_cases h:a=b<;>simp[h]
  rw[this];exact .bool _
 case lss=>exact⟨_,_,rfl, .bool _,h⟩
 case leq=>exact⟨_,_,rfl, .bool _,h⟩
 case gtr=>exact⟨_,_,rfl, .bool _,h⟩
 case geq=>exact⟨_,_,rfl, .bool _,h⟩
def aM1 (D:Rel c)(u:ar c e ea){op:BinOp}(h:aM0 op (ev e x) (ev e z) (λv=>k v c.S)=O y):bp T (.bin op x z) ea c.σ<|iG c d k y:=by
 have w:=bt u x;have A:=bt u z
 have f: ∀v q,yf op (ea.ev x) (ea.ev z)=O q->VRel c v q->k v c.S=O y->bp T (.bin op x z) ea c.σ (iG c d k y):=λv q g j r=>
  cm (by simp only[AOp.run,g];rfl) (iG.same D j r)
 generalize ev e x=E at*;generalize ev e z=F at*;unfold aM0 at h;split at h
 .rename_i kx a kz b;rw[w.int_inv,A.int_inv]at f;cases m:ri op with
  |true=>
   rw[m,zC]at h;simp only[yf,m,if_true]at f;cases op<;>simp only[an9]at h<;>try(cases h;done)
   .obtain⟨g,j⟩:=am h;have g:=of_decide_eq_true g;refine f _ _ ?_ (.int _ _) j;simp only[Mz];rw[Zh]
   have⟨g,j⟩:=am h;have g:=of_decide_eq_true g;refine f _ _ ?_ (.int _ _) j;simp only[Mz];rw[Zh]
  |false=>
   rw[m,zD]at h;cases n:Zc (kx=kz)with
   |false=>rw[n]at h;cases h
   |true=>
    rw[n,zC]at h;have n:=of_decide_eq_true n;subst n;have⟨v,q,g,j,r⟩:=W8 (c:=c) h;refine f v q ?_ j r;simp only[yf,m,aD,if_false,if_true,g]
 .rename_i a b;obtain⟨s,B,rfl⟩:=w.str_inv;obtain⟨t,C,rfl⟩:=A.str_inv;rw[B,C]at f;cases m:ri op with
  |true=>rw[m]at h;cases h
  |false=>
   rw[m,zD]at h;simp only[yf,m,aD,if_false]at f;cases op<;>simp only[bc7]at h<;>try(cases h;done)
   .obtain⟨g,j⟩:=am h;have g:b8 (au s)+b8 (au t)<=9223372036854775807:=Nat.le_of_ble_eq_true g;rw[vJ,vJ]at g;refine f _ _ ?_ (.str<|Uc s t) j;simp only[WP];rw[zF];show¬(((s.size+t.size:Nat):Int) > 9223372036854775807);omega
   .refine f _ _ rfl ?_ h;rw[H6];exact .bool _
   refine f _ _ rfl ?_ h;rw[H6];have:(!Zc (au s=au t))=Zc (au s≠au t):=by simp
   rw[this];exact .bool _
 cases h
def tG {b:Blk}(h:b.live=Za): ∃dm,b.dim=O dm:=by cases b<;>first|(cases h;done)|exact⟨_,rfl⟩
def F3 {v:VV}(h:VRel c v a)(m:LI c.S v=Za): ∃x,a= .pointer (O x):=by
 cases v<;>try(cases m;done)
 case ptr q o=>
  have⟨f,j⟩:=tG m;cases h with
  |ptr r _ g=>have⟨b,_,h⟩:=g f j;exact⟨_,h⟩
 case pix q o n i=>
  have⟨f,j⟩:=tG m;cases h with
  |pix r _ _ g=>have⟨b,_,h⟩:=g f j;exact⟨_,h⟩
 case pel q i o=>
  have⟨f,j⟩:=tG m;cases h with
  |pel r _ g=>have⟨b,_,h⟩:=g f j;exact⟨_,h⟩
 case pin s x o=>cases h;exact⟨_,rfl⟩
def Sp (r:Rel c)(u:ar c e ea)(h:(match ev e x with
  | .fn f a b=>gd (!yR f) (k (.fn f a b) c.S)
  |v=>gd (LI c.S v)<|k v c.S)=O y):bp T (.nilCheck x) ea c.σ<|iG c d k y:=by
 have g:=bt u x;split at h
 .rename_i f a b hv;rw[hv]at g
  have: ∃m n,ea.ev x= .func (.func f) m n:=by
   generalize ea.ev x=w at g;cases g;exact⟨_,_,rfl⟩
  have⟨m,n,j⟩:=this;rw[j]at g;obtain⟨s,h⟩:=am h;exact cm (by simp only[AOp.run,j];rw[zF (by simpa using s)]) (iG.same r g h)
 .obtain⟨j,t⟩:=am h;have⟨p,q⟩:=F3 g j;rw[q]at g;exact cm (by simp only[AOp.run,q])<|iG.same r g t
def ag6 {b:Bool}:(b !=neg)=ag5 neg b:=by cases neg<;>cases b<;>rfl
def aN4 (A:Rel c)(w:ar c e ea){kd:Nat}(f:aN3 c.S kd (ev e x) (ev e z)=O p)(h:k (.bool<|ag5 neg p) c.S=O y):bp T (.eqv kd neg x z) ea c.σ<|iG c d k y:=by
 have j:=bt w x;have m:=bt w z
 have g:RH kd (ea.ev x) (ea.ev z)=O p->bp T (.eqv kd neg x z) ea c.σ (iG c d k y):=λr=>
  cm (v:= .bool<|p !=neg) (by simp only[AOp.run,r];rfl) (iG.same A (by rw[ag6];exact .bool _) h)
 generalize ev e x=B at*;generalize ev e z=C at*;unfold aN3 at f;split at f
 .injection f with f;subst f
  rw[j.bool_inv,m.bool_inv]at g;exact g rfl
 .injection f with f;subst f
  refine g ?_;generalize ea.ev x=s at*;generalize ea.ev z=t at*;cases j;cases m;rfl
 .cases n:LI c.S C with
  |false=>rw[n]at f;cases f
  |true=>
   rw[n]at f;cases f
   refine g ?_;have⟨q,r⟩:=F3 m n;rw[r];generalize ea.ev x=s at*;cases j;rfl
 .cases n:LI c.S B with
  |false=>rw[n]at f;cases f
  |true=>
   rw[n]at f;cases f
   refine g ?_;have⟨q,r⟩:=F3 j n;rw[r];generalize ea.ev z=t at*;cases m;rfl
 .injection f with f;subst f
  refine g ?_;generalize ea.ev x=s at*;generalize ea.ev z=t at*;cases j;cases m;rfl
 .injection f with f;subst f
  refine g ?_;generalize ea.ev x=s at*;generalize ea.ev z=t at*;cases j;cases m;rfl
 .obtain⟨u,f⟩:=am f;cases f
  refine g ?_;generalize ea.ev x=s at*;generalize ea.ev z=t at*;cases j;cases m;show(if yR _=Za then Z else O Zb)=O Zb;rw[zF Zz]
 .obtain⟨u,f⟩:=am f;cases f
  refine g ?_;generalize ea.ev x=s at*;generalize ea.ev z=t at*;cases j;cases m;show(if yR _=Za then Z else O Zb)=O Zb;rw[zF Zz]
 cases f
def aw2 {kd:Nat}{v w:VV}{m n:Value}(h:Xu kd v w=O p)(g:VRel c v m)(j:VRel c w n):vL kd m n=O p:=by
 unfold Xu at h;split at h
 .injection h with h;subst h
  rw[g.bool_inv,j.bool_inv];rfl
 .rename_i k1 a k2 b;cases f:Zc (k1=k2)with
  |false=>rw[f]at h;cases h
  |true=>
   rw[f]at h;cases h
   rw[g.int_inv,j.int_inv];simp only[vL,of_decide_eq_true f,if_true];by_cases e:a=b<;>simp[e]
 .injection h with h;subst h
  obtain⟨s,q,rfl⟩:=g.str_inv;obtain⟨t,r,rfl⟩:=j.str_inv;rw[q,r];simp only[vL];rw[H6]
 cases h
theorem aw3 : ∀{ks:List Nat} {l m:List VV} {n s:List Value} {p:Bool},Nm ks l m=O p->F2 (VRel c) l n->F2 (VRel c) m s->kw ks n s=O p:=by
 intro ks;induction ks with
 |nil=>
  intro l m n s p h t u;cases t<;>cases u<;>simp only[Nm]at h<;>try(cases h;done)
  exact h
 |cons kd ks P=>
  intro l m n s p h t u;cases t with
  |nil=>cases m<;>simp[Nm]at h
  |cons H I=>
   cases u with
   |nil=>cases ks<;>simp[Nm]at h
   |cons J K=>
    rename_i v M E B w N F C
    have A: ∀q r,Xu kd v w=O q->Nm ks E F=O r->p=(q&&r)->kw (kd::ks) (M::B) (N::C)=O p:=by
     intro q r f g j;simp only[kw,aw2 f H J]
     grind
    unfold Nm at h;split at h
    .rename_i f g j;cases f
    .rename_i f g j;cases f;cases g;cases j;cases I;cases K;exact A p Za h rfl V2
    .rename_i f g j;cases f;cases g;cases j;cases D:Xu kd v w with
     |none=>rw[D]at h;cases h
     |some q=>
      rw[D]at h;simp only[zG]at h;cases L:Nm ks E F with
      |none=>rw[L]at h;cases h
      |some r=>
       grind
    cases h
def Um (u:Rel c)(f:ar c e ea){ks:List Nat}{a b:List VV}(s:ev e x= .agg a)(t:ev e z= .agg b)(w:Nm ks a b=O p)(h:k (.bool<|ag5 neg p) c.S=O y):
  bp T (.eqCells neg ks x z) ea c.σ (iG c d k y):=by
 have g:=bt f x;have j:=bt f z;rw[s]at g;rw[t]at j;have⟨A,m,q⟩:=g.agg_inv;have⟨B,n,r⟩:=j.agg_inv;exact cm (v:= .bool<|p !=neg) (by simp only[AOp.run,m,n,aw3 w q r];rfl)<|iG.same u (by rw[ag6];exact .bool _) h
def bd1 (g:Rel c)(j:ar c e ea){op:UnOp}(h:unK op (ev e x) (λv=>k v c.S)=O y):bp T (.un op x) ea c.σ<|iG c d k y:=by
 have f:=bt j x;unfold unK at h;split at h
 .rename_i kd n hv;rw[hv]at f;exact cm (by simp only[AOp.run,f.int_inv];rfl) (iG.same g (.int _ _) h)
 .rename_i kd n hv;rw[hv]at f;exact cm (by simp only[AOp.run,f.int_inv];rfl) (iG.same g (.int _ _) h)
 .rename_i b hv;rw[hv]at f;exact cm (by simp only[AOp.run,f.bool_inv];rfl) (iG.same g (.bool _) h)
 cases h
def LG {v:VV}{n:Int}(h:N6 v=O n)(f:VRel c v a): ∃kd,a= .int kd n:=by
 cases v<;>simp only[N6]at h<;>try(cases h;done)
 cases h
 exact⟨_,f.int_inv⟩
def au9 (f:Rel c)(g:ar c e ea){n:Int}(j:N6 (ev e x)=O n)(h:k (.int kd<|kd.wrap n) c.S=O y):bp T (.conv kd x) ea c.σ<|iG c d k y:=by
 have⟨q,m⟩:=LG j<|bt g x;exact cm (by simp only[AOp.run,m];rfl)<|iG.same f (.int _ _) h
def XT (j:Rel c)(g:ar c e ea){f:Nat}{a b:List Operand}(h:gd (!yR f) (k (.fn f (a.map<|ev e)<|b.map<|ev e) c.S)=O y):bp T (.mkFunc f a b) ea c.σ<|iG c d k y:=
 cm (by simp only[AOp.run];rw[zF (by simpa using(am h).1)]) (iG.same j (.fn (by simpa using J7 g a) (by simpa using J7 g b)) (am h).2)
def Xy (r:Rel c)(B:ar c e ea){o n:Nat}{cs:List VV}(C:ev e x= .agg cs)(h:cond agg (k (.agg<|AW cs o n) c.S) (X5 c.S (nth cs o) k)=O y):bp T (.fieldV o n agg x) ea c.σ<|iG c d k y:=by
 have s:=bt B x;rw[C]at s;have⟨j,m,q⟩:=s.agg_inv;cases agg with
 |true=>
  refine cm (v:= .agg<|j.extract o<|o+n) (by simp only[AOp.run,m];rfl)<|iG.same r (.agg ?_) h;have:=(q.drop o).take n;simpa[AW,Array.toList_extract,bB]using this
 |false=>
  rw[zD]at h;cases g:nth cs o with
  |none=>rw[g]at h;cases h
  |some w=>
   rw[g]at h;have⟨u,t,A⟩:=F2.nth q g;have f:j[o]?=O u:=by simpa using t
   exact cm (by simp only[AOp.run,m,f];rfl)<|iG.same r A h
def Uo (t:Rel c)(A:ar c e ea){i:Nat}{cs:List VV}(B:ev e x= .tup cs)(h:X5 c.S (nth cs i) k=O y):bp T (.extract x i) ea c.σ<|iG c d k y:=by
 have j:=bt A x;rw[B]at j;have⟨m,n,q⟩:=j.tup_inv;cases g:nth cs i with
 |none=>rw[g]at h;cases h
 |some w=>
  rw[g]at h;have⟨u,r,s⟩:=F2.nth q g;have f:m[i]?=O u:=by simpa using r
  exact cm (by simp only[AOp.run,n,f];rfl)<|iG.same t s h
theorem EQ {n j:Nat}(h:ix i n=O j):0<=i/\i<n/\j=i.toNat/\j<n:=by
 unfold ix at h
 grind
theorem WD {α:Type}{l:List α}{x:α}(h:rd l i=O x):0<=i/\i<b8 l/\l[i.toNat]?=O x:=by
 unfold rd at h
 grind
def ag {α γ:Type}{x:Option α}{f:α->Option γ}{z:γ}(h:x.bind f=O z): ∃a,x=O a/\f a=O z:=by
 cases x with
 |none=>cases h
 |some a=>exact⟨a,rfl,h⟩
def XJ (F:Rel c)(H:ar c e ea){ln es:Nat}{cs:List VV}(N:ev e x= .agg cs)(P:ev e z= .int kd i)
  (h:(bA (ix i ln) λj=>cond agg (k (.agg<|AW cs (j*es) es) c.S)<|gd (Nat.beq es 1&&Nat.beq (b8 cs) ln)<|Rj cs j c.S k)=O y):bp T (.indexV ln es agg x z) ea c.σ<|iG c d k y:=by
 have I:=bt H x;have J:=bt H z;rw[N]at I;rw[P]at J;have⟨t,A,C⟩:=I.agg_inv;have B:=J.int_inv;have⟨j,K,r⟩:=ag h;obtain⟨D,E,rfl,Q⟩:=EQ K;cases agg with
 |true=>
  refine cm (v:= .agg<|t.extract (i.toNat*es)<|i.toNat*es+es) (by simp only[AOp.run,A,B];rw[zE ⟨D,E⟩];rfl)<|iG.same F (.agg ?_) r;have:=(C.drop<|i.toNat*es).take es;simpa[AW,Array.toList_extract,bB]using this
 |false=>
  rw[zD]at r;have⟨s,L⟩:=am r;rw[Bool.and_eq_true]at s;have M:=bD s.1;have U:=bD s.2;subst M;have⟨w,f,g⟩:=Rk V1 L;have⟨u,m,n⟩:=C.get _ _ f;have q:t[i.toNat*1]?=O u:=by rw[Nat.mul_one];simpa using m
  exact cm (by simp only[AOp.run,A,B,q];rw[zE ⟨D,E⟩];rfl)<|iG.same F n g
def XI (D:Rel c)(j:ar c e ea)(E:ev e x= .str l)(F:ev e z= .int kd i)(h:(bA (rd l i) λb=>k (.int .u8 b) c.S)=O y):bp T (.indexS x z) ea c.σ<|iG c d k y:=by
 have m:=bt j x;have n:=bt j z;rw[E]at m;rw[F]at n;obtain⟨s,q,rfl⟩:=m.str_inv;have r:=n.int_inv;have⟨b,t,w⟩:=ag h;have⟨A,B,f⟩:=WD t;simp only[au,List.getElem?_map]at f;cases g:s.data.toList[i.toNat]? with
 |none=>rw[g]at f;cases f
 |some u=>
  rw[g,aB]at f;cases f
  have C:s[i.toNat]?=O u:=by
   have:i.toNat<s.size:=by rw[vJ]at B;omega
   rw[getElem?_pos s i.toNat this,<-g,Array.getElem?_toList,getElem?_pos s.data i.toNat this];rfl
  exact cm (v:= .int .u8 u.toNat) (by simp only[AOp.run,q,r,C];rw[zE A];rfl)<|iG.same D (.int _ _) w
def aA2 (n:Rel c)(g:ar c e ea){f:IntKind}{a:Int}(q:ev e x= .int kd a)(r:ev e z= .int f b)(h:k (.int kd<|max a b) c.S=O y):bp T (.most x z) ea c.σ<|iG c d k y:=by
 have j:=bt g x;have m:=bt g z;rw[q]at j;rw[r]at m;refine cm (v:= .int kd<|max a b) ?_ (iG.same n (.int _ _) h);simp only[AOp.run,j.int_inv,m.int_inv,Va,aB]
 congr 3
 split<;>omega
def ae3 (n:Rel c)(g:ar c e ea){f:IntKind}{a:Int}(q:ev e x= .int kd a)(r:ev e z= .int f b)(h:k (.int kd<|min a b) c.S=O y):bp T (.least x z) ea c.σ<|iG c d k y:=by
 have j:=bt g x;have m:=bt g z;rw[q]at j;rw[r]at m;refine cm (v:= .int kd<|min a b) ?_ (iG.same n (.int _ _) h);simp only[AOp.run,j.int_inv,m.int_inv,Qw,aB]
 congr 3
 split<;>omega
end
end
section
open Bool renaming and_eq_true->cB
open List renaming length_append->dB
open Nat renaming eq_of_beq_eq_true->aB,mul_le_mul_right->aD,add_mul->bB,le_refl->bD,le_of_ble_eq_true->cD,beq->cV,le_trans->cW,eq_of_mul_eq_mul_right->cX,mul_div_cancel->cY,zero_add->cZ
open Option renaming map_some->dA,map_none->dC
section
variable {β:Type} {T:gw} {c:Ctx} {e:cn} {ea:bj} {k:VV->ah->Option β} {y:β} {d:List Nat}
def Gn.len {q g n:Nat}{dm:Nat×Nat}(h:Gn c q g n dm a): ∃p f,a= .slice p n f/\n<=f:=by
 rcases h with⟨rfl,_,rfl,_,_⟩|⟨b,f,x,rfl,_,_,h,_⟩
 .exact⟨Z,0,rfl,bD _⟩
 exact⟨_,f,rfl,h⟩
def ae5 (E:Rel c){v:VV}{n:Nat}(h:lenOf c.S v=O n)(t:VRel c v a)(I: ∀l,v≠ .str l): ∃p B,a= .slice p n B/\n<=B:=by
 cases v<;>simp only[lenOf]at h<;>try(cases h;done)
 case nils=>cases h;cases t;exact⟨Z,0,rfl,bD _⟩
 case str l=>exact(I l rfl).elim
 case lst s l=>
  cases h
  cases t with
  |lstn=>exact⟨_,0,rfl,bD _⟩
  |lst _ _ _ f j _ _=>subst f;exact⟨_,_,rfl,j⟩
 case part q lo m=>
  cases A:(ae c.S q).live with
  |false=>rw[A]at h;cases h
  |true=>
   rw[A]at h;cases h
   have⟨D,F⟩:=tG A;cases t with
   |part H _ r=>exact(r D F).len
 case full q=>
  cases t with
  |full H _ r=>
   cases g:ae c.S q with
   |dead=>rw[g]at h;cases h
   |arr s z l=>
    rw[g]at h;cases h
    have⟨n,f,j⟩:=r (s.w,b8 l*s.w) Zq;have:n=b8 l:=cX (mX s) f;subst this;exact j.len
   |cells u z l=>
    rw[g]at h;cases h
    have⟨n,f,j⟩:=r (u,b8 l) Zq;have C:=(E.blk q (u,b8 l) Zq).1
    have:n=b8 l / u:=by
     simp only at f C;rw[<-f,cY _ C]
    subst this;exact j.len
def aP7 (f:Rel c)(j:ar c e ea){n:Nat}(q: ∀l,ev e x≠ .str l)(m:lenOf c.S (ev e x)=O n)(h:k (.int .i64 n) c.S=O y):bp T (.len x) ea c.σ<|iG c d k y:=by
 have⟨p,r,g,_⟩:=ae5 f m (bt j x) q;exact cm (by simp only[AOp.run,g])<|iG.same f (.int _ _) h
def az4 (m:Rel c)(n:ar c e ea)(q:ev e x= .str l)(h:k (.int .i64<|b8 l) c.S=O y):bp T (.lenS x) ea c.σ<|iG c d k y:=by
 have f:=bt n x;rw[q]at f;have⟨s,g,j⟩:=f.str_inv;refine cm (v:= .int .i64 s.size) (by simp only[AOp.run,g])<|iG.same m ?_ h;rw[<-j,vJ];exact .int _ _
def K8 (n:ar c e ea){f:Option Operand}{a:Int}{m:Nat}(h:D7 (f.map<|ev e)=O a)(g:0<=a)(q:a<=m):pj m 0 (f.map ea.ev)=O a.toNat:=by
 cases f with
 |none=>
  simp only[dC,D7]at h;cases h
  rfl
 |some x=>
  simp only[dA,D7]at h⊢;have⟨kd,j⟩:=LG h<|bt n x;rw[j];exact zE ⟨g,q⟩
def K6 (q:ar c e ea){f:Option Operand}{n g:Nat}(h:yu n (f.map<|ev e)=O b)(j:0<=b)(s:b<=n)(r:n<=g):pj g n (f.map ea.ev)=O b.toNat:=by
 cases f with
 |none=>
  simp only[dC,yu]at h;cases h
  simp[pj]
 |some x=>
  simp only[dA,yu]at h⊢;have⟨kd,m⟩:=LG h<|bt q x;rw[m];exact zE ⟨j,V1⟩
theorem uw {a:Int}{n:Nat}(h:gT a b n=Za):0<=a/\a<=b/\b<=n:=by
 unfold gT at h
 grind
theorem E8 (r:ar c e ea){es:Nat}{j s:Option Operand}{p:Option Addr}{n f:Nat}{a:Int}(D:ea.ev x= .slice p n f)(C:n<=f)(F:f≠0->∀q,p=O q->∃z,c.σ.m q.block=O z/\z.es=es)
  (h:D7 (j.map<|ev e)=O a) (g:yu n (s.map<|ev e)=O b) (A:gT a b n=Za):(AOp.slice es x j s).run ea c.σ=O (.slice (p.map (Nz · (a.toNat*es))) (b.toNat-a.toNat)<|f-a.toNat,c.σ):=by
 have⟨t,E,u⟩:=uw A
 have B:(f==0||Cq c.σ es p j)=Za:=by
  by_cases w:f=0
  .simp[w]
  .unfold Cq
   grind
 simp only[AOp.run,D,B,if_true,K6 r g V1 u C,K8 r h t (m:=b.toNat) V1]
def Gn.cut {q w n:Nat}{dm:Nat×Nat}{p:Option Addr}{f A B:Nat}(h:Gn c q w n dm<|.slice p n f)(F:A<=B)(H:B<=n):Gn c q (w+A) (B-A) dm (.slice (p.map (Nz · (A*dm.1))) (B-A)<|f-A):=by
 rcases h with⟨m,s,t,u,r⟩|⟨b,C,z,m,s,t,u,r,E⟩
 .injection m with g D j
  subst g;subst j;have:A=0:=by omega
  have:B=0:=by omega
  subst A;subst B;exact .inl ⟨rfl,V1,rfl,u,r⟩
 injection m with g D j
 subst g;subst j;refine .inr ⟨b,f-A,z, ?_,s,cW (aD _ V1) t,V1,r,cW (aD _ V1) E⟩;simp only[dA,Nz,bB]
def Gn.es (w:Rel c){q C n j:Nat}{dm:Nat×Nat}{p:Option Addr}(A:(ae c.S q).dim=O dm)(h:Gn c q C n dm<|.slice p n j): ∀z,p=O z->∃blk,c.σ.m z.block=O blk/\blk.es=dm.1:=by
 intro z B;subst B;rcases h with⟨g,_⟩|⟨b,r,x,g,s,_,_,F,_⟩
 .cases g
 injection g with f D E
 cases f;have⟨blk,_,_,t,u,_⟩:=w.block A s;exact⟨blk,t,u⟩
def Hl (t:Rel c)(C:ar c e ea){es q o n:Nat}{dm:Nat×Nat}{B w:Option Operand}{a:Int}(j:(ae c.S q).dim=O dm)(m:es=dm.1)(g:Gn c q o n dm<|ea.ev x)
  (s:D7 (B.map<|ev e)=O a) (r:yu n (w.map<|ev e)=O b) (u:gT a b n=Za) (h:k (.part q (o+a.toNat)<|b.toNat-a.toNat) c.S=O y):bp T (.slice es x B w) ea c.σ<|iG c d k y:=by
 have⟨p,E,A,D⟩:=g.len;rw[A]at g;have⟨H,I,J⟩:=uw u;subst m;refine cm (E8 C A D (λ_=>g.es t j) s r u)<|iG.same t ?_ h;refine .part (kG (by rw[j];simp)) rfl λF f=> ?_
 rw[j]at f;cases f;exact g.cut V1 V1
def tdt {α:Type}(L:List α){A B N p:Nat}(h:B<=N):((((L.drop p).take N).take B).drop A)=(L.drop<|p+A).take (B-A):=by
 rw[List.take_take,Nat.min_eq_left h,List.drop_take,List.drop_drop]
def ao0 (I:Rel c)(E:ar c e ea){es:Nat}{X V:Option Operand}(h:UZ c.S es (ev e x) (X.map<|ev e) (V.map<|ev e) k=O y):bp T (.slice es x X V) ea c.σ<|iG c d k y:=by
 have C:=bt E x;unfold UZ at h;cases f:lenOf c.S (ev e x)with
 |none=>rw[f]at h;cases h
 |some n=>
  rw[f]at h;simp only at h;cases g:D7 (X.map<|ev e)with
  |none=>rw[g]at h;cases h
  |some a=>
   cases j:yu n (V.map<|ev e)with
   |none=>rw[g,j]at h;cases h
   |some b=>
    rw[g,j]at h;simp only at h;split at h
    .rename_i hv;rw[hv]at C f;have⟨t,u⟩:=am h
     have hn0:n=0:=by
      simp only[lenOf]at f;injection f with f
      exact f.symm
     subst hn0;have⟨A,B,H⟩:=uw t;have Y:a=0:=by omega
     have hb0:b=0:=by omega
     subst a;subst b;have hxe:ea.ev x= .slice Z 0 0:=by generalize ea.ev x=xa at C;cases C;rfl
     exact cm (E8 E hxe (bD _) (λ_ q h=>by cases h) g j t) (iG.same I .nils u)
    .rename_i s l hv;rw[hv]at C f;simp only[lenOf]at f;cases f;have⟨t,u⟩:=am h;have M:=aB t
     have U:gT a b (b8 l)=Za->k (.lst s<|Xo l a b) c.S=O y->bp T (.slice es x X V) ea c.σ (iG c d k y):=by
      intro N W;have⟨A,B,H⟩:=uw N;generalize Q:ea.ev x=xa at C;cases C with
      |lstn hq=>
       have hb0:b=0:=by simp at H;omega
       have Y:a=0:=by omega
       subst a;subst b;refine cm (E8 E Q (bD _) (λh=>(h rfl).elim) g j N)<|iG.same I ?_ W;refine .lstn λz hz=> ?_
       have⟨z',_,h'⟩:=aC.1 hz;rw[<-h'];rfl
      |lst hn hy L D h7 h8 h9=>
       rename_i bb p cp z;refine cm (E8 E Q h7 (λ_ q h=>by cases h;exact⟨z,hy,L.trans M.symm⟩) g (by rw[D];exact j) (by rw[D];exact N))<|iG.same I ?_ W;subst M;have P:b8 (Xo l a b)=b.toNat-a.toNat:=by simp only[Xo,List.length_drop,List.length_take];omega
       refine .lst hn hy L P.symm V1 ?_ ?_
       .have:a.toNat*s.w+(b.toNat-a.toNat)*s.w<=b8 l*s.w:=by rw[<-bB];exact aD _ V1
        simp only;rw[D]at h8;omega
       simp only[Xo];rw[yq,kU];have J:=(h9.take<|b.toNat*s.w).drop<|a.toNat*s.w;rw[tdt _ (by rw[D];exact aD _ V1),<-Nat.sub_mul]at J;exact J
     split at u
     .rename_i e1 e2
      have N:gT a b (b8 l)=Za:=by
       rw[e1]at g;rw[e2]at j;simp only[D7]at g;simp only[yu]at j;injection g with g
       injection j with j
       subst g;subst j;simp[gT]
      refine U N ?_;rw[e1]at g;rw[e2]at j;simp only[D7]at g;simp only[yu]at j;injection g with g
      injection j with j
      subst g;subst j;simp only[Xo,Int.toNat_natCast,Int.toNat_zero,List.drop_zero,List.take_length];exact u
     have⟨A,B⟩:=am u;exact U A B
    .rename_i q hv;rw[hv]at C f;cases C with
     |full W _ K=>
      cases r:ae c.S q with
      |dead=>rw[r]at h;cases h
      |arr s z l=>
       rw[r]at h;have⟨t,u⟩:=am h;have⟨A,B⟩:=am u;simp only[lenOf,r]at f;injection f with f
       have⟨n',H,D⟩:=K (s.w,b8 l*s.w) ZM;have:n'=n:=by rw[<-f];exact cX (mX s) H
       subst this;exact Hl I E ZM (aB t) D g j A (by rw[cZ];exact B)
      |cells F z l=>
       rw[r]at h;have⟨t,u⟩:=am h;have⟨A,B⟩:=am u;rw[cB]at t;simp only[lenOf,r]at f;injection f with f
       have⟨n',H,D⟩:=K (F,b8 l) ZM;have he1:=aB t.1;have he2:=cD t.2
       have:n'=n:=by
        simp only at H;rw[<-f,<-H,cY _ V1]
       subst this;exact Hl I E ZM he1 D g j A (by rw[cZ];exact B)
    .rename_i q o m hv;rw[hv]at C f;cases C with
     |part W _ K=>
      simp only[lenOf]at f;cases r:ae c.S q with
      |dead=>rw[r]at h;cases h
      |arr s z l=>
       rw[r]at h f;cases f;have⟨t,u⟩:=am h;have⟨A,B⟩:=am u;exact Hl I E (dm:=(s.w,b8 l*s.w)) ZM (aB t) (K _ ZM) g j A B
      |cells F z l=>
       rw[r]at h f;cases f;have⟨t,u⟩:=am h;have⟨A,B⟩:=am u;rw[cB]at t;exact Hl I E (dm:=(F,b8 l)) ZM (aB t.1) (K _ ZM) g j A B
    cases h
def Nd {dm:Nat×Nat}(h:blk.dim=O dm):b8 blk.vals=dm.2:=by
 cases blk with
 |dead=>cases h
 |cells f z l=>cases h;rfl
 |arr s z l=>cases h;exact gR
def Ti (Q:Rel c)(L:ar c e ea){es n:Nat}{lo hi:Option Operand}(h:IL c.S es n (ev e x) (lo.map<|ev e) (hi.map<|ev e) k=O y):bp T (.sliceArr es n x lo hi) ea c.σ<|iG c d k y:=by
 have hx:=bt L x;unfold IL at h;split at h
 .rename_i q o hv;rw[hv]at hx;split at h
  .rename_i es' l hb;split at h
   .rename_i a b hlo hhi;obtain⟨J,V⟩:=am h;simp only[cB]at J;obtain⟨⟨⟨⟨⟨E,h4⟩,F⟩,H⟩,W⟩,K⟩:=J;have E:=aB E;have h4:=cD h4;have F:=aB F;have H:=cD H;have K:=of_decide_eq_true K;obtain⟨X,U,B⟩:=uw W;subst E;cases hx with
    |ptr hk _ hd=>
     have f:(ae c.S q).dim=O (es,l.length):=by rw[hb];rfl
     obtain⟨I,N,hp⟩:=hd _ f;obtain⟨z,cs,P,j,C,r,D,A⟩:=Q.block f N;rw[hb]at r A;have M:=A.length;simp only[Blk.vals]at M;have hzl:l.length<=z.cells.length:=by rw[D,dB,M];omega
     have u:o / es*es=o:=Nat.div_mul_cancel<|Nat.dvd_of_mod_eq_zero F;have Y:(o / es+a.toNat)*es=o+a.toNat*es:=by rw[bB,u]
     refine cm (v:= .slice (O ⟨I,o+a.toNat*es,Z⟩) (b.toNat-a.toNat)<|n-a.toNat) (σ':=c.σ) ?_ (iG.same Q ?_ V)
     .simp only[AOp.run,hp,j];rw[zE ⟨r rfl,C,V1⟩,K6 L hhi V1 B<|bD _];simp only;rw[K8 L hlo X (m:=b.toNat) V1];simp only;rw[Zg]
     refine .part hk rfl λd' g=> ?_
     rw[f]at g;injection g with g
     subst g;refine .inr ⟨I,n-a.toNat,z,by simp only[Y],N, ?_,V1,j, ?_⟩
     .have t:o / es+a.toNat+(b.toNat-a.toNat)=o / es+b.toNat:=by omega
      simp only;rw[t,bB,u];have:b.toNat*es<=n*es:=aD _ V1;omega
     have t:o / es+a.toNat+(n-a.toNat)=o / es+n:=by omega
     simp only;rw[t,bB,u];omega
   cases h
  .rename_i s l hb;split at h
   .rename_i a b hlo hhi;obtain⟨J,V⟩:=am h;simp only[cB]at J;obtain⟨⟨⟨⟨E,F⟩,H⟩,W⟩,K⟩:=J;have E:=aB E;have F:=aB F;have H:=cD H;have K:=of_decide_eq_true K;obtain⟨X,U,B⟩:=uw W;subst E;subst F;cases hx with
    |ptr hk _ hd=>
     have f:(ae c.S q).dim=O (s.w,l.length*s.w):=by rw[hb];rfl
     obtain⟨I,N,hp⟩:=hd _ f;obtain⟨z,cs,P,j,C,r,D,A⟩:=Q.block f N;have M:=A.length;rw[Nd f]at M;rw[hb]at r;have hle:n*s.w<=l.length*s.w:=aD _ H;have hzl:l.length*s.w<=z.cells.length:=by rw[D,dB];simp only at M;omega
     have t:(a.toNat+(b.toNat-a.toNat))*s.w<=l.length*s.w:=aD _ V1;have h18:(a.toNat+(n-a.toNat))*s.w<=l.length*s.w:=aD _ V1;refine cm (v:= .slice (O ⟨I,0+a.toNat*s.w,Z⟩) (b.toNat-a.toNat)<|n-a.toNat) (σ':=c.σ) ?_ (iG.same Q ?_ V)
     .simp only[AOp.run,hp,j];rw[zE ⟨r rfl,C,V1⟩,K6 L hhi V1 B<|bD _];simp only;rw[K8 L hlo X (m:=b.toNat) V1];simp only;rw[Zg]
     refine .part hk rfl λd' g=> ?_
     rw[f]at g;injection g with g
     subst g;exact .inr ⟨I,n-a.toNat,z,by simp only[cZ],N,t,V1,j,by simp only;omega⟩
   cases h
  cases h
 cases h
theorem aR2 (I:Rel c)(K:ar c e ea){n:Nat}(h:X5 c.S (aR1 c.S n<|ev e x) k=O y):bp T (.off n x) ea c.σ<|iG c d k y:=by
 have D:=bt K x
 have j: ∀w b o,ea.ev x= .pointer (O ⟨b,o,Z⟩)->VRel c w (.pointer<|O ⟨b,o+n,Z⟩)->k w c.S=O y->bp T (.off n x) ea c.σ (iG c d k y):=by
  intro w b o H N r;exact cm (by simp only[AOp.run,H]) (iG.same I N r)
 generalize ev e x=Q at*;cases Q<;>simp only[aR1]at h<;>try(cases h;done)
 case ptr q o=>
  cases f:(ae c.S q).live with
  |false=>rw[f]at h;cases h
  |true=>
   rw[f]at h;have⟨t,g⟩:=tG f;cases D with
   |ptr r _ u=>
    have⟨b,A,C⟩:=u t g;exact j _ b o C (.ptr r rfl λF _=>⟨b,A,rfl⟩) h
 case pix q o m i=>
  cases f:(ae c.S q).live with
  |false=>rw[f]at h;cases h
  |true=>
   rw[f]at h;have⟨t,g⟩:=tG f;cases D with
   |pix r H M u=>
    have⟨b,A,C⟩:=u t g;cases B:cV n 0 with
    |false=>rw[B]at h;cases h
    |true=>
     rw[B]at h;have:=aB B;subst this;exact j _ b (o+i) C (.pix r rfl M λF _=>⟨b,A,rfl⟩) h
 case pel q i o=>
  cases f:(ae c.S q).live with
  |false=>rw[f]at h;cases h
  |true=>
   rw[f]at h;have⟨t,g⟩:=tG f;cases D with
   |pel r _ u=>
    have⟨b,A,C⟩:=u t g;refine j _ b _ C (.pel r rfl λF J=>⟨b,A, ?_⟩) h
    grind
 case pin s z o=>
  generalize E:ea.ev x=U at D;cases D with
  |pin B P f L=>
   refine j _ _ _ E ?_ h;rw[Nat.add_assoc];exact .pin B P f L
def VT {es:Nat}{i:Operand}{b o n f:Nat}{z:Int}(m:ea.ev x= .slice (O ⟨b,o,Z⟩) n f)(h:ea.ev i= .int kd z)(g:0<=z)(j:z<n):
  (AOp.idx es x i).run ea c.σ=O (.pointer<|O ⟨b,o+z.toNat*es,Z⟩,c.σ):=by
 simp only[AOp.run,m,h];rw[zE ⟨g,j⟩]
def Bd (j:Rel c)(C:ar c e ea){es q o n:Nat}{dm:Nat×Nat}{i:Operand}{z:Int}{w:VV}(t:Gn c q o n dm<|ea.ev x)(m:ea.ev i= .int kd z)(f:0<=z)(s:z<n)
  (u: ∀b,c.μ q=O b->VRel c w (.pointer<|O ⟨b,o*dm.1+z.toNat*es,Z⟩)) (r:k w c.S=O y):bp T (.idx es x i) ea c.σ<|iG c d k y:=by
 rcases t with⟨_,_,B,_,_⟩|⟨b,A,D,g,h,_⟩
 .omega
 .exact cm (VT g m f s) (iG.same j (u b h) r)
def aO9 (L:Rel c)(K:ar c e ea){es:Nat}{i:Operand}(h:aO8 c.S es (ev e x) (ev e i) k=O y):bp T (.idx es x i) ea c.σ<|iG c d k y:=by
 have N:=bt K x;have E:=bt K i;unfold aO8 at h;split at h
 .rename_i kd z hz;rw[hz]at E;have E:=E.int_inv;split at h
  .rename_i s l hv;rw[hv]at N;have⟨t,F⟩:=am h;have t:=aB t;have⟨el,H,r⟩:=ag F;have⟨B,u,I⟩:=WD H;generalize hxa:ea.ev x=xa at N;cases N with
   |lstn=>simp at u;omega
   |lst Y hy he' J X U A=>
    rename_i b p cp blk;subst t;refine cm (VT hxa E B (by rw[J];exact u))<|iG.same L ?_ r;have V:z.toNat*s.w+s.w<=b8 l*s.w:=by rw[<-Nat.succ_mul];exact aD _ V1
    have W:=(A.drop<|z.toNat*s.w).take s.w;rw[Ij I,List.drop_take,List.drop_drop,List.take_take,Nat.min_eq_left (by rw[J];omega)]at W;exact VRel.pin (o:=0) Y hy (by rw[J]at U;exact cW (Nat.le_of_eq<|Nat.add_assoc _ _ _)<|cW (Nat.add_le_add_left V _) U) W
  .rename_i q hv;rw[hv]at N;cases N with
   |full M _ P=>
    cases C:ae c.S q with
    |dead=>rw[C]at h;cases h
    |arr s z' l=>
     rw[C]at h;have⟨t,F⟩:=am h;have⟨j,H,r⟩:=ag F;obtain⟨B,u,rfl,I⟩:=EQ H;have f:(ae c.S q).dim=O (s.w,b8 l*s.w):=by rw[C];rfl
     have⟨n,J,X⟩:=P _ f;have:n=b8 l:=cX (mX s) J;subst this;refine Bd L K X E B u (λb D=> .pel M rfl λQ g=>⟨b,D, ?_⟩) r;rw[f]at g;cases g;rw[aB t];simp
    |cells es' z' l=>
     rw[C]at h;have⟨t,F⟩:=am h;rw[cB]at t;have A:=aB t.1;have V:=cD t.2;subst A;have⟨j,H,r⟩:=ag F;obtain⟨B,u,rfl,I⟩:=EQ H;have f:(ae c.S q).dim=O (es,b8 l):=by rw[C];rfl
     have⟨n,J,X⟩:=P _ f
     have Y:n=b8 l / es:=by
      simp only at J;rw[<-J,cY _ V1]
     cases m:cV es 1 with
     |true=>
      rw[m]at r;have m:=aB m;subst m;refine Bd L K X E B (by rw[Y];exact u) (λb D=> .pix M rfl (by rw[Nat.div_one]at I;exact I) λQ g=>⟨b,D,V2⟩) r
     |false=>
      rw[m]at r;refine Bd L K X E B (by rw[Y];exact u) (λb D=> .ptr M rfl λQ g=>⟨b,D,V2⟩) r
  .rename_i q o n hv;rw[hv]at N;cases N with
   |part M _ P=>
    cases C:ae c.S q with
    |dead=>rw[C]at h;cases h
    |arr s z' l=>
     rw[C]at h;have⟨t,F⟩:=am h;have⟨j,H,r⟩:=ag F;obtain⟨B,u,rfl,I⟩:=EQ H;have f:(ae c.S q).dim=O (s.w,b8 l*s.w):=by rw[C];rfl
     refine Bd L K (P _ f) E B u (λb D=> .pel M rfl λQ g=>⟨b,D, ?_⟩) r;rw[f]at g;cases g;rw[aB t,bB];simp
    |cells es' z' l=>
     rw[C]at h;have⟨t,F⟩:=am h;rw[cB]at t;have A:=aB t.1;subst A;have⟨j,H,r⟩:=ag F;obtain⟨B,u,rfl,I⟩:=EQ H;have f:(ae c.S q).dim=O (es,b8 l):=by rw[C];rfl
     cases m:cV es 1 with
     |true=>
      rw[m]at r;have m:=aB m;subst m;refine Bd L K (P _ f) E B u (λb D=> .pix M rfl I λQ g=>⟨b,D,V2⟩) r
     |false=>
      rw[m]at r;refine Bd L K (P _ f) E B u (λb D=> .ptr M rfl λQ g=>⟨b,D,by simp[bB]⟩) r
  cases h
 cases h
def ay7 (t:Rel c)(u:ar c e ea){ln es:Nat}{i:Operand}(h:ad2 c.S ln es (ev e x) (ev e i) k=O y):bp T (.idxA ln es x i) ea c.σ<|iG c d k y:=by
 have B:=bt u x;have n:=bt u i;unfold ad2 at h;split at h
 .rename_i q o kd z hv hz;rw[hv]at B;rw[hz]at n;have n:=n.int_inv;obtain⟨K,h⟩:=am h;have⟨j,E,m⟩:=ag h;obtain⟨F,H,rfl,I⟩:=EQ E;cases B with
  |ptr w _ J=>
    have⟨D,s⟩:=tG K;have⟨b,A,L⟩:=J D s
    have g:(AOp.idxA ln es x i).run ea c.σ=O (.pointer<|O ⟨b,o+z.toNat*es,Z⟩,c.σ):=by
     simp only[AOp.run,L,n];rw[zE ⟨F,H⟩]
    refine cm g ?_;cases f:cV es 1 with
    |true=>
     rw[f]at m;have f:=aB f;subst f;exact iG.same t (.pix w rfl I λC r=>⟨b,A,V2⟩) m
    |false=>
     rw[f]at m;exact iG.same t (.ptr w rfl λC r=>⟨b,A,rfl⟩) m
 cases h
end
end
end Go.V
