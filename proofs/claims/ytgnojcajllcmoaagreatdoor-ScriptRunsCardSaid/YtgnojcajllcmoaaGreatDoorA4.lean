/- A part of the proof. No condition. -/
import Derived.Test.YtgnojcajllcmoaaGreatDoorA3
set_option linter.all false
namespace Go.V
open Go.Ab
open Option renaming some->O,none->Y
open Bool renaming true->Za,false->Zb
open Decidable renaming decide->Zc
open List renaming length_eq_zero_iff->dl
open List renaming mem_singleton->dy
open Option renaming map_eq_some_iff->aw
open List renaming length->ft
open Option renaming bind->gn
open Option.some renaming injEq->ez
open Prod.mk renaming injEq->fq
variable {x z:Operand}{a:Value}{kd:IntKind}{blk:Blk}{b i:Int}{s:Sh}{neg p:Bool}{op:AOp}{l:Zd}{Z:Hp}
section
open Bool renaming and_eq_true->aB
open List renaming replicate->bD,nil_append->cL,append_assoc->cN,drop_append->cO,drop_of_length_le->cP,length_append->cQ,length_cons->cR,length_take->cS,replicate_succ->cT,take_append_drop->cU
open Nat renaming beq->aD,le_of_ble_eq_true->bB,eq_of_beq_eq_true->cB,ble->cD,le_refl->cK,zero_add->cM
section
variable {β:Type} {T:iX} {c:Ctx} {e:db} {ea:cx} {k:VV->ak->Option β} {y:β} {d:List Nat}
def VRel.bool_inv {b:Bool}(h:VRel c (.bool b) a):a= .bool b:=by cases h;rfl
def VRel.int_inv {n:Int}(h:VRel c (.int kd n) a):a= .int kd n:=by cases h;rfl
def VRel.str_inv (h:VRel c (.str l) a): ∃s,a= .string s/\fc s=l:=by cases h;exact⟨_,rfl,ZW⟩
def VRel.agg_inv {l:List VV}(h:VRel c (.agg l) a): ∃as:Array Value,a= .agg as/\F2 (VRel c) l as.toList:=by cases h;exact⟨_,rfl,ZW⟩
def VRel.tup_inv {l:List VV}(h:VRel c (.tup l) a): ∃as:Array Value,a= .tuple as/\F2 (VRel c) l as.toList:=by cases h;exact⟨_,rfl,ZW⟩
theorem WT {x z v:VV}{f g:Value}(h:aH3 p x z=O v)(j:VRel c x f)(m:VRel c z g):VRel c v<|cond p f g:=by
 unfold aH3 at h
 grind
def aT7 (f:Rel c)(g:ba c e ea)(h:k (ev e x) c.S=O y):cg T (.move x) ea c.Z<|i6 c d k y:=
 cy rfl (i6.same f (cm g x) h)
def aV4 (m:Rel c)(g:ba c e ea){t a b:Operand}(o:ev e t= .bool p)(h:aF3 p (ev e a) (ev e b) c.S k=O y):cg T (.pick t a b) ea c.Z<|i6 c d k y:=by
 have j:=cm g t;rw[o]at j;have j:=j.bool_inv
 have f: ∀v,VRel c v (cond p (ea.ev a)<|ea.ev b)->k v c.S=O y->cg T (.pick t a b) ea c.Z (i6 c d k y):=by
  intro v r n;refine cy (v:=cond p (ea.ev a)<|ea.ev b) (Z':=c.Z) ?_ (i6.same m r n);simp only[AOp.run,j];cases p<;>rfl
 unfold aF3 at h;split at h
 .rename_i v q;exact f v (WT q (cm g a)<|cm g b) h
 cases p with
 |true=>exact f _ (cm g a) h
 |false=>exact f _ (cm g b) h
def i6.new {v:Value}{g:VV}{b1:Option Nat}{Z':Hp}{kill:Option Nat}(f:Rel c)(h:Moves c kill b1 blk Z')(j: ∀q,kill=O q->q∈d)(n:VRel ⟨yk c b1,rr c.S kill++[blk],Z',c.fb⟩ g v)(m:k g (rr c.S kill++[blk])=O y):i6 c d k y v Z':=
 ⟨g,_,rfl,h.le f,h.rel f,h.calm f j,n,m⟩
def ad8 {x:Ab.Blk}{dm:Nat×Nat}(_:blk.dim=O dm):VRel ⟨yk c<|O c.Z.n,rr c.S Y++[blk],c.Z.add x,c.fb⟩ (.ptr (ft c.S) 0)<|.pointer<|O ⟨c.Z.n,0,Y⟩:=by
 refine .ptr (by simp[rr]) rfl λf _=>⟨c.Z.n, ?_,rfl⟩
 simp[yk]
theorem aJ6 : ∀{z:List Value},z.all bm2=Za->z=bD (ft z) (.int .u8 0)
 |[],_=>rfl
 |v::z,h=>by
  rw[List.all_cons,aB]at h
  have g:v= .int .u8 0:=by
   have f:=h.1;unfold bm2 at f
   grind
  rw[cR,cT,<-aJ6 h.2,g]
def Ac (es:Nat)(z:List Value):(Gv es z).dim=O (es,ft z)/\(Gv es z).frozen=Zb/\∀c:Ctx,F2 (VRel c) (Gv es z).vals z:=by
 unfold Gv;cases f:XO es z with
 |false=>
  rw[zD];exact⟨by simp[Blk.dim],rfl,λc=>HH c z⟩
 |true=>
  rw[zC];unfold XO at f;rw[aB,aB]at f;have j:=cB f.1.1;subst j;refine⟨by simp[Blk.dim,Sh.w],rfl,λc=> ?_⟩;have m:=aJ6 f.2
  have g: ∀n,F2 (VRel c) (fZ (.int .u8)<|bD n (0:Int))<|bD n<|.int .u8 0:=by
   intro n;induction n with
   |zero=>exact .nil
   |succ n o=>exact .cons (.int _ _) o
  have h:=g<|ft z;rw[<-m]at h;exact h
def av0 (g:Rel c){es:Nat}{z:List Value}(h:gd (cD 1 es) (k (.ptr (ft c.S) 0)<|c.S++[Gv es z])=O y):cg T (.alloc es z) ea c.Z<|i6 c d k y:=by
 have⟨j,m⟩:=az h;have⟨f,o,n⟩:=Ac es z;exact cy rfl (i6.new (kill:=Y) g (Xz g (blk:=Gv es z) (x:=⟨z,Za,es⟩) (d:=(es,ft z)) f (bB j) rfl rfl (n c)) (λ_ h=>by cases h) (ad8 (dm:=(es,ft z)) f) m)
def bj5 (g:Rel c)(n:ba c e ea){es:Nat}(h:gd (cD 1 es&&pE (nj<|ev e x)) (k (.ptr (ft c.S) 0)<|c.S++[.cells es Zb<|nj<|ev e x])=O y):cg T (.box es x) ea c.Z<|i6 c d k y:=by
 have⟨f,m⟩:=az h;rw[aB]at f;have j:=K8 (cm n x) f.2;refine cy (by simp only[AOp.run];rw[zE<|kP j f.2])<|i6.new (kill:=Y) g (Xz g (blk:= .cells es Zb<|nj<|ev e x) (x:=⟨cellsOf<|ea.ev x,Za,es⟩) (d:=(es,ft<|nj<|ev e x)) rfl (bB f.1) rfl rfl j) (λ_ h=>by cases h) (ad8 (dm:=(es,_)) rfl) m
def Ag (n:ba c e ea): ∀(j:List<|Nat×Nat×Operand) {cs r:List VV} {as:List Value},Mk cs (CS e j)=O r->F2 (VRel c) cs as->∃m,GD as (j.map λ(o,s,x)=>(o,s,ea.ev x))=O m/\F2 (VRel c) r m
 |[],cs,r,as,h,g=>by
  injection h with h
  subst h;exact⟨as,rfl,g⟩
 |(o,s,x)::j,cs,r,as,h,g=>by
  simp only[CS,List.map_cons,Mk]at h;cases f:(aD (nj<|ev e x).length s&&cD (o+s) cs.length&&(nj<|ev e x).all aV2)with
  |false=>rw[f]at h;cases h
  |true=>
   rw[f,zC]at h;rw[aB,aB]at f;have t:=cB f.1.1;have A:=bB f.1.2;have q:=K8 (cm n x) f.2;have u:(cellsOf<|ea.ev x).length=s:=by rw[<-q.length];exact t
   have B:as.length=cs.length:=g.length.symm;obtain⟨m,v,w⟩:=Ag n j h<|((g.take o).append q).append<|g.drop<|o+s;refine⟨m, ?_,w⟩;simp only[List.map_cons,GD];rw[zE ⟨u,V1⟩];exact v
def aw9 (m:Rel c)(n:ba c e ea){z:List Value}{f:List<|Nat×Nat×Operand}{cs:List VV}(o:Mk (z.map M0) (CS e f)=O cs)(h:k (.agg cs) c.S=O y):cg T (.build z f) ea c.Z<|i6 c d k y:=by
 have⟨q,g,j⟩:=Ag n f o<|HH c z;exact cy (by simp only[AOp.run,g];rfl)<|i6.same m (.agg (by simpa using j)) h
def Br {dm:Nat×Nat}{n m:Nat}{b:Nat}{yb:Ab.Blk}{Z':Hp}{kill:Option Nat}(h:blk.dim=O dm)(g:n*dm.1=dm.2)(o:n<=m)(q:Z'.m b=O yb)(j:m*dm.1<=ft yb.cells):
  VRel ⟨yk c<|O b,rr c.S kill++[blk],Z',c.fb⟩ (.full<|ft c.S) (.slice (O ⟨b,0,Y⟩) n m):=by
 refine .full (by simp[Au]) rfl λr f=> ?_
 simp only[kD,if_true]at f;rw[h]at f;cases f;exact⟨n,g, .inr ⟨b,m,yb,V2,by simp[yk],by rw[cM,g];exact cK _,o,q,by rw[cM];exact j⟩⟩
def LN : ∀(n:Nat) (z:List Value),F2 (VRel c) ((bD n<|z.map M0).flatten) (fd z n)
 |0,_=> .nil
 |n+1,z=>by
  simp only[fd,cT,List.flatten_cons];exact(HH c z).append<|LN n z
def QB (n:Rel c)(t:ba c e ea){es ln:Nat}{z:List Value}{j:List<|Nat×Nat×Operand}{cs:List VV}(u:Mk ((bD ln<|z.map M0).flatten) (CS e j)=O cs)
  (h:gd (pE cs&&aD (ln*es) cs.length&&cD 1 es) (k (.full c.S.length)<|c.S++[.cells es Zb cs])=O y):cg T (.buildSlice es ln z j) ea c.Z<|i6 c d k y:=by
 obtain⟨f,q⟩:=az h;rw[aB,aB]at f;obtain⟨o,r,g⟩:=Ag t j u<|LN ln z;have m:=cB f.1.2;refine cy (by simp only[AOp.run,r];rw[zE<|kP g f.1.1])<|i6.new (kill:=Y) n (Xz n (blk:= .cells es Zb cs) (x:=⟨o,Za,es⟩) (d:=(es,cs.length)) rfl (bB f.2) rfl rfl g) (λ_ h=>by cases h) ?_ q;exact Br (dm:=(es,cs.length)) (yb:=⟨o,Za,es⟩) rfl m (cK _) (zE rfl) (by rw[<-g.length];exact Nat.le_of_eq m)
def aS9 (f:Rel c)(t:ba c e ea)(h:RM c.S 1 Zb (ev e x) k=O y):cg T (.load x) ea c.Z<|i6 c d k y:=by
 have⟨b,o,blk,g,j,m,_⟩:=Wn f h<|cm t x;have⟨u,w,n,q,r⟩:=m rfl;exact cy (by simp only[AOp.run,g,j,n];rfl)<|i6.same f q r
def aC4 (f:Rel c)(u:ba c e ea){n:Nat}(h:RM c.S n Za (ev e x) k=O y):cg T (.loadN n x) ea c.Z<|i6 c d k y:=by
 have⟨b,o,blk,g,j,_,m⟩:=Wn f h<|cm u x;have⟨v,w,q,r,t⟩:=m rfl;exact cy (by simp only[AOp.run,g,j,q];rfl)<|i6.same f (.agg (by simpa using r)) t
def GY : ∀(vs cells:List Value) (o:Nat),ft (lq cells o vs)=ft cells
 |[],_,_=>rfl
 |v::vs,cells,o=>by simp only[lq];rw[GY vs];simp
def F2.set {l:List VV}{m:List Value}(h:F2 (VRel c) l m){v:VV}(j:VRel c v a): ∀i,F2 (VRel c) (l.set i v)<|m.set i a:=by
 induction h with
 |nil=>intro i;simp;exact .nil
 |cons f g n=>
  intro i;cases i with
  |zero=>exact .cons j g
  |succ i=>exact .cons f<|n i
def PI : ∀{vs:List VV} {as:List Value},F2 (VRel c) vs as->∀{l:List VV} {m:List Value} (o:Nat),F2 (VRel c) l m->F2 (VRel c) (aX2 l o vs) (lq m o as)
 |_,_, .nil,_,_,_,h=>h
 |_,_, .cons f g,_,_,o,h=>PI g (o+1)<|F2.set h f o
def GX : ∀(vs:List Value) (cs rest:List Value) (o:Nat),o+ft vs<=ft cs->lq (cs++rest) o vs=lq cs o vs++rest
 |[],_,_,_,_=>rfl
 |v::vs,cs,rest,o,h=>by
  simp only[cR]at h;simp only[lq];rw[List.set_append_left _ _ V1,GX vs _ _ _ V3]
def By : ∀(vs:List Value) (pre cs:List Value) (o:Nat),lq (pre++cs) (ft pre+o) vs=pre++lq cs o vs
 |[],_,_,_=>rfl
 |v::vs,pre,cs,o=>by
  simp only[lq];rw[List.set_append_right _ _ V1,Nat.add_sub_cancel_left,Nat.add_assoc,By vs]
def HP {blk:Ab.Blk}{o:Nat}{vs:List Value}(f:blk.own=Za)(g:o+ft vs<=ft blk.cells)(h:vs.all one=Za):CU blk o vs=O ⟨lq blk.cells o vs,Za,blk.es⟩:=by
 unfold CU;rw[zE ⟨f,g,h⟩,f]
def KJ (E:Rel c){q es o b:Nat}{l l' vs:List VV}{as:List Value}(g:ag c.S q= .cells es Zb l)(B:c.μ q=O b)(w:F2 (VRel c) vs as)(C:pE vs=Za)(H:o+vs.length<=l.length)
  (h: ∀cs,F2 (VRel c) l cs->F2 (VRel c) l' (lq cs o as)): ∃blk,c.Z.m b=O blk/\∃f,CU blk o as=O f/\Writes c q b (.cells es Zb l') f:=by
 obtain⟨r,cs,j,t,D,u,v,n⟩:=E.block (k:=q) (d:=(es,l.length)) ZA B;rw[g]at u n;have A:=F2.length n;simp only[Blk.vals]at A;have F:=F2.length w;refine⟨r,t,_,HP (u rfl) (by rw[v,cQ];omega)<|kP w C,⟨by rw[g];rfl,B, ?_,rfl,r,lq cs o as,j,(es,l.length),t,by rw[g];rfl,D,rfl,GY _ _ _, ?_,h cs n⟩⟩
 .have:=F2.length<|h cs n;rw[GY]at this;simp only[g,Blk.dim];rw[this,<-A]
 .show lq r.cells o as=_;rw[v,GX _ _ _ _ V1]
def PH {v:VV}{A:Value}(u:VRel c v A): ∀{cs:List VV} {as:List Value} {i j:Nat} {r:List VV},PG v cs i j=O r->F2 (VRel c) cs as->F2 (VRel c) r (if j<=i then as.set (i-j) A else as)
 |[],_,i,j,r,h,o=>by
  cases o;cases h;simp;exact .nil
 |w::cs,_,i,j,r,h,o=>by
  cases o with
  |cons B C=>
   rename_i a as;simp only[PG]at h;cases t:aH3 (aD i j) v w with
   |none=>rw[t]at h;cases h
   |some x=>
    rw[t]at h;simp only[zG]at h;cases q:PG v cs i (j+1)with
    |none=>rw[q]at h;cases h
    |some F=>
     rw[q]at h;cases h;have f:=PH u q C;have g:=WT t u B;by_cases m:i=j
     .subst m;rw[Zh]at f;rw[zE<|cK _,Nat.sub_self];have:aD i i=Za:=Nat.beq_refl i;rw[this]at g;exact .cons g f
     .have D:aD i j=Zb:=by
       cases E:aD i j with
       |false=>rfl
       |true=>exact(m<|cB E).elim
      rw[D]at g;by_cases n:j+1<=i
      .rw[zE n]at f;rw[Zg,show i-j=(i-(j+1))+1 by omega];exact .cons g f
      .rw[zF n]at f;rw[Zh];exact .cons g f
theorem Rm {s:Sh}{x:El s}: ∀{l:List<|El s} {i:Nat},i<ft l->fZ s (l.set i x)=(fZ s l).take (i*s.w)++(ey s x++(fZ s l).drop (i*s.w+s.w))
 |[],_,h=>by simp at h
 |a::l,0,_=>by
  rw[List.set_cons_zero,gK,gK,Nat.zero_mul,List.take_zero,cL,cM,cO,ff,Nat.sub_self,List.drop_zero,cP (by rw[ff];exact cK _),cL]
 |a::l,i+1,h=>by
  have f:(i+1)*s.w=s.w+i*s.w:=by rw[Nat.succ_mul];omega
  rw[List.set_cons_succ,gK,gK,Rm V8,f,List.take_append,cO,ff,List.take_of_length_le (l:=ey s a) (by rw[ff];omega),cP (l:=ey s a) (by rw[ff];omega),cL,cN]
  grind
def OG (v:VV){q:Nat}(h:Bg v=O q):q∈aF0 (Bg v):=by rw[h];exact dy.2 rfl
def PJ {vs cs:List Value}{p o w:Nat}(g:o+ft vs<=w)(m:p+w<=ft cs):lq cs (p+o) vs=cs.take p++(lq ((cs.drop p).take w) o vs++cs.drop (p+w)):=by
 have f:cs=cs.take p++((cs.drop p).take w++cs.drop (p+w)):=by
  rw[<-List.drop_drop,cU,cU]
 have h:ft (cs.take p)=p:=by rw[cS];omega
 have j:ft ((cs.drop p).take w)=w:=by rw[cS,List.length_drop];omega
 conv=>lhs;rw[f]
 have:=By vs (cs.take p) ((cs.drop p).take w++cs.drop (p+w)) o;rw[h]at this;rw[this,GX _ _ _ _ (by rw[j];exact g)]
theorem aI0 (hR:Rel c)(he:ba c e ea){n:Nat}{a:Operand}(hd: ∀q,Bg (ev e a)=O q->q∈d)
  (h:gd (aD (nj<|ev e x).length n&&pE (nj<|ev e x)) (YR c.S (ev e a) (nj<|ev e x) λS'=>k .undef S')=O y):cg T (.store n a x) ea c.Z<|i6 c d k y:=by
 obtain⟨V,f⟩:=az h;rw[aB]at V;have hn:=cB V.1;have P:=K8 (cm he x) V.2;have hlen:(cellsOf<|ea.ev x).length=n:=by rw[<-P.length];exact hn
 have ha:=cm he a
 have U: ∀(L:Ctx) (q b o:Nat) (j:Ab.Blk) (blk:Blk) (g:Ab.Blk),L.Z=c.Z->Le c L->vN d c L->Rel L->q∈d->ea.ev a= .pointer (O ⟨b,o,Y⟩)->c.Z.m b=O j->CU j o (cellsOf<|ea.ev x)=O g->Writes L q b blk g->
   k .undef (kE L.S q blk)=O y->cg T (.store n a x) ea c.Z (i6 c d k y):=by
  intro L q b o j blk g hZ N M r hq E F I H J;refine cy (v:=undef) (Z':=c.Z.set b<|O g) ?_ ?_
  .simp only[AOp.run,E,hlen,if_true,F,I]
  .rw[<-hZ];exact⟨.undef,_,rfl,N.trans<|H.le r,H.rel r,M.trans (H.calm r hq) N, .undef _,J⟩
 generalize cellsOf (ea.ev x)=as at*;generalize ev e a=av at*;generalize nj (ev e x)=K at*;unfold YR at f;cases av with
 |ptr q o=>
  simp only at f;cases t:ag c.S q with
  |dead=>rw[t]at f;cases f
  |arr s z l=>rw[t]at f;cases f
  |cells es z l=>
   rw[t]at f;cases z with
   |true=>cases f
   |false=>
    obtain⟨E,F⟩:=az f;cases ha with
    |ptr hk _ C=>
     obtain⟨b,W,B⟩:=C (es,l.length) (by rw[t];rfl);obtain⟨j,I,g,H,J⟩:=KJ hR t W P V.2 (bB E) λcs A=>PI P o A
     exact U c q b o j _ g rfl (Le.refl c) (vN.refl d c) hR (hd q rfl) B I H J F
 |pix q o m i=>
  simp only at f;split at f
  .rename_i es l v t;obtain⟨E,F⟩:=az f;have E:=bB E;split at F
   .rename_i l' hs;cases P with
    |cons hv hnil=>
     rename_i va as';cases hnil;cases ha with
     |pix hk _ hi C=>
      obtain⟨b,W,B⟩:=C (es,l.length) (by rw[t];rfl)
      obtain⟨j,I,g,H,J⟩:=KJ (l':=l.take o++l'++l.drop (o+m)) (o:=o+i) hR t W (.cons hv .nil) V.2 V3 λcs A=>by
       have hl:=A.length;rw[PJ (w:=m) V3 V1,cN];have h8:=PH hv hs<|(A.drop o).take m;rw[zE<|Nat.zero_le _,Nat.sub_zero]at h8;exact(A.take o).append (h8.append<|A.drop _)
      exact U c q b (o+i) j _ g rfl (Le.refl c) (vN.refl d c) hR (hd q rfl) B I H J F
   .cases F
  .cases f
 |pel q i o=>
  simp only at f;cases t:ag (Ja c.S K) q with
  |dead=>rw[t]at f;cases f
  |cells es z l=>rw[t]at f;cases f
  |arr s z l=>
   rw[t]at f;cases z with
   |true=>cases f
   |false=>
    simp only at f;cases Q:l[i]? with
    |none=>rw[Q]at f;cases f
    |some x'=>
     rw[Q]at f;simp only[zG]at f;split at f
     .rename_i z hof;obtain⟨E,F⟩:=az f;have E:=bB E;have D:=HA c.S K;have r:Rel ⟨c.μ,Ja c.S K,c.Z,c.fb⟩:=D.rel hR
      have hi:i<l.length:=by
       grind
      have hx1:F2 (VRel ⟨c.μ,Ja c.S K,c.Z,c.fb⟩) K as:=VRel.frames D.le P;cases ha with
      |pel hk _ C=>
       have u:(ag (Ja c.S K) q).dim=O (s.w,l.length*s.w):=by rw[t];rfl
       obtain⟨b,W,B⟩:=C (s.w,l.length*s.w) (by rw[<-D.dim];exact u);obtain⟨y0,cs,rest,I,H,J,h8,h9⟩:=r.block (k:=q) u W;rw[t]at J h9;have hl:=h9.length;simp only[Blk.vals,gP]at hl;have N:i*s.w+s.w<=l.length*s.w:=by rw[<-Nat.succ_mul];exact Nat.mul_le_mul_right _ hi
       have hlen':K.length=as.length:=P.length;refine U ⟨c.μ,Ja c.S K,c.Z,c.fb⟩ q b (i*s.w+o) y0 (.arr s Zb<|l.set i z) _ rfl D.le (D.calm d) r (hd q rfl) B I (HP (J rfl) (by rw[h8,cQ];omega)<|kP P V.2) ⟨by rw[t];rfl,W,by rw[u];simp[Blk.dim],rfl,y0,lq cs (i*s.w+o) as,rest,_,I,u,H,rfl,GY _ _ _,by rw[h8,GX _ _ _ _ V1], ?_⟩ F;obtain⟨pre,X,h11,h12⟩:=ku r s _ _ _ hof;rw[List.append_nil]at X;subst X;simp only[Blk.vals];rw[Rm hi,PJ (w:=s.w) V1 V1];refine(h9.take _).append<|F2.append (h12 _<|PI hx1 o ?_)<|h9.drop _;have h13:=(h9.drop<|i*s.w).take s.w;simp only[Blk.vals]at h13
       rwa [Lm Q]at h13
     .cases f
 |_=>cases f
end
end
section
open Bool renaming false_eq_true->aD
open List renaming extract_eq_take_drop->bB
open Nat renaming eq_of_beq_eq_true->bD
open Option renaming map_some->aB
section
variable {β:Type} {T:iX} {c:Ctx} {e:db} {ea:cx} {k:VV->ak->Option β} {y:β} {d:List Nat}
def xZ (s:ByteArray):ft (fc s)=s.size:=by simp[fc]
def Ov (s t:ByteArray):fc (s++t)=fc s++fc t:=by
 simp[fc,ByteArray.data_append]
def Ha : ∀{l m:List UInt8},(l.map λb=>(b.toNat:Int))=m.map (λb=>(b.toNat:Int))->l=m
 |[],[],_=>rfl
 |[],_::_,h=>by simp at h
 |_::_,[],h=>by simp at h
 |a::l,b::m,h=>by
  simp only[List.map_cons,List.cons.injEq]at h;rw[Ha h.2,UInt8.toNat_inj.1<|Int.ofNat.inj h.1]
def My (s:ByteArray):s.toList=s.data.toList:=by
 rw[ByteArray.toList_eq]
theorem K6 (s t:ByteArray):(s.toList==t.toList)=Zc (fc s=fc t):=by
 rw[My,My];by_cases h:s.data.toList=t.data.toList
 .simp[fc,h]
 have:fc s≠fc t:=λe=>h (Ha e)
 grind
def ai8 {op:BinOp}{a:Int}{j:VV->Option β}(h:XE op kd a b j=O y): ∃v m,ac4 op kd a b=O m/\VRel c v m/\j v=O y:=by
 cases op<;>simp only[XE]at h<;>try(cases h;done)
 case add=>exact⟨_,_,rfl, .int _ _,h⟩
 case sub=>exact⟨_,_,rfl, .int _ _,h⟩
 case mul=>exact⟨_,_,rfl, .int _ _,h⟩
 case quo=>
  have⟨f,g⟩:=az h;exact⟨_,_,zF<|of_decide_eq_true f, .int _ _,g⟩
 case rem=>
  have⟨f,g⟩:=az h;exact⟨_,_,zF<|of_decide_eq_true f, .int _ _,g⟩
 case and=>exact⟨_,_,rfl, .int _ _,h⟩
 case or=>exact⟨_,_,rfl, .int _ _,h⟩
 case xor=>exact⟨_,_,rfl, .int _ _,h⟩
 case andNot=>exact⟨_,_,rfl, .int _ _,h⟩
 case eql=>
  refine⟨_,_,rfl, ?_,h⟩;have:(a==b)=Zc (a=b):=by by_cases h:a=b<;>simp[h]
  rw[this];exact .bool _
 case neq=>
  refine⟨_,_,rfl, ?_,h⟩;have:(a !=b)=Zc (a≠b):=by by_cases h:a=b<;>simp[h]
  rw[this];exact .bool _
 case lss=>exact⟨_,_,rfl, .bool _,h⟩
 case leq=>exact⟨_,_,rfl, .bool _,h⟩
 case gtr=>exact⟨_,_,rfl, .bool _,h⟩
 case geq=>exact⟨_,_,rfl, .bool _,h⟩
def bj0 (C:Rel c)(r:ba c e ea){op:BinOp}(h:bi9 op (ev e x) (ev e z) (λv=>k v c.S)=O y):cg T (.bin op x z) ea c.Z<|i6 c d k y:=by
 have u:=cm r x;have w:=cm r z
 have f: ∀v o,CN op (ea.ev x) (ea.ev z)=O o->VRel c v o->k v c.S=O y->cg T (.bin op x z) ea c.Z (i6 c d k y):=λv o g j q=>
  cy (by simp only[AOp.run,g];rfl) (i6.same C j q)
 generalize ev e x=F at*;generalize ev e z=H at*;unfold bi9 at h;split at h
 .rename_i D a E b;rw[u.int_inv,w.int_inv]at f;cases m:xy op with
  |true=>
   rw[m,zC]at h;simp only[CN,m,if_true]at f;cases op<;>simp only[aH7]at h<;>try(cases h;done)
   .obtain⟨g,j⟩:=az h;have g:=of_decide_eq_true g;refine f _ _ ?_ (.int _ _) j;simp only[PM];rw[Zh]
   have⟨g,j⟩:=az h;have g:=of_decide_eq_true g;refine f _ _ ?_ (.int _ _) j;simp only[PM];rw[Zh]
  |false=>
   rw[m,zD]at h;cases n:Zc (D=E)with
   |false=>rw[n]at h;cases h
   |true=>
    rw[n,zC]at h;have n:=of_decide_eq_true n;subst n;have⟨v,o,g,j,q⟩:=ai8 (c:=c) h;refine f v o ?_ j q;simp only[CN,m,aD,if_false,if_true,g]
 .rename_i a b;obtain⟨s,A,rfl⟩:=u.str_inv;obtain⟨t,B,rfl⟩:=w.str_inv;rw[A,B]at f;cases m:xy op with
  |true=>rw[m]at h;cases h
  |false=>
   rw[m,zD]at h;simp only[CN,m,aD,if_false]at f;cases op<;>simp only[bx4]at h<;>try(cases h;done)
   .obtain⟨g,j⟩:=az h;have g:ft (fc s)+ft (fc t)<=9223372036854775807:=Nat.le_of_ble_eq_true g;rw[xZ,xZ]at g;refine f _ _ ?_ (.str<|Ov s t) j;simp only[af8];rw[zF];show¬(((s.size+t.size:Nat):Int) > 9223372036854775807);omega
   .refine f _ _ rfl ?_ h;rw[K6];exact .bool _
   refine f _ _ rfl ?_ h;rw[K6];have:(!Zc (fc s=fc t))=Zc (fc s≠fc t):=by simp
   rw[this];exact .bool _
 cases h
def vF {b:Blk}(h:b.live=Za): ∃dm,b.dim=O dm:=by cases b<;>first|(cases h;done)|exact⟨_,rfl⟩
def IM {v:VV}(h:VRel c v a)(m:O3 c.S v=Za): ∃x,a= .pointer (O x):=by
 cases v<;>try(cases m;done)
 case ptr q o=>
  have⟨f,j⟩:=vF m;cases h with
  |ptr r _ g=>have⟨b,_,h⟩:=g f j;exact⟨_,h⟩
 case pix q o n i=>
  have⟨f,j⟩:=vF m;cases h with
  |pix r _ _ g=>have⟨b,_,h⟩:=g f j;exact⟨_,h⟩
 case pel q i o=>
  have⟨f,j⟩:=vF m;cases h with
  |pel r _ g=>have⟨b,_,h⟩:=g f j;exact⟨_,h⟩
 case pin s x o=>cases h;exact⟨_,rfl⟩
def VT (q:Rel c)(t:ba c e ea)(h:(match ev e x with
  | .fn f a b=>k (.fn f a b) c.S
  |v=>gd (O3 c.S v)<|k v c.S)=O y):cg T (.nilCheck x) ea c.Z<|i6 c d k y:=by
 have g:=cm t x;split at h
 .rename_i f a b u;rw[u]at g
  have: ∃m n,ea.ev x= .func (.func f) m n:=by
   generalize ea.ev x=w at g;cases g;exact⟨_,_,rfl⟩
  have⟨m,n,j⟩:=this;rw[j]at g;exact cy (by simp only[AOp.run,j]) (i6.same q g h)
 .obtain⟨j,r⟩:=az h;have⟨p,o⟩:=IM g j;rw[o]at g;exact cy (by simp only[AOp.run,o])<|i6.same q g r
def aD1 {b:Bool}:(b !=neg)=aD0 neg b:=by cases neg<;>cases b<;>rfl
def bk8 (w:Rel c)(u:ba c e ea){kd:Nat}(f:bk7 c.S kd (ev e x) (ev e z)=O p)(h:k (.bool<|aD0 neg p) c.S=O y):cg T (.eqv kd neg x z) ea c.Z<|i6 c d k y:=by
 have j:=cm u x;have m:=cm u z
 have g:Vr kd (ea.ev x) (ea.ev z)=O p->cg T (.eqv kd neg x z) ea c.Z (i6 c d k y):=λo=>
  cy (v:= .bool<|p !=neg) (by simp only[AOp.run,o];rfl) (i6.same w (by rw[aD1];exact .bool _) h)
 generalize ev e x=A at*;generalize ev e z=B at*;unfold bk7 at f;split at f
 .injection f with f;subst f
  rw[j.bool_inv,m.bool_inv]at g;exact g rfl
 .injection f with f;subst f
  refine g ?_;generalize ea.ev x=r at*;generalize ea.ev z=t at*;cases j;cases m;rfl
 .cases n:O3 c.S B with
  |false=>rw[n]at f;cases f
  |true=>
   rw[n]at f;cases f
   refine g ?_;have⟨q,o⟩:=IM m n;rw[o];generalize ea.ev x=r at*;cases j;rfl
 .cases n:O3 c.S A with
  |false=>rw[n]at f;cases f
  |true=>
   rw[n]at f;cases f
   refine g ?_;have⟨q,o⟩:=IM j n;rw[o];generalize ea.ev z=t at*;cases m;rfl
 .injection f with f;subst f
  refine g ?_;generalize ea.ev x=r at*;generalize ea.ev z=t at*;cases j;cases m;rfl
 .injection f with f;subst f
  refine g ?_;generalize ea.ev x=r at*;generalize ea.ev z=t at*;cases j;cases m;rfl
 .injection f with f;subst f
  refine g ?_;generalize ea.ev x=r at*;generalize ea.ev z=t at*;cases j;cases m;rfl
 .injection f with f;subst f
  refine g ?_;generalize ea.ev x=r at*;generalize ea.ev z=t at*;cases j;cases m;rfl
 cases f
def aP7 {kd:Nat}{v w:VV}{m n:Value}(h:al8 kd v w=O p)(g:VRel c v m)(j:VRel c w n):yh kd m n=O p:=by
 unfold al8 at h;split at h
 .injection h with h;subst h
  rw[g.bool_inv,j.bool_inv];rfl
 .rename_i r a u b;cases f:Zc (r=u)with
  |false=>rw[f]at h;cases h
  |true=>
   rw[f]at h;cases h
   rw[g.int_inv,j.int_inv];simp only[yh,of_decide_eq_true f,if_true];by_cases e:a=b<;>simp[e]
 .injection h with h;subst h
  obtain⟨s,o,rfl⟩:=g.str_inv;obtain⟨t,q,rfl⟩:=j.str_inv;rw[o,q];simp only[yh];rw[K6]
 cases h
theorem aP8 : ∀{f:List Nat} {l m:List VV} {o t:List Value} {p:Bool},QL f l m=O p->F2 (VRel c) l o->F2 (VRel c) m t->kc f o t=O p:=by
 intro f;induction f with
 |nil=>
  intro l m o t p h u A;cases u<;>cases A<;>simp only[QL]at h<;>try(cases h;done)
  exact h
 |cons kd f Q=>
  intro l m o t p h u A;cases u with
  |nil=>cases m<;>simp[QL]at h
  |cons I J=>
   cases A with
   |nil=>cases f<;>simp[QL]at h
   |cons K L=>
    rename_i v N F C w P H D
    have B: ∀q r,al8 kd v w=O q->QL f F H=O r->p=(q&&r)->kc (kd::f) (N::C) (P::D)=O p:=by
     intro q r g j n;simp only[kc,aP7 g I K]
     grind
    unfold QL at h;split at h
    .rename_i g j n;cases g
    .rename_i g j n;cases g;cases j;cases n;cases J;cases L;exact B p Za h rfl V2
    .rename_i g j n;cases g;cases j;cases n;cases E:al8 kd v w with
     |none=>rw[E]at h;cases h
     |some q=>
      rw[E]at h;simp only[zG]at h;cases M:QL f F H with
      |none=>rw[M]at h;cases h
      |some r=>
       grind
    cases h
def XX (w:Rel c)(f:ba c e ea){m:List Nat}{a b:List VV}(t:ev e x= .agg a)(u:ev e z= .agg b)(A:QL m a b=O p)(h:k (.bool<|aD0 neg p) c.S=O y):
  cg T (.eqCells neg m x z) ea c.Z (i6 c d k y):=by
 have g:=cm f x;have j:=cm f z;rw[t]at g;rw[u]at j;have⟨B,n,q⟩:=g.agg_inv;have⟨C,o,r⟩:=j.agg_inv;exact cy (v:= .bool<|p !=neg) (by simp only[AOp.run,n,o,aP8 A q r];rfl)<|i6.same w (by rw[aD1];exact .bool _) h
def bx8 (j:Rel c)(m:ba c e ea){op:UnOp}(h:unK op (ev e x) (λv=>k v c.S)=O y):cg T (.un op x) ea c.Z<|i6 c d k y:=by
 have f:=cm m x;unfold unK at h;split at h
 .rename_i kd n g;rw[g]at f;exact cy (by simp only[AOp.run,f.int_inv];rfl) (i6.same j (.int _ _) h)
 .rename_i kd n g;rw[g]at f;exact cy (by simp only[AOp.run,f.int_inv];rfl) (i6.same j (.int _ _) h)
 .rename_i b g;rw[g]at f;exact cy (by simp only[AOp.run,f.bool_inv];rfl) (i6.same j (.bool _) h)
 cases h
def O1 {v:VV}{n:Int}(h:Rr v=O n)(f:VRel c v a): ∃kd,a= .int kd n:=by
 cases v<;>simp only[Rr]at h<;>try(cases h;done)
 cases h
 exact⟨_,f.int_inv⟩
def aO7 (f:Rel c)(g:ba c e ea){n:Int}(j:Rr (ev e x)=O n)(h:k (.int kd<|kd.wrap n) c.S=O y):cg T (.conv kd x) ea c.Z<|i6 c d k y:=by
 have⟨o,m⟩:=O1 j<|cm g x;exact cy (by simp only[AOp.run,m];rfl)<|i6.same f (.int _ _) h
def an9 (j:Rel c)(g:ba c e ea){f:Nat}{a b:List Operand}(h:k (.fn f (a.map<|ev e)<|b.map<|ev e) c.S=O y):cg T (.mkFunc f a b) ea c.Z<|i6 c d k y:=
 cy rfl (i6.same j (.fn (by simpa using Ni g a) (by simpa using Ni g b)) h)
def am0 (r:Rel c)(C:ba c e ea){o n:Nat}{agg:Bool}{cs:List VV}(D:ev e x= .agg cs)(h:cond agg (k (.agg<|Dp cs o n) c.S) (ao7 c.S (nth cs o) k)=O y):cg T (.fieldV o n agg x) ea c.Z<|i6 c d k y:=by
 have t:=cm C x;rw[D]at t;have⟨j,m,q⟩:=t.agg_inv;cases agg with
 |true=>
  refine cy (v:= .agg<|j.extract o<|o+n) (by simp only[AOp.run,m];rfl)<|i6.same r (.agg ?_) h;have:=(q.drop o).take n;simpa[Dp,Array.toList_extract,bB]using this
 |false=>
  rw[zD]at h;cases g:nth cs o with
  |none=>rw[g]at h;cases h
  |some w=>
   rw[g]at h;have⟨u,A,B⟩:=F2.nth q g;have f:j[o]?=O u:=by simpa using A
   exact cy (by simp only[AOp.run,m,f];rfl)<|i6.same r B h
def XZ (t:Rel c)(v:ba c e ea){i:Nat}{cs:List VV}(A:ev e x= .tup cs)(h:ao7 c.S (nth cs i) k=O y):cg T (.extract x i) ea c.Z<|i6 c d k y:=by
 have j:=cm v x;rw[A]at j;have⟨m,n,o⟩:=j.tup_inv;cases g:nth cs i with
 |none=>rw[g]at h;cases h
 |some w=>
  rw[g]at h;have⟨u,q,r⟩:=F2.nth o g;have f:m[i]?=O u:=by simpa using q
  exact cy (by simp only[AOp.run,n,f];rfl)<|i6.same t r h
theorem HD {n j:Nat}(h:ix i n=O j):0<=i/\i<n/\j=i.toNat/\j<n:=by
 unfold ix at h
 grind
theorem ae6 {α:Type}{l:List α}{x:α}(h:rd l i=O x):0<=i/\i<ft l/\l[i.toNat]?=O x:=by
 unfold rd at h
 grind
def ai {α γ:Type}{x:Option α}{f:α->Option γ}{z:γ}(h:x.bind f=O z): ∃a,x=O a/\f a=O z:=by
 cases x with
 |none=>cases h
 |some a=>exact⟨a,rfl,h⟩
def an3 (F:Rel c)(H:ba c e ea){ln es:Nat}{agg:Bool}{cs:List VV}(N:ev e x= .agg cs)(P:ev e z= .int kd i)
  (h:(gn (ix i ln) λj=>cond agg (k (.agg<|Dp cs (j*es) es) c.S)<|gd (Nat.beq es 1&&Nat.beq (ft cs) ln)<|U0 cs j c.S k)=O y):cg T (.indexV ln es agg x z) ea c.Z<|i6 c d k y:=by
 have I:=cm H x;have J:=cm H z;rw[N]at I;rw[P]at J;have⟨t,A,C⟩:=I.agg_inv;have B:=J.int_inv;have⟨j,K,q⟩:=ai h;obtain⟨D,E,rfl,Q⟩:=HD K;cases agg with
 |true=>
  refine cy (v:= .agg<|t.extract (i.toNat*es)<|i.toNat*es+es) (by simp only[AOp.run,A,B];rw[zE ⟨D,E⟩];rfl)<|i6.same F (.agg ?_) q;have:=(C.drop<|i.toNat*es).take es;simpa[Dp,Array.toList_extract,bB]using this
 |false=>
  rw[zD]at q;have⟨r,L⟩:=az q;rw[Bool.and_eq_true]at r;have M:=bD r.1;have U:=bD r.2;subst M;have⟨w,f,g⟩:=U1 V1 L;have⟨u,m,n⟩:=C.get _ _ f;have o:t[i.toNat*1]?=O u:=by rw[Nat.mul_one];simpa using m
  exact cy (by simp only[AOp.run,A,B,o];rw[zE ⟨D,E⟩];rfl)<|i6.same F n g
def an2 (C:Rel c)(j:ba c e ea)(D:ev e x= .str l)(E:ev e z= .int kd i)(h:(gn (rd l i) λb=>k (.int .u8 b) c.S)=O y):cg T (.indexS x z) ea c.Z<|i6 c d k y:=by
 have m:=cm j x;have n:=cm j z;rw[D]at m;rw[E]at n;obtain⟨s,o,rfl⟩:=m.str_inv;have q:=n.int_inv;have⟨b,r,t⟩:=ai h;have⟨w,A,f⟩:=ae6 r;simp only[fc,List.getElem?_map]at f;cases g:s.data.toList[i.toNat]? with
 |none=>rw[g]at f;cases f
 |some u=>
  rw[g,aB]at f;cases f
  have B:s[i.toNat]?=O u:=by
   have:i.toNat<s.size:=by rw[xZ]at A;omega
   rw[getElem?_pos s i.toNat this,<-g,Array.getElem?_toList,getElem?_pos s.data i.toNat this];rfl
  exact cy (v:= .int .u8 u.toNat) (by simp only[AOp.run,o,q,B];rw[zE w];rfl)<|i6.same C (.int _ _) t
def aT6 (n:Rel c)(g:ba c e ea){f:IntKind}{a:Int}(o:ev e x= .int kd a)(q:ev e z= .int f b)(h:k (.int kd<|max a b) c.S=O y):cg T (.most x z) ea c.Z<|i6 c d k y:=by
 have j:=cm g x;have m:=cm g z;rw[o]at j;rw[q]at m;refine cy (v:= .int kd<|max a b) ?_ (i6.same n (.int _ _) h);simp only[AOp.run,j.int_inv,m.int_inv,YY,aB]
 congr 3
 split<;>omega
def aB5 (n:Rel c)(g:ba c e ea){f:IntKind}{a:Int}(o:ev e x= .int kd a)(q:ev e z= .int f b)(h:k (.int kd<|min a b) c.S=O y):cg T (.least x z) ea c.Z<|i6 c d k y:=by
 have j:=cm g x;have m:=cm g z;rw[o]at j;rw[q]at m;refine cy (v:= .int kd<|min a b) ?_ (i6.same n (.int _ _) h);simp only[AOp.run,j.int_inv,m.int_inv,Um,aB]
 congr 3
 split<;>omega
end
end
section
open Bool renaming and_eq_true->cB
open List renaming drop_take->cM,length_append->cR
open Nat renaming eq_of_beq_eq_true->aB,mul_le_mul_right->aD,le_refl->bB,add_mul->bD,le_of_ble_eq_true->cD,beq->cK,le_trans->cL,eq_of_mul_eq_mul_right->cN,mul_div_cancel->cO,zero_add->cP
open Option renaming map_some->cQ,map_none->cS
section
variable {β:Type} {T:iX} {c:Ctx} {e:db} {ea:cx} {k:VV->ak->Option β} {y:β} {d:List Nat}
def I7.len {q lo n:Nat}{dm:Nat×Nat}(h:I7 c q lo n dm a): ∃p f,a= .slice p n f/\n<=f:=by
 rcases h with⟨rfl,_,rfl,_,_⟩|⟨b,f,x,rfl,_,_,h,_⟩
 .exact⟨Y,0,rfl,bB _⟩
 exact⟨_,f,rfl,h⟩
def aB7 (D:Rel c){v:VV}{n:Nat}(h:lenOf c.S v=O n)(r:VRel c v a)(H: ∀l,v≠ .str l): ∃p A,a= .slice p n A/\n<=A:=by
 cases v<;>simp only[lenOf]at h<;>try(cases h;done)
 case nils=>cases h;cases r;exact⟨Y,0,rfl,bB _⟩
 case str l=>exact(H l rfl).elim
 case lst s l=>
  cases h
  cases r with
  |lstn=>exact⟨_,0,rfl,bB _⟩
  |lst _ _ _ f j _ _=>subst f;exact⟨_,_,rfl,j⟩
 case part q lo m=>
  cases u:(ag c.S q).live with
  |false=>rw[u]at h;cases h
  |true=>
   rw[u]at h;cases h
   have⟨C,E⟩:=vF u;cases r with
   |part F _ o=>exact(o C E).len
 case full q=>
  cases r with
  |full F _ o=>
   cases g:ag c.S q with
   |dead=>rw[g]at h;cases h
   |arr s z l=>
    rw[g]at h;cases h
    have⟨n,f,j⟩:=o (s.w,ft l*s.w) ZA;have:n=ft l:=cN (nA s) f;subst this;exact j.len
   |cells t z l=>
    rw[g]at h;cases h
    have⟨n,f,j⟩:=o (t,ft l) ZA;have B:=(D.blk q (t,ft l) ZA).1
    have:n=ft l / t:=by
     simp only at f B;rw[<-f,cO _ B]
    subst this;exact j.len
def bm7 (f:Rel c)(j:ba c e ea){n:Nat}(o: ∀l,ev e x≠ .str l)(m:lenOf c.S (ev e x)=O n)(h:k (.int .i64 n) c.S=O y):cg T (.len x) ea c.Z<|i6 c d k y:=by
 have⟨p,q,g,_⟩:=aB7 f m (cm j x) o;exact cy (by simp only[AOp.run,g])<|i6.same f (.int _ _) h
def JN (j:ba c e ea){lo:Option Operand}{a:Int}{m:Nat}(h:Fk (lo.map<|ev e)=O a)(f:0<=a)(n:a<=m):nH m 0 (lo.map ea.ev)=O a.toNat:=by
 cases lo with
 |none=>
  simp only[cS,Fk]at h;cases h
  rfl
 |some x=>
  simp only[cQ,Fk]at h⊢;have⟨kd,g⟩:=O1 h<|cm j x;rw[g];exact zE ⟨f,n⟩
def JM (o:ba c e ea){f:Option Operand}{n g:Nat}(h:yP n (f.map<|ev e)=O b)(j:0<=b)(r:b<=n)(q:n<=g):nH g n (f.map ea.ev)=O b.toNat:=by
 cases f with
 |none=>
  simp only[cS,yP]at h;cases h
  simp[nH]
 |some x=>
  simp only[cQ,yP]at h⊢;have⟨kd,m⟩:=O1 h<|cm o x;rw[m];exact zE ⟨j,V1⟩
theorem tF {a:Int}{n:Nat}(h:eU a b n=Za):0<=a/\a<=b/\b<=n:=by
 unfold eU at h
 grind
theorem HM (j:ba c e ea){es:Nat}{lo o:Option Operand}{p:Option Addr}{n f:Nat}{a:Int}(B:ea.ev x= .slice p n f)(A:n<=f)(D:f≠0->∀q,p=O q->∃z,c.Z.m q.block=O z/\z.es=es)
  (h:Fk (lo.map<|ev e)=O a) (g:yP n (o.map<|ev e)=O b) (v:eU a b n=Za):(AOp.slice es x lo o).run ea c.Z=O (.slice (p.map (QX · (a.toNat*es))) (b.toNat-a.toNat)<|f-a.toNat,c.Z):=by
 have⟨r,C,t⟩:=tF v
 have w:(f==0||EI c.Z es p lo)=Za:=by
  by_cases u:f=0
  .simp[u]
  .unfold EI
   grind
 simp only[AOp.run,B,w,if_true,JM j g V1 t A,JN j h r (m:=b.toNat) V1]
def I7.cut {q lo n:Nat}{dm:Nat×Nat}{p:Option Addr}{f A B:Nat}(h:I7 c q lo n dm<|.slice p n f)(D:A<=B)(E:B<=n):I7 c q (lo+A) (B-A) dm (.slice (p.map (QX · (A*dm.1))) (B-A)<|f-A):=by
 rcases h with⟨m,r,t,u,o⟩|⟨b,v,z,m,r,t,u,o,C⟩
 .injection m with g w j
  subst g;subst j;have:A=0:=by omega
  have:B=0:=by omega
  subst A;subst B;exact .inl ⟨rfl,V1,rfl,u,o⟩
 injection m with g w j
 subst g;subst j;refine .inr ⟨b,f-A,z, ?_,r,cL (aD _ V1) t,V1,o,cL (aD _ V1) C⟩;simp only[cQ,QX,bD]
def I7.es (v:Rel c){q lo n j:Nat}{dm:Nat×Nat}{p:Option Addr}(w:(ag c.S q).dim=O dm)(h:I7 c q lo n dm<|.slice p n j): ∀z,p=O z->∃blk,c.Z.m z.block=O blk/\blk.es=dm.1:=by
 intro z A;subst A;rcases h with⟨g,_⟩|⟨b,o,x,g,r,_,_,D,_⟩
 .cases g
 injection g with f B C
 cases f;have⟨blk,_,_,t,u,_⟩:=v.block w r;exact⟨blk,t,u⟩
def Kd (u:Rel c)(B:ba c e ea){es q o n:Nat}{dm:Nat×Nat}{lo w:Option Operand}{a:Int}(j:(ag c.S q).dim=O dm)(m:es=dm.1)(g:I7 c q o n dm<|ea.ev x)
  (t:Fk (lo.map<|ev e)=O a) (r:yP n (w.map<|ev e)=O b) (v:eU a b n=Za) (h:k (.part q (o+a.toNat)<|b.toNat-a.toNat) c.S=O y):cg T (.slice es x lo w) ea c.Z<|i6 c d k y:=by
 have⟨p,D,A,C⟩:=g.len;rw[A]at g;have⟨F,H,I⟩:=tF v;subst m;refine cy (HM B A C (λ_=>g.es u j) t r v)<|i6.same u ?_ h;refine .part (ll (by rw[j];simp)) rfl λE f=> ?_
 rw[j]at f;cases f;exact g.cut V1 V1
def tdt {α:Type}(L:List α){A B N p:Nat}(h:B<=N):((((L.drop p).take N).take B).drop A)=(L.drop<|p+A).take (B-A):=by
 rw[List.take_take,Nat.min_eq_left h,cM,List.drop_drop]
def aH8 (H:Rel c)(D:ba c e ea){es:Nat}{lo V:Option Operand}(h:YN c.S es (ev e x) (lo.map<|ev e) (V.map<|ev e) k=O y):cg T (.slice es x lo V) ea c.Z<|i6 c d k y:=by
 have B:=cm D x;unfold YN at h;cases f:lenOf c.S (ev e x)with
 |none=>rw[f]at h;cases h
 |some n=>
  rw[f]at h;simp only at h;cases g:Fk (lo.map<|ev e)with
  |none=>rw[g]at h;cases h
  |some a=>
   cases j:yP n (V.map<|ev e)with
   |none=>rw[g,j]at h;cases h
   |some b=>
    rw[g,j]at h;simp only at h;split at h
    .rename_i I;rw[I]at B f;have⟨t,u⟩:=az h
     have hn0:n=0:=by
      simp only[lenOf]at f;injection f with f
      exact f.symm
     subst hn0;have⟨v,A,F⟩:=tF t;have X:a=0:=by omega
     have hb0:b=0:=by omega
     subst a;subst b;have hxe:ea.ev x= .slice Y 0 0:=by generalize ea.ev x=xa at B;cases B;rfl
     exact cy (HM D hxe (bB _) (λ_ q h=>by cases h) g j t) (i6.same H .nils u)
    .rename_i s l I;rw[I]at B f;simp only[lenOf]at f;cases f;have⟨t,u⟩:=az h;have M:=aB t
     have U:eU a b (ft l)=Za->k (.lst s<|pV l a b) c.S=O y->cg T (.slice es x lo V) ea c.Z (i6 c d k y):=by
      intro N W;have⟨v,A,F⟩:=tF N;generalize Q:ea.ev x=xa at B;cases B with
      |lstn hq=>
       have hb0:b=0:=by simp at F;omega
       have X:a=0:=by omega
       subst a;subst b;refine cy (HM D Q (bB _) (λh=>(h rfl).elim) g j N)<|i6.same H ?_ W;refine .lstn λz hz=> ?_
       have⟨z',_,h'⟩:=aw.1 hz;rw[<-h'];rfl
      |lst hn hy L C h7 h8 h9=>
       rename_i bb p cp z;refine cy (HM D Q h7 (λ_ q h=>by cases h;exact⟨z,hy,L.trans M.symm⟩) g (by rw[C];exact j) (by rw[C];exact N))<|i6.same H ?_ W;subst M;have P:ft (pV l a b)=b.toNat-a.toNat:=by simp only[pV,List.length_drop,List.length_take];omega
       refine .lst hn hy L P.symm V1 ?_ ?_
       .have:a.toNat*s.w+(b.toNat-a.toNat)*s.w<=ft l*s.w:=by rw[<-bD];exact aD _ V1
        simp only;rw[C]at h8;omega
       simp only[pV];rw[Bl,kR];have J:=(h9.take<|b.toNat*s.w).drop<|a.toNat*s.w;rw[tdt _ (by rw[C];exact aD _ V1),<-Nat.sub_mul]at J;exact J
     split at u
     .rename_i e1 e2
      have N:eU a b (ft l)=Za:=by
       rw[e1]at g;rw[e2]at j;simp only[Fk]at g;simp only[yP]at j;injection g with g
       injection j with j
       subst g;subst j;simp[eU]
      refine U N ?_;rw[e1]at g;rw[e2]at j;simp only[Fk]at g;simp only[yP]at j;injection g with g
      injection j with j
      subst g;subst j;simp only[pV,Int.toNat_natCast,Int.toNat_zero,List.drop_zero,List.take_length];exact u
     have⟨v,A⟩:=az u;exact U v A
    .rename_i q I;rw[I]at B f;cases B with
     |full W _ K=>
      cases r:ag c.S q with
      |dead=>rw[r]at h;cases h
      |arr s z l=>
       rw[r]at h;have⟨t,u⟩:=az h;have⟨v,A⟩:=az u;simp only[lenOf,r]at f;injection f with f
       have⟨n',F,C⟩:=K (s.w,ft l*s.w) ZK;have:n'=n:=by rw[<-f];exact cN (nA s) F
       subst this;exact Kd H D ZK (aB t) C g j v (by rw[cP];exact A)
      |cells E z l=>
       rw[r]at h;have⟨t,u⟩:=az h;have⟨v,A⟩:=az u;rw[cB]at t;simp only[lenOf,r]at f;injection f with f
       have⟨n',F,C⟩:=K (E,ft l) ZK;have he1:=aB t.1;have he2:=cD t.2
       have:n'=n:=by
        simp only at F;rw[<-f,<-F,cO _ V1]
       subst this;exact Kd H D ZK he1 C g j v (by rw[cP];exact A)
    .rename_i q o m I;rw[I]at B f;cases B with
     |part W _ K=>
      simp only[lenOf]at f;cases r:ag c.S q with
      |dead=>rw[r]at h;cases h
      |arr s z l=>
       rw[r]at h f;cases f;have⟨t,u⟩:=az h;have⟨v,A⟩:=az u;exact Kd H D (dm:=(s.w,ft l*s.w)) ZK (aB t) (K _ ZK) g j v A
      |cells E z l=>
       rw[r]at h f;cases f;have⟨t,u⟩:=az h;have⟨v,A⟩:=az u;rw[cB]at t;exact Kd H D (dm:=(E,ft l)) ZK (aB t.1) (K _ ZK) g j v A
    cases h
def Ow (s:ByteArray)(a b:Nat):fc (s.extract a b)=((fc s).take b).drop a:=by
 simp[fc,ByteArray.data_extract,Array.toList_extract,List.extract_eq_take_drop,List.map_drop,List.map_take,cM]
def WZ (A:Rel c)(g:ba c e ea){lo o:Option Operand}(h:LJ c.S (ev e x) (lo.map<|ev e) (o.map<|ev e) k=O y):cg T (.sliceStr x lo o) ea c.Z<|i6 c d k y:=by
 have q:=cm g x;unfold LJ at h;split at h
 .rename_i l B;rw[B]at q;obtain⟨s,r,rfl⟩:=q.str_inv;split at h
  .rename_i a b j f;have⟨t,u⟩:=az h;have⟨w,C,n⟩:=tF t;rw[xZ]at n f;refine cy (v:= .string<|s.extract a.toNat b.toNat) ?_ (i6.same A (.str<|Ow s _ _) u);simp only[AOp.run,r,JM g f V1 n<|bB _,JN g j w (m:=b.toNat) V1]
  cases h
 cases h
def QA {dm:Nat×Nat}(h:blk.dim=O dm):ft blk.vals=dm.2:=by
 cases blk with
 |dead=>cases h
 |cells f z l=>cases h;rfl
 |arr s z l=>cases h;exact gP
def WY (W:Rel c)(P:ba c e ea){es n:Nat}{lo hi:Option Operand}(h:LI c.S es n (ev e x) (lo.map<|ev e) (hi.map<|ev e) k=O y):cg T (.sliceArr es n x lo hi) ea c.Z<|i6 c d k y:=by
 have hx:=cm P x;unfold LI at h;split at h
 .rename_i q o hv;rw[hv]at hx;split at h
  .rename_i es' l N;split at h
   .rename_i a b I H;obtain⟨L,h2⟩:=az h;simp only[cB]at L;obtain⟨⟨⟨⟨⟨E,h4⟩,F⟩,J⟩,h7⟩,M⟩:=L;have E:=aB E;have h4:=cD h4;have F:=aB F;have J:=cD J;have M:=of_decide_eq_true M;obtain⟨h9,X,B⟩:=tF h7;subst E;cases hx with
    |ptr hk _ hd=>
     have f:(ag c.S q).dim=O (es,l.length):=by rw[N];rfl
     obtain⟨K,U,hp⟩:=hd _ f;obtain⟨z,cs,V,j,C,r,D,A⟩:=W.block f U;rw[N]at r A;have Q:=A.length;simp only[Blk.vals]at Q;have hzl:l.length<=z.cells.length:=by rw[D,cR,Q];omega
     have u:o / es*es=o:=Nat.div_mul_cancel<|Nat.dvd_of_mod_eq_zero F;have hae:(o / es+a.toNat)*es=o+a.toNat*es:=by rw[bD,u]
     refine cy (v:= .slice (O ⟨K,o+a.toNat*es,Y⟩) (b.toNat-a.toNat)<|n-a.toNat) (Z':=c.Z) ?_ (i6.same W ?_ h2)
     .simp only[AOp.run,hp,j];rw[zE ⟨r rfl,C,V1⟩,JM P H V1 B<|bB _];simp only;rw[JN P I h9 (m:=b.toNat) V1];simp only;rw[Zg]
     refine .part hk rfl λd' g=> ?_
     rw[f]at g;injection g with g
     subst g;refine .inr ⟨K,n-a.toNat,z,by simp only[hae],U, ?_,V1,j, ?_⟩
     .have t:o / es+a.toNat+(b.toNat-a.toNat)=o / es+b.toNat:=by omega
      simp only;rw[t,bD,u];have:b.toNat*es<=n*es:=aD _ V1;omega
     have t:o / es+a.toNat+(n-a.toNat)=o / es+n:=by omega
     simp only;rw[t,bD,u];omega
   cases h
  .rename_i s l N;split at h
   .rename_i a b I H;obtain⟨L,h2⟩:=az h;simp only[cB]at L;obtain⟨⟨⟨⟨E,F⟩,J⟩,h7⟩,M⟩:=L;have E:=aB E;have F:=aB F;have J:=cD J;have M:=of_decide_eq_true M;obtain⟨h9,X,B⟩:=tF h7;subst E;subst F;cases hx with
    |ptr hk _ hd=>
     have f:(ag c.S q).dim=O (s.w,l.length*s.w):=by rw[N];rfl
     obtain⟨K,U,hp⟩:=hd _ f;obtain⟨z,cs,V,j,C,r,D,A⟩:=W.block f U;have Q:=A.length;rw[QA f]at Q;rw[N]at r;have hle:n*s.w<=l.length*s.w:=aD _ J;have hzl:l.length*s.w<=z.cells.length:=by rw[D,cR];simp only at Q;omega
     have t:(a.toNat+(b.toNat-a.toNat))*s.w<=l.length*s.w:=aD _ V1;have h18:(a.toNat+(n-a.toNat))*s.w<=l.length*s.w:=aD _ V1;refine cy (v:= .slice (O ⟨K,0+a.toNat*s.w,Y⟩) (b.toNat-a.toNat)<|n-a.toNat) (Z':=c.Z) ?_ (i6.same W ?_ h2)
     .simp only[AOp.run,hp,j];rw[zE ⟨r rfl,C,V1⟩,JM P H V1 B<|bB _];simp only;rw[JN P I h9 (m:=b.toNat) V1];simp only;rw[Zg]
     refine .part hk rfl λd' g=> ?_
     rw[f]at g;injection g with g
     subst g;exact .inr ⟨K,n-a.toNat,z,by simp only[cP],U,t,V1,j,by simp only;omega⟩
   cases h
  cases h
 cases h
theorem bn6 (H:Rel c)(J:ba c e ea){n:Nat}(h:ao7 c.S (bn5 c.S n<|ev e x) k=O y):cg T (.off n x) ea c.Z<|i6 c d k y:=by
 have C:=cm J x
 have j: ∀w b o,ea.ev x= .pointer (O ⟨b,o,Y⟩)->VRel c w (.pointer<|O ⟨b,o+n,Y⟩)->k w c.S=O y->cg T (.off n x) ea c.Z (i6 c d k y):=by
  intro w b o F M r;exact cy (by simp only[AOp.run,F]) (i6.same H M r)
 generalize ev e x=P at*;cases P<;>simp only[bn5]at h<;>try(cases h;done)
 case ptr q o=>
  cases f:(ag c.S q).live with
  |false=>rw[f]at h;cases h
  |true=>
   rw[f]at h;have⟨t,g⟩:=vF f;cases C with
   |ptr r _ u=>
    have⟨b,v,B⟩:=u t g;exact j _ b o B (.ptr r rfl λE _=>⟨b,v,rfl⟩) h
 case pix q o m i=>
  cases f:(ag c.S q).live with
  |false=>rw[f]at h;cases h
  |true=>
   rw[f]at h;have⟨t,g⟩:=vF f;cases C with
   |pix r F L u=>
    have⟨b,v,B⟩:=u t g;cases A:cK n 0 with
    |false=>rw[A]at h;cases h
    |true=>
     rw[A]at h;have:=aB A;subst this;exact j _ b (o+i) B (.pix r rfl L λE _=>⟨b,v,rfl⟩) h
 case pel q i o=>
  cases f:(ag c.S q).live with
  |false=>rw[f]at h;cases h
  |true=>
   rw[f]at h;have⟨t,g⟩:=vF f;cases C with
   |pel r _ u=>
    have⟨b,v,B⟩:=u t g;refine j _ b _ B (.pel r rfl λE I=>⟨b,v, ?_⟩) h
    grind
 case pin s z o=>
  generalize D:ea.ev x=Q at C;cases C with
  |pin A N f K=>
   refine j _ _ _ D ?_ h;rw[Nat.add_assoc];exact .pin A N f K
def ac3 {es:Nat}{i:Operand}{b o n f:Nat}{z:Int}(m:ea.ev x= .slice (O ⟨b,o,Y⟩) n f)(h:ea.ev i= .int kd z)(g:0<=z)(j:z<n):
  (AOp.idx es x i).run ea c.Z=O (.pointer<|O ⟨b,o+z.toNat*es,Y⟩,c.Z):=by
 simp only[AOp.run,m,h];rw[zE ⟨g,j⟩]
def Du (j:Rel c)(C:ba c e ea){es q o n:Nat}{dm:Nat×Nat}{i:Operand}{z:Int}{w:VV}(u:I7 c q o n dm<|ea.ev x)(m:ea.ev i= .int kd z)(f:0<=z)(t:z<n)
  (v: ∀b,c.μ q=O b->VRel c w (.pointer<|O ⟨b,o*dm.1+z.toNat*es,Y⟩)) (r:k w c.S=O y):cg T (.idx es x i) ea c.Z<|i6 c d k y:=by
 rcases u with⟨_,_,B,_,_⟩|⟨b,A,D,g,h,_⟩
 .omega
 .exact cy (ac3 g m f t) (i6.same j (v b h) r)
def bl8 (K:Rel c)(J:ba c e ea){es:Nat}{i:Operand}(h:bl7 c.S es (ev e x) (ev e i) k=O y):cg T (.idx es x i) ea c.Z<|i6 c d k y:=by
 have M:=cm J x;have D:=cm J i;unfold bl7 at h;split at h
 .rename_i kd z hz;rw[hz]at D;have D:=D.int_inv;split at h
  .rename_i s l X;rw[X]at M;have⟨t,E⟩:=az h;have t:=aB t;have⟨el,F,r⟩:=ai E;have⟨A,u,H⟩:=ae6 F;generalize hxa:ea.ev x=xa at M;cases M with
   |lstn=>simp at u;omega
   |lst hn hy he' I W Q v=>
    rename_i b p cp blk;subst t;refine cy (ac3 hxa D A (by rw[I];exact u))<|i6.same K ?_ r;have U:z.toNat*s.w+s.w<=ft l*s.w:=by rw[<-Nat.succ_mul];exact aD _ V1
    have V:=(v.drop<|z.toNat*s.w).take s.w;rw[Lm H,cM,List.drop_drop,List.take_take,Nat.min_eq_left (by rw[I];omega)]at V;exact VRel.pin (o:=0) hn hy (by rw[I]at Q;exact cL (Nat.le_of_eq<|Nat.add_assoc _ _ _)<|cL (Nat.add_le_add_left U _) Q) V
  .rename_i q X;rw[X]at M;cases M with
   |full L _ N=>
    cases B:ag c.S q with
    |dead=>rw[B]at h;cases h
    |arr s z' l=>
     rw[B]at h;have⟨t,E⟩:=az h;have⟨j,F,r⟩:=ai E;obtain⟨A,u,rfl,H⟩:=HD F;have f:(ag c.S q).dim=O (s.w,ft l*s.w):=by rw[B];rfl
     have⟨n,I,W⟩:=N _ f;have:n=ft l:=cN (nA s) I;subst this;refine Du K J W D A u (λb C=> .pel L rfl λP g=>⟨b,C, ?_⟩) r;rw[f]at g;cases g;rw[aB t];simp
    |cells es' z' l=>
     rw[B]at h;have⟨t,E⟩:=az h;rw[cB]at t;have v:=aB t.1;have U:=cD t.2;subst v;have⟨j,F,r⟩:=ai E;obtain⟨A,u,rfl,H⟩:=HD F;have f:(ag c.S q).dim=O (es,ft l):=by rw[B];rfl
     have⟨n,I,W⟩:=N _ f
     have hn:n=ft l / es:=by
      simp only at I;rw[<-I,cO _ V1]
     cases m:cK es 1 with
     |true=>
      rw[m]at r;have m:=aB m;subst m;refine Du K J W D A (by rw[hn];exact u) (λb C=> .pix L rfl (by rw[Nat.div_one]at H;exact H) λP g=>⟨b,C,V2⟩) r
     |false=>
      rw[m]at r;refine Du K J W D A (by rw[hn];exact u) (λb C=> .ptr L rfl λP g=>⟨b,C,V2⟩) r
  .rename_i q o n X;rw[X]at M;cases M with
   |part L _ N=>
    cases B:ag c.S q with
    |dead=>rw[B]at h;cases h
    |arr s z' l=>
     rw[B]at h;have⟨t,E⟩:=az h;have⟨j,F,r⟩:=ai E;obtain⟨A,u,rfl,H⟩:=HD F;have f:(ag c.S q).dim=O (s.w,ft l*s.w):=by rw[B];rfl
     refine Du K J (N _ f) D A u (λb C=> .pel L rfl λP g=>⟨b,C, ?_⟩) r;rw[f]at g;cases g;rw[aB t,bD];simp
    |cells es' z' l=>
     rw[B]at h;have⟨t,E⟩:=az h;rw[cB]at t;have v:=aB t.1;subst v;have⟨j,F,r⟩:=ai E;obtain⟨A,u,rfl,H⟩:=HD F;have f:(ag c.S q).dim=O (es,ft l):=by rw[B];rfl
     cases m:cK es 1 with
     |true=>
      rw[m]at r;have m:=aB m;subst m;refine Du K J (N _ f) D A u (λb C=> .pix L rfl H λP g=>⟨b,C,V2⟩) r
     |false=>
      rw[m]at r;refine Du K J (N _ f) D A u (λb C=> .ptr L rfl λP g=>⟨b,C,by simp[bD]⟩) r
  cases h
 cases h
def aS4 (u:Rel c)(v:ba c e ea){ln es:Nat}{i:Operand}(h:aA7 c.S ln es (ev e x) (ev e i) k=O y):cg T (.idxA ln es x i) ea c.Z<|i6 c d k y:=by
 have B:=cm v x;have n:=cm v i;unfold aA7 at h;split at h
 .rename_i q o kd z M N;rw[M]at B;rw[N]at n;have n:=n.int_inv;obtain⟨K,h⟩:=az h;have⟨j,E,m⟩:=ai h;obtain⟨F,H,rfl,I⟩:=HD E;cases B with
  |ptr w _ J=>
    have⟨D,t⟩:=vF K;have⟨b,A,L⟩:=J D t
    have g:(AOp.idxA ln es x i).run ea c.Z=O (.pointer<|O ⟨b,o+z.toNat*es,Y⟩,c.Z):=by
     simp only[AOp.run,L,n];rw[zE ⟨F,H⟩]
    refine cy g ?_;cases f:cK es 1 with
    |true=>
     rw[f]at m;have f:=aB f;subst f;exact i6.same u (.pix w rfl I λC r=>⟨b,A,V2⟩) m
    |false=>
     rw[f]at m;exact i6.same u (.ptr w rfl λC r=>⟨b,A,rfl⟩) m
 cases h
end
end
section
open Bool renaming and_eq_true->bB
open List renaming length_append->cB,length_take->cK,replicate->cO,take_of_length_le->cP,length_drop->cS,length_nil->cT,replicate_succ->cU,append_assoc->cV,drop_zero->cW,flatten_cons->cX,drop_eq_nil_of_le->dC,getD_eq_getElem?_getD->dD,take_append_of_le_length->dE
open Nat renaming beq->aB,eq_of_beq_eq_true->aD,le_refl->bD,le_of_ble_eq_true->cD,add_mul->cL,eq_of_mul_eq_mul_right->cM,zero_add->cN,ble->cQ,mul_le_mul_right->cR,eq_zero_or_pos->cY,mul_one->cZ,mul_pos->dA,zero_mul->dB,le_of_mul_le_mul_right->dF,mul_div_cancel->dG,mul_le_mul_left->dH
open Option renaming getD_some->dI
section
variable {β:Type} {T:iX} {c:Ctx} {e:db} {ea:cx} {k:VV->ak->Option β} {y:β} {d:List Nat}
def DC : ∀{z:List Value} {s:Sh},Mw z=O s->F2 (VRel c) (ey s<|vJ s) z
 |[],s,h=>by simp[Mw]at h
 |v::r,s,h=>by
  unfold Mw at h;split at h
  .rename_i f;injection f with g j
   subst g;subst j;cases h
   exact .cons (.int _ _) .nil
  .rename_i f;injection f with g j
   subst g;subst j;cases h
   exact .cons (.bool _) .nil
  .rename_i f;injection f with g j
   subst g;subst j;have⟨o,n,m⟩:=ai h;cases m
   exact .cons (.int _ _) (DC n)
  .rename_i f;injection f with g j
   subst g;subst j;have⟨o,n,m⟩:=ai h;cases m
   exact .cons (.bool _) (DC n)
  .cases h
def sV {s:Sh}{x:El s}: ∀n,fZ s (cO n x)=(cO n<|ey s x).flatten
 |0=>rfl
 |n+1=>by rw[cU,gK,sV n,cU,cX]
def R6 (z:List Value)(m n:Nat):fd z (m+n)=fd z m++fd z n:=by
 simp only[fd];rw[<-List.replicate_append_replicate,List.flatten_append]
def R8 (z:List Value)(n:Nat):ft (fd z n)=n*ft z:=by
 simp[fd,List.length_flatten,List.map_replicate]
theorem aT4 (g:Rel c)(F:ba c e ea){es bytes:Nat}{z:List Value}{l m:Operand}(h:aC8 c.S es bytes z (ev e l) (ev e m) k=O y):cg T (.makeSlice es bytes z l m) ea c.Z<|i6 c d k y:=by
 have I:=cm F l;have J:=cm F m;unfold aC8 at h;split at h
 .rename_i V a W b s M N Q;rw[M]at I;rw[N]at J;obtain⟨H,P⟩:=az h;simp only[bB]at H;obtain⟨⟨⟨⟨r,A⟩,B⟩,C⟩,D⟩:=H;have r:=aD r;have A:=of_decide_eq_true A;have B:=of_decide_eq_true B;have C:=of_decide_eq_true C;have D:=cD D;have K:=DC (c:=c) Q;have u:z.length=s.w:=by rw[<-K.length,ff]
  have E:b<=bytes*b:=by
   have:(1:Int)*b<=bytes*b:=Int.mul_le_mul_of_nonneg_right V1 V1;omega
  refine cy (v:= .slice (O ⟨c.Z.n,0,Y⟩) a.toNat b.toNat) (Z':=c.Z.add ⟨fd z b.toNat,Za,es⟩) ?_ ?_
  .simp only[AOp.run,I.int_inv,J.int_inv]
   grind
  have j:fd z b.toNat=fd z a.toNat++fd z (b.toNat-a.toNat):=by rw[<-R6];congr 1;omega
  have o:F2 (VRel c) (fZ s<|cO a.toNat<|vJ s)<|fd z a.toNat:=by
   rw[sV];clear j;generalize a.toNat=n;induction n with
   |zero=>exact .nil
   |succ n L=>
    simp only[fd,cU,cX]at L⊢;exact K.append L
  have t:Moves c Y (O c.Z.n) (.arr s Zb<|cO a.toNat<|vJ s)<|c.Z.add ⟨fd z b.toNat,Za,es⟩:=by
   refine⟨(λb h _ E=>by injection h with h;subst h;exact Nat.lt_irrefl _<|g.fbl _ E),(λ_ h=>by cases h),λq x f=> ?_,Nat.le_succ _,λi x f _=> ?_,(s.w,(cO a.toNat<|vJ s).length*s.w),rfl,nA s, .inr ⟨c.Z.n,⟨fd z b.toNat,Za,es⟩,fd z a.toNat,fd z<|b.toNat-a.toNat,rfl,zE rfl,r,λ_=>rfl,j,o, .inl λw U=> ?_⟩⟩
   .simp only[Hp.add]at f⊢;split at f
    .omega
    have:=g.ok q x f;omega
   .have:=g.ok i x f;simp only[Hp.add];rw[Zh];exact f
   have:=g.ok _ _ U;omega
  refine i6.new (kill:=Y) g t (λ_ h=>by cases h) (Br (dm:=(s.w,(cO a.toNat<|vJ s).length*s.w)) (n:=a.toNat) (m:=b.toNat) (yb:=⟨fd z b.toNat,Za,es⟩) rfl V2 V1 (zE rfl) ?_) P;rw[R8,u];exact bD _
 cases h
def More.cellsOf :More->List VV
 | .cells l=>l
 | .lst s l=>fZ s l
theorem Pq {x:Ab.Blk}{o n m:Nat}(h:o+n<=ft x.cells)(f:m<=n):rz x o m=O (((x.cells.drop o).take n).take m):=by
 unfold rz
 grind
def HJ (F:Rel c){q o n es:Nat}{dm:Nat×Nat}(f:(ag c.S q).dim=O dm)(H:dm.1=es)(I:I7 c q o n dm a):
  ∃g,GK a=O n/\(∀m,m<=n->c.Z.slice es a m=O (g.take<|m*es))/\g.length=n*es/\F2 (VRel c) (((ag c.S q).vals.drop<|o*es).take<|n*es) g:=by
 subst H;rcases I with⟨rfl,rfl,rfl,A,P⟩|⟨b,K,x,rfl,A,D,L,B,M⟩
 .refine⟨[],rfl,λm h=> ?_,V2,by simp;exact .nil⟩;have:m=0:=by omega
  subst this;simp[Hp.slice]
 .obtain⟨Q,t,C,r,_,_,v,w⟩:=F.block f A;rw[B]at r;injection r with r
  subst r;have N:=w.length
  have J:(ag c.S q).vals.length=dm.2:=by
   generalize ag c.S q=blk at f;cases blk with
   |dead=>cases f
   |cells es z l=>injection f with f;subst f;rfl
   |arr s z l=>injection f with f;subst f;exact gP
  rw[cL]at D;have E:((t.drop<|o*dm.1).take<|n*dm.1).length=n*dm.1:=by rw[cK,cS];omega
  refine⟨(t.drop<|o*dm.1).take<|n*dm.1,rfl,λm h=> ?_,E,(w.drop _).take _⟩;have u:m*dm.1<=n*dm.1:=cR _ h;by_cases j:m=0
  .subst j;simp[Hp.slice]
  simp only[Hp.slice,B,zF j];rw[Pq (n:=n*dm.1) (by rw[v,cB];omega) u,v,List.drop_append_of_le_length V1,dE (l₁:=t.drop<|o*dm.1) (by rw[cS];omega)]
theorem Av (M:Rel c){es:Nat}{v:VV}{m:More}(h:pH c.S es v=O m)(L:VRel c v a):
  ∃n j,GK a=O n/\(∀i,i<=n->c.Z.slice es a i=O (j.take<|i*es))/\j.length=n*es/\F2 (VRel c) m.cellsOf j/\(∀s l,m= .lst s l->es=s.w/\n=l.length):=by
 cases v<;>simp only[pH]at h<;>try(cases h;done)
 case nils=>
  injection h with h;subst h
  cases L;refine⟨0,[],rfl,λi H=> ?_,V2, .nil,λs l h=>by cases h⟩;have:i=0:=by omega
  subst this;simp[Hp.slice]
 case str l=>
  cases g:aB es 1 with
  |false=>rw[g]at h;cases h
  |true=>
   rw[g]at h;have g:=aD g;subst g;injection h with h;subst h
   obtain⟨s,rfl,rfl⟩:=L.str_inv;refine⟨s.size,s.data.toList.map λb=> .int .u8 b.toNat,rfl,λi H=> ?_,V2, ?_,λI l h=> ?_⟩
   .simp only[Hp.slice,if_true,cZ]
    simp_all
   .simp only[More.cellsOf,fc,fZ];generalize s.data.toList=l;induction l with
    |nil=>exact .nil
    |cons b l V=>exact .cons (.int _ _) V
   .injection h with t r
    subst t;cases r;exact⟨rfl,(xZ s).symm⟩
 case lst s l=>
  cases g:aB es s.w with
  |false=>rw[g]at h;cases h
  |true=>
   rw[g]at h;have g:=aD g;subst g;injection h with h;subst h
   refine⟨l.length, ?_⟩;rcases L.listAt with⟨W,rfl,rfl,P⟩|⟨b,p,X,x,rfl,t,r,D,C,B⟩
   .refine⟨[],rfl,λi H=> ?_,V2, .nil,λI l h=>by injection h with t r;subst t;cases r;exact⟨rfl,rfl⟩⟩;have:i=0:=by simp at H;exact H
    subst this;cases W with
    |none=>simp[Hp.slice]
    |some z=>
     have:=P z rfl;obtain⟨zb,zo,zs⟩:=z;simp only at this;subst this;simp[Hp.slice]
   .refine⟨(x.cells.drop p).take<|l.length*s.w,rfl,λi H=> ?_,by rw[<-B.length,gP],B,λI N h=>by injection h with t r;subst t;cases r;exact⟨rfl,rfl⟩⟩;by_cases K:i=0
    .subst K;simp[Hp.slice]
    simp only[Hp.slice,t,zF K];exact Pq C (cR _ H)
 case full q=>
  cases L with
  |full U _ J=>
   cases u:ag c.S q with
   |dead=>rw[u]at h;cases h
   |arr s z l=>
    rw[u]at h;cases g:aB es s.w with
    |false=>simp only[g]at h;cases h
    |true=>
     simp only[g]at h;have g:=aD g;subst g;injection h with h;subst h
     have f:(ag c.S q).dim=O (s.w,l.length*s.w):=by rw[u];rfl
     obtain⟨n,t,r⟩:=J _ f;have:n=l.length:=cM (nA s) t;subst this;obtain⟨j,D,C,B,A⟩:=HJ M f rfl r;rw[u,dB,cW,cP (by simp[Blk.vals,gP])]at A;exact⟨_,j,D,C,B,A,λI N h=>by injection h with t r;subst t;cases r;exact⟨rfl,rfl⟩⟩
   |cells E z l=>
    rw[u]at h;cases g:(aB es E&&cQ 1 es)with
    |false=>simp only[g]at h;cases h
    |true=>
     simp only[g]at h;rw[bB]at g;have F:=aD g.1;subst F;injection h with h;subst h
     have f:(ag c.S q).dim=O (es,l.length):=by rw[u];rfl
     obtain⟨n,t,r⟩:=J _ f;obtain⟨j,D,C,B,A⟩:=HJ M f rfl r;simp only at t;rw[u,dB,cW,t,cP (by exact bD _)]at A;exact⟨_,j,D,C,B,A,λI N h=>by cases h⟩
 case part q o n=>
  cases L with
  |part U _ J=>
   cases u:ag c.S q with
   |dead=>rw[u]at h;cases h
   |arr s z l=>
    rw[u]at h;cases g:aB es s.w with
    |false=>simp only[g]at h;cases h
    |true=>
     simp only[g]at h;have g:=aD g;subst g;injection h with h;subst h
     have f:(ag c.S q).dim=O (s.w,l.length*s.w):=by rw[u];rfl
     have r:=J _ f;obtain⟨j,D,C,B,A⟩:=HJ M f rfl r;rw[u]at A;simp only[Blk.vals]at A;rw[<-Bl,<-kR]at A
     have Q:n=((l.drop o).take n).length:=by
      have:=A.length;rw[gP,B]at this;exact(cM (nA s) this).symm
     exact⟨_,j,D,C,B,A,λI N h=>by injection h with t r;subst t;cases r;exact⟨rfl,Q⟩⟩
   |cells E z l=>
    rw[u]at h;cases g:(aB es E&&cQ 1 es)with
    |false=>simp only[g]at h;cases h
    |true=>
     simp only[g]at h;rw[bB]at g;have F:=aD g.1;subst F;injection h with h;subst h
     have f:(ag c.S q).dim=O (es,l.length):=by rw[u];rfl
     have r:=J _ f;obtain⟨j,D,C,B,A⟩:=HJ M f rfl r;rw[u]at A;exact⟨_,j,D,C,B,A,λI N h=>by cases h⟩
def Base.cellsOf :Base->List VV
 | .none=>[]
 | .cells _ l=>l
 | .arr s l=>fZ s l
structure BaseAt (c:Ctx)(es sl:Nat)(base:Base)(kill:Option Nat)(a:Value):Prop where
 no:kill=Y->a= .slice Y 0 0/\sl=0/\base= .none
 yes: ∀q,kill=O q->∃dm,(ag c.S q).dim=O dm/\dm.1=es/\(ag c.S q).frozen=Zb/\I7 c q 0 sl dm a/\base.cellsOf=(ag c.S q).vals.take (sl*es)
 es: ∀e l,base= .cells e l->e=es/\1<=es
def Et {dm:Nat×Nat}(h:blk.dim=O dm):ft blk.vals=dm.2:=by
 cases blk with
 |dead=>cases h
 |cells f z l=>cases h;rfl
 |arr s z l=>cases h;exact gP
def aj0 {es:Nat}{v:VV}{r:Base}{kill:Option Nat}(M:Rel c)(h:CM c.S es v=O (r,kill))(D:VRel c v a): ∃sl,BaseAt c es sl r kill a/\ft r.cellsOf=sl*es/\(∀s l,r= .arr s l->es=s.w/\sl=ft l):=by
 cases v<;>try(cases h;done)
 case nils=>
  simp only[CM]at h;injection h with h
  injection h with j g
  subst j;subst g;cases D;exact⟨0,⟨λ_=>⟨rfl,rfl,rfl⟩,(λq h=>by cases h),(λe l h=>by cases h)⟩,by simp[Base.cellsOf],λs l h=>by cases h⟩
 case full q=>
  simp only[CM]at h;cases D with
  |full K _ C=>
   cases o:ag c.S q with
   |dead=>rw[o]at h;cases h
   |arr s z l=>
    rw[o]at h;cases z with
    |true=>cases h
    |false=>
     simp only at h;cases m:aB es s.w with
     |false=>rw[m]at h;cases h
     |true=>
      rw[m]at h;have m:=aD m;subst m;injection h with h
      injection h with j g
      subst j;subst g;have f:(ag c.S q).dim=O (s.w,ft l*s.w):=by rw[o];rfl
      have⟨n,j,g⟩:=C _ f;have:n=ft l:=cM (nA s) j;subst this;refine⟨ft l,⟨(λh=>by cases h),λF h=> ?_,(λe l h=>by cases h)⟩,gP,λH E h=>by injection h with j g;subst j;cases g;exact⟨rfl,rfl⟩⟩;cases h;refine⟨_,f,rfl,by rw[o];rfl,g, ?_⟩;rw[o];exact(cP (by rw[show(Base.arr s l).cellsOf=fZ s l from rfl,gP];exact bD _)).symm
   |cells u z l=>
    rw[o]at h;cases z with
    |true=>cases h
    |false=>
     simp only at h;cases m:(aB es u&&cQ 1 es)with
     |false=>rw[m]at h;cases h
     |true=>
      rw[m]at h;rw[bB]at m;have B:=aD m.1;subst B;injection h with h
      injection h with j g
      subst j;subst g;have f:(ag c.S q).dim=O (es,ft l):=by rw[o];rfl
      have⟨n,j,g⟩:=C _ f;simp only at j;refine⟨n,⟨(λh=>by cases h),λF h=> ?_,λe l h=>by injection h with j g;exact⟨j.symm,cD m.2⟩⟩,j.symm,λH E h=>by cases h⟩;cases h;refine⟨_,f,rfl,by rw[o];rfl,g, ?_⟩;rw[o,j];exact(cP<|bD _).symm
 case part q I n=>
  cases I with
  |succ I=>cases h
  |zero=>
   simp only[CM]at h;cases D with
   |part K _ C=>
    cases o:ag c.S q with
    |dead=>rw[o]at h;cases h
    |arr s z l=>
     rw[o]at h;cases z with
     |true=>cases h
     |false=>
      simp only at h;cases m:aB es s.w with
      |false=>rw[m]at h;cases h
      |true=>
       rw[m]at h;have m:=aD m;subst m;injection h with h
       injection h with j g
       subst j;subst g;have f:(ag c.S q).dim=O (s.w,ft l*s.w):=by rw[o];rfl
       have g:=C _ f
       have L:n<=ft l:=by
        rcases g with⟨_,_,A,_,_⟩|⟨b,J,x,_,_,A,_⟩
        .omega
        rw[cN]at A;exact dF A (nA s)
       have t:ft (l.take n)=n:=by rw[cK];omega
       refine⟨n,⟨(λh=>by cases h),λF h=> ?_,(λe l h=>by cases h)⟩,by simp only[Base.cellsOf];rw[gP,t],λH E h=>by injection h with j g;subst j;cases g;exact⟨rfl,t.symm⟩⟩;cases h;refine⟨_,f,rfl,by rw[o];rfl,g, ?_⟩;rw[o];exact kR
    |cells u z l=>
     rw[o]at h;cases z with
     |true=>cases h
     |false=>
      simp only at h;cases m:(aB es u&&cQ 1 es)with
      |false=>rw[m]at h;cases h
      |true=>
       rw[m]at h;rw[bB]at m;have B:=aD m.1;subst B;injection h with h
       injection h with j g
       subst j;subst g;have f:(ag c.S q).dim=O (es,ft l):=by rw[o];rfl
       have g:=C _ f
       have L:n*es<=ft l:=by
        rcases g with⟨_,_,A,_,_⟩|⟨b,J,x,_,_,A,_⟩
        .subst A;simp
        rwa [cN]at A
       refine⟨n,⟨(λh=>by cases h),λF h=> ?_,λe l h=>by injection h with j g;exact⟨j.symm,cD m.2⟩⟩,by simp only[Base.cellsOf];rw[cK];omega,λH E h=>by cases h⟩;cases h;exact⟨_,f,rfl,by rw[o];rfl,g,by rw[o];rfl⟩
theorem aH4 {vs cs:List Value}(h:ft cs=ft vs):lq cs 0 vs=vs:=by
 induction vs generalizing cs with
 |nil=>simp only[lq];exact dl.1 h
 |cons v vs j=>
  cases cs with
  |nil=>simp at h
  |cons a cs=>
   have f:ft cs=ft vs:=by simpa using h
   show lq ((a::cs).set 0 v) (0+1) vs=_;have g:=By vs [v] cs 0
   grind
def Ug {vs cs:List Value}{p:Nat}(h:p+ft vs<=ft cs):lq cs p vs=cs.take p++(vs++cs.drop (p+ft vs)):=by
 have:=PJ (vs:=vs) (cs:=cs) (p:=p) (o:=0) (w:=ft vs) V1 h;rw[Nat.add_zero,aH4 (by rw[cK,cS];omega)]at this;exact this
def Ta {x z:Ab.Blk}{b i:Nat}(h:((Z.set b Y).add x).m i=O z):i=Z.n∨(i≠b/\Z.m i=O z):=by
 by_cases j:i=Z.n
 .exact .inl j
 refine .inr ?_;have o:((Z.set b Y).add x).m i=(Z.set b Y).m i:=zF j;rw[o]at h;by_cases f:i=b
 .have g:(Z.set b Y).m i=Y:=zE f;rw[g]at h;cases h
 have g:(Z.set b Y).m i=Z.m i:=zF f;exact⟨f,g▸h⟩
def UV {x:Ab.Blk}{b i:Nat}(f:i≠Z.n)(h:i≠b):((Z.set b Y).add x).m i=Z.m i:=by
 have g:((Z.set b Y).add x).m i=(Z.set b Y).m i:=zF f;have j:(Z.set b Y).m i=Z.m i:=zF h;exact g.trans j
structure Grown (c:Ctx)(base more:List VV)(es n:Nat)(blk:Blk):Prop where
 dim:blk.dim=O (es,n*es)
 fz:blk.frozen=Zb
 rel: ∀bs ms,F2 (VRel c) base bs->F2 (VRel c) more ms->F2 (VRel c) blk.vals (bs++ms)
theorem tC {c1:Ctx}{es bytes sl n:Nat}{C:Base}{kill:Option Nat}{W:List VV}{s:Operand}{all:List Value}(u:Rel c1)(hS:rQ c.S c1.S)(hμ:c1.μ=c.μ)(E:c1.Z=c.Z)(hle:Le c c1)(hcalm:vN d c c1)
  (w:1<=es) (hb:BaseAt c es sl C kill<|ea.ev s) (I: ∀q,kill=O q->(ag c1.S q).frozen=Zb)
  (B: ∀a sl' sc,ea.ev s= .slice a sl' sc->op.run ea c.Z=pF es bytes c.Z a sl' sc n all) (h3:all.length=n*es) (h4:F2 (VRel c1) W all) (h5:all.all one=Za) (A:Grown c1 C.cellsOf W es (sl+n) blk)
  (hf:dh (sl+n) bytes=Za) (hd: ∀q,kill=O q->q∈d) (hk:k (.full c1.S.length) (rr c1.S kill++[blk])=O y):cg T op ea c.Z<|i6 c d k y:=by
 have Q:(sl+n)*bytes<=140737488355328/\sl+n<=9223372036854775807:=by
  unfold dh at hf;rw[bB]at hf;have g1:=of_decide_eq_true hf.1;have g2:=cD hf.2;refine⟨g1, ?_⟩;have:(sl+n)*1<=(sl+n)*bytes:=dH _ g2;omega
 have hnew:all=[]->n=0:=by
  intro h;subst h;simp only[cT]at h3;rcases cY n with h|h
  .exact h
  .have:=dA h w;omega
 have t: ∀{v:Value} {Z':Hp} {b1:Option Nat},Moves c1 kill b1 blk Z'->VRel ⟨yk c1 b1,rr c1.S kill++[blk],Z',c1.fb⟩ (.full c1.S.length) v->i6 c d k y v Z':=by
  intro v Z' b1 hm hv;exact⟨_,_,rfl,hle.trans<|hm.le u,hm.rel u,hcalm.trans (hm.calm u hd) hle,hv,hk⟩
 cases kill with
 |none=>
  obtain⟨K,e2,e3⟩:=hb.no rfl;subst e2;subst e3;by_cases U:n=0
  .subst U;have:all=[]:=by simpa using h3
   subst this;have o:Moves c1 Y Y blk c1.Z:=⟨(λ_ h=>by cases h),(λ_ h=>by cases h),u.ok,bD _,λ_ _ h _=>h,_,A.dim,w, .inl ⟨rfl,V2⟩⟩;refine cy (v:= .slice Y 0 0) (Z':=c.Z) ?_ ?_
   .rw[B _ _ _ K];rfl
   .rw[<-E];refine t o<|.full (by simp[rr]) rfl λd' g=> ?_;simp only[kD,if_true]at g;rw[A.dim]at g;injection g with g
    subst g;exact⟨0,V2, .inl ⟨rfl,rfl,rfl,by simp[yk],V2⟩⟩
  .have o:=Xz u (blk:=blk) (x:=⟨all,Za,es⟩) A.dim w rfl rfl (by have:=A.rel [] all .nil h4;simpa using this);refine cy (v:= .slice (O ⟨c.Z.n,0,Y⟩) n n) (Z':=c.Z.add ⟨all,Za,es⟩) ?_ ?_
   .rw[B _ _ _ K];unfold pF
    grind
   .rw[<-E];refine t o<|Br (yb:=⟨all,Za,es⟩) A.dim V2 (bD _) (zE rfl) ?_;show n*es<=all.length;omega
 |some q=>
  obtain⟨f,g1,g2,g3,g4,g5⟩:=hb.yes q rfl;subst g2;have F:(ag c1.S q).dim=O f:=by rw[hS.dim];exact g1
  have N:(ag c1.S q).vals=(ag c.S q).vals:=hS.vals q;rcases g4 with⟨K,_,e2,e3,e4⟩|⟨b,cp,yb,K,e3,e4,e5,e6,e7⟩
  .subst e2;have hbase:C.cellsOf=[]:=by rw[g5];simp
   by_cases U:n=0
   .subst U;have:all=[]:=by simpa using h3
    subst this;have o:Moves c1 (O q) Y blk c1.Z:=⟨(λ_ h=>by cases h),(λ_ h=>by injection h with h;subst h;exact I q rfl),u.ok,bD _,λ_ _ h _=>h,_,A.dim,w, .inl ⟨rfl,V2⟩⟩;refine cy (v:= .slice Y 0 0) (Z':=c.Z) ?_ ?_
    .rw[B _ _ _ K];rfl
    .rw[<-E];refine t o<|.full (by simp[Au]) rfl λd' g=> ?_;simp only[kD,if_true]at g;rw[A.dim]at g;injection g with g
     subst g;exact⟨0,V2, .inl ⟨rfl,rfl,rfl,by simp[yk],V2⟩⟩
   .have o:Moves c1 (O q) (O c1.Z.n) blk<|c1.Z.add ⟨all,Za,f.1⟩:=by
     have L:=Xz u (blk:=blk) (x:=⟨all,Za,f.1⟩) A.dim w rfl rfl (by have:=A.rel [] all (by rw[hbase];exact .nil) h4;simpa using this);refine⟨L.fr,(λ_ h=>by injection h with h;subst h;exact I q rfl),L.ok,L.n,λi z r _=>L.old i z r (λ⟨_,h,_⟩=>by cases h), ?_⟩;obtain⟨dd,k1,k2,k3⟩:=L.one;refine⟨dd,k1,k2, ?_⟩;rcases k3 with k3|⟨b',y',D,X,k3,k4,k5,k6,k7,k8,k9⟩
     .exact .inl k3
     .refine .inr ⟨b',y',D,X,k3,k4,k5,k6,k7,k8, .inl ?_⟩;rcases k9 with k9|⟨_,k9,_⟩
      .exact k9
      .cases k9
    refine cy (v:= .slice (O ⟨c.Z.n,0,Y⟩) n n) (Z':=c.Z.add ⟨all,Za,f.1⟩) ?_ ?_
    .rw[B _ _ _ K];unfold pF
     grind
    .rw[<-E];refine t o<|Br (yb:=⟨all,Za,f.1⟩) A.dim V2 (bD _) (zE rfl) ?_;show n*f.1<=all.length;omega
  .rw[dB]at K;rw[cN]at e4 e7;have M:c1.μ q=O b:=by rw[hμ];exact e3
   obtain⟨yb',D,X,f1,f2,f3,f4,f5⟩:=u.block F M;rw[E]at f1;rw[e6]at f1;injection f1 with f1
   subst f1;have J:=f3<|I q rfl;have hcl:D.length=f.2:=by rw[<-f5.length];exact Et F
   have hbs:F2 (VRel c1) C.cellsOf<|D.take<|sl*f.1:=by rw[g5,<-N];exact f5.take _
   have V:=A.rel _ _ hbs h4;have P:yb.cells.take (sl*f.1)=D.take (sl*f.1):=by rw[f4,dE V1]
   have hcp:sl*f.1<=cp*f.1:=cR _ e5;by_cases j:sl+n<=cp
   .have hroom':sl*f.1+n*f.1<=cp*f.1:=by rw[<-cL];exact cR _ j
    have hset:lq yb.cells (sl*f.1) all=D.take (sl*f.1)++(all++yb.cells.drop (sl*f.1+all.length)):=by rw[Ug V1,P]
    have mk: ∀Z':Hp,Z'.Ok->Z'.n=c1.Z.n->(∀i,i≠b->Z'.m i=c1.Z.m i)->Z'.m b=O ⟨lq yb.cells (sl*f.1) all,Za,yb.es⟩->Moves c1 (O q) (O b) blk Z':=by
     intro Z' ho U hm hb';refine⟨(λb' h r _=>by injection h with h;subst h;exact r _ (by rw[E];exact e6)),(λ_ h=>by injection h with h;subst h;exact I q rfl),ho,V1,λi z r hK=> ?_,(f.1,(sl+n)*f.1),A.dim,w, .inr ⟨b,_,D.take (sl*f.1)++all,yb.cells.drop<|sl*f.1+all.length,rfl,hb',f2,λ_=>rfl,by show lq _ _ _=_;rw[hset,cV],V, .inr ⟨q,rfl,M⟩⟩⟩;have:i≠b:=by rintro rfl;exact hK ⟨q,rfl,M⟩
     rw[hm i this];exact r
    have H: ∀Z':Hp,Z'.m b=O ⟨lq yb.cells (sl*f.1) all,Za,yb.es⟩->VRel ⟨yk c1<|O b,rr c1.S (O q)++[blk],Z',c1.fb⟩ (.full c1.S.length) (.slice (O ⟨b,0,Y⟩) (sl+n) cp):=by
     intro Z' hb';refine Br A.dim rfl j hb' ?_
     grind
    by_cases U:all=[]
    .have hself:yb=⟨lq yb.cells (sl*f.1) all,Za,yb.es⟩:=by
      subst U;cases yb;simp only[lq]at*;simp[J]
     refine cy (v:= .slice (O ⟨b,0,Y⟩) (sl+n) cp) (Z':=c.Z) ?_ ?_
     .rw[B _ _ _ K];unfold pF;rw[zE j];simp[U]
     .rw[<-E];have e6':c1.Z.m b=O ⟨lq yb.cells (sl*f.1) all,Za,yb.es⟩:=by rw[<-hself,E];exact e6
      exact t (mk c1.Z u.ok rfl (λ_ _=>rfl) e6') (H _ e6')
    .refine cy (v:= .slice (O ⟨b,0,Y⟩) (sl+n) cp) (Z':=c.Z.set b<|O ⟨lq yb.cells (sl*f.1) all,Za,yb.es⟩) ?_ ?_
     .rw[B _ _ _ K];unfold pF;rw[zE j];simp only[U,if_false,e6,cN];rw[HP J V1 h5]
     .rw[<-E];refine t (mk _ (λi z r=> ?_) rfl (λi hi=>by simp[Hp.set,hi]) Zy)<|H _ Zy;simp only[Hp.set]at r;split at r
      .rename_i e;subst e;exact u.ok _ _ (by rw[E];exact e6)
      .exact u.ok _ _ r
   .have o:Moves c1 (O q) (O c1.Z.n) blk<|(c1.Z.set b Y).add ⟨D.take (sl*f.1)++all,Za,f.1⟩:=by
     refine⟨(λb h _ hb=>by injection h with h;subst h;exact Nat.lt_irrefl _<|u.fbl _ hb),(λ_ h=>by injection h with h;subst h;exact I q rfl),λi z r=> ?_,Nat.le_succ _,λi z r hK=> ?_,(f.1,(sl+n)*f.1),A.dim,w, .inr ⟨c1.Z.n,_,D.take (sl*f.1)++all,[],rfl,zE rfl,rfl,λ_=>rfl,V2,V, .inl λz r=> ?_⟩⟩
     .show i<c1.Z.n+1;rcases Ta r with L|⟨_,L⟩
      .omega
      .have:=u.ok i z L;omega
     .have L:i≠b:=by rintro rfl;exact hK ⟨q,rfl,M⟩
      have h9:=u.ok i z r;rw[UV V1 L];exact r
     .have:=u.ok _ _ r;omega
    refine cy (v:= .slice (O ⟨c.Z.n,0,Y⟩) (sl+n)<|sl+n) (Z':=(c.Z.set b Y).add ⟨D.take (sl*f.1)++all,Za,f.1⟩) ?_ ?_
    .rw[B _ _ _ K];unfold pF;rw[zF j,zE ⟨Q.1,Q.2,h5⟩];simp only[e6];rw[zE ⟨J,f2⟩]
     have:rz yb 0 (sl*f.1)=O (D.take<|sl*f.1):=by
      unfold rz
      grind
     rw[this]
    .rw[<-E];refine t o (Br (yb:=⟨D.take (sl*f.1)++all,Za,f.1⟩) A.dim rfl (bD _) (zE rfl) ?_)
     grind
def LS {S:ak}{cs:List VV}{l:List<|El s}{c1:Ctx}(f:Rel c1)(g:c1.S=S)(h:ag2 S s cs=O l):ft cs=ft l*s.w/\∀as,F2 (VRel c1) cs as->F2 (VRel c1) (fZ s l) as:=by
 subst g;exact K9 (ku f s) _ _ _ h
def N9 (hR:Rel c)(he:ba c e ea){es bytes:Nat}{s:Operand}{mo:Option More}(hd: ∀q,Bg (ev e s)=O q->q∈d)(h:Nd c.S es bytes (CM c.S es<|ev e s) mo k=O y)
  (hm: ∀m,mo=O m->∃n all,(∀a sl' sc,ea.ev s= .slice a sl' sc->op.run ea c.Z=pF es bytes c.Z a sl' sc n all)/\all.length=n*es/\F2 (VRel c) m.cellsOf all/\(∀s l,m= .lst s l->es=s.w/\n=l.length)):cg T op ea c.Z<|i6 c d k y:=by
 have hs:=cm he s;unfold Nd at h;cases f:CM c.S es (ev e s)with
 |none=>rw[f]at h;cases h
 |some p=>
  obtain⟨U,o⟩:=p;cases mo with
  |none=>rw[f]at h;cases U<;>cases h
  |some m=>
   obtain⟨sl,P,u,hba⟩:=aj0 hR f hs;obtain⟨n,all,C,N,t,h5⟩:=hm m rfl
   have B: ∀q,o=O q->q∈d:=by
    intro q hq;refine hd q ?_;subst hq;cases hv:ev e s<;>rw[hv]at f<;>try(cases f;done)
    case full b=>
     simp only[CM]at f;split at f
     .rename_i s' l hbb;cases v:aB es s'.w with
      |false=>rw[v]at f;cases f
      |true=>rw[v]at f;simp only[zC,ez,fq]at f;rw[<-f.2];rfl
     .rename_i W l hbb;cases v:(aB es W&&cQ 1 es)with
      |false=>rw[v]at f;cases f
      |true=>rw[v]at f;simp only[zC,ez,fq]at f;rw[<-f.2];rfl
     .cases f
    case part b lo m=>
     cases lo with
     |succ lo=>cases f
     |zero=>
      simp only[CM]at f;split at f
      .rename_i s' l hbb;cases v:aB es s'.w with
       |false=>rw[v]at f;cases f
       |true=>rw[v]at f;simp only[zC,ez,fq]at f;rw[<-f.2];rfl
      .rename_i W l hbb;cases v:(aB es W&&cQ 1 es)with
       |false=>rw[v]at f;cases f
       |true=>rw[v]at f;simp only[zC,ez,fq]at f;rw[<-f.2];rfl
      .cases f
   have Q: ∀q,o=O q->(ag c.S q).frozen=Zb:=by
    intro q hq;obtain⟨_,_,_,h,_⟩:=P.yes q hq;exact h
   rw[f]at h;have j: ∀(c1:Ctx) (l:List VV),F2 (VRel c1) l all->pE l=Za->all.all one=Za:=λc1 l h1 h2=>kP h1 h2
   cases U with
   |arr s' l=>
    obtain⟨g1,H⟩:=hba s' l rfl;subst g1;cases m with
    |lst s2 l'=>
     simp only at h;obtain⟨l2,k1,k2⟩:=ai h;obtain⟨ee,k3⟩:=lV k1;cases ee;subst k3;obtain⟨r,M⟩:=az k2;obtain⟨_,D⟩:=h5 _ _ rfl;refine tC hR (rQ.refl _) rfl rfl (Le.refl c) (vN.refl d c) (nA _) P Q C N t (j c _ t<|tH _ _) ⟨?_,rfl,λbs ms E F=> ?_⟩ (by rw[H,D];exact r) B M
     .simp only[Blk.dim,cB,H,D]
     .simp only[Blk.vals];rw[At];exact E.append F
    |cells A=>
     simp only at h;split at h
     .rename_i s3 l3 K;obtain⟨l2,k1,k2⟩:=ai h;obtain⟨r,M⟩:=az k2;have g:=HA c.S A;have J:Rel ⟨c.μ,Ja c.S A,c.Z,c.fb⟩:=g.rel hR;obtain⟨D,k7⟩:=LS J rfl k1;have I:F2 (VRel ⟨c.μ,Ja c.S A,c.Z,c.fb⟩) A all:=VRel.frames g.le t
      have k8:n=l2.length:=by
       have:=t.length;simp only[More.cellsOf]at this;rw[D,N]at this;exact(cM (nA _) this).symm
      have L: ∀q,o=O q->(ag (Ja c.S A) q).frozen=Zb:=by
       intro q hq;subst hq;simp only[dI]at K;rw[K];rfl
      refine tC (c1:=⟨c.μ,Ja c.S A,c.Z,c.fb⟩) J g rfl rfl g.le (g.calm d) (nA _) P L C N I (j _ _ (k7 _ I)<|tH _ _) ⟨?_,rfl,λbs ms E F=> ?_⟩ (by rw[H,k8];exact r) B M
      .simp only[Blk.dim,cB,H,k8]
      .simp only[Blk.vals];rw[At];exact E.append (k7 _ F)
     .cases h
   |cells X l=>
    obtain⟨g1,H⟩:=P.es _ _ rfl;subst g1;cases m with
    |lst s2 l'=>
     simp only at h;obtain⟨w1,w2⟩:=h5 _ _ rfl;subst w1;split at h
     .rename_i s3 l3 K;obtain⟨l1,k1,k2⟩:=ai h;obtain⟨r,M⟩:=az k2;have g:=HA c.S l;have J:Rel ⟨c.μ,Ja c.S l,c.Z,c.fb⟩:=g.rel hR;obtain⟨D,k7⟩:=LS J rfl k1;have I:F2 (VRel ⟨c.μ,Ja c.S l,c.Z,c.fb⟩) (fZ s2 l') all:=VRel.frames g.le t
      have k8:sl=l1.length:=by
       simp only[Base.cellsOf]at u;rw[D]at u;exact(cM (nA _) u).symm
      have L: ∀q,o=O q->(ag (Ja c.S l) q).frozen=Zb:=by
       intro q hq;subst hq;simp only[dI]at K;rw[K];rfl
      refine tC (c1:=⟨c.μ,Ja c.S l,c.Z,c.fb⟩) J g rfl rfl g.le (g.calm d) (nA _) P L C N I (j _ _ I<|tH _ _) ⟨?_,rfl,λbs ms E F=> ?_⟩ (by rw[w2,k8];exact r) B M
      .simp only[Blk.dim,cB,w2,k8]
      .simp only[Blk.vals];rw[At];exact(k7 _ E).append F
     .cases h
    |cells A=>
     simp only at h;obtain⟨r,M⟩:=az h;rw[bB]at r;simp only[Base.cellsOf]at u;simp only[More.cellsOf]at t;have D:A.length=n*X:=by rw[t.length];exact N
     refine tC (blk:= .cells X Zb<|l++A) hR (rQ.refl _) rfl rfl (Le.refl c) (vN.refl d c) H P Q C N t (j c _ t r.2) ⟨?_,rfl,λbs ms E F=>F2.append (l:=l) E F⟩ ?_ B M
     .simp only[Blk.dim,cB,u,D,cL]
     .have:(l.length+A.length) / X=sl+n:=by rw[u,D,<-cL,dG _ H]
      rw[<-this];exact r.1
   |none=>
    have hsl:o=Y->sl=0:=λv=>(P.no v).2.1
    have V: ∀(q:Nat),1<=es->sl=0:=by
     intro _ v;simp only[Base.cellsOf,cT]at u;rcases cY sl with h|h
     .exact h
     .have:=dA h v;omega
    cases m with
    |lst s2 l'=>
     simp only at h;obtain⟨w1,w2⟩:=h5 _ _ rfl;subst w1;have hz:=V 0<|nA _;subst hz;obtain⟨r,M⟩:=az h;refine tC hR (rQ.refl _) rfl rfl (Le.refl c) (vN.refl d c) (nA _) P Q C N t (j c _ t<|tH _ _) ⟨?_,rfl,λbs ms E F=> ?_⟩ (by rw[w2];exact r) B M
     .simp only[Blk.dim,cB,w2,cT]
     .cases E;exact F
    |cells A=>
     simp only at h;obtain⟨r,M⟩:=az h;rw[bB,bB]at r;have H:=cD r.1.2;have hz:=V 0 H;subst hz;simp only[More.cellsOf]at t;have D:A.length=n*es:=by rw[t.length];exact N
     refine tC (blk:= .cells es Zb A) hR (rQ.refl _) rfl rfl (Le.refl c) (vN.refl d c) H P Q C N t (j c _ t r.2) ⟨?_,rfl,λbs ms E F=>by cases E;exact F⟩ ?_ B M
     .simp only[Blk.dim,D,cN]
     .have:A.length / es=0+n:=by rw[D,dG _ H,cN]
      rw[<-this];exact r.1.1
theorem ar8 {l:List<|El s}{bytes n:Nat}{all:List Value}(E:VRel c (.tgt s l) a)(I:ft all=n*s.w)(H:1<=n)(A:all.all one=Za)(g:dh (ft l+n) bytes=Za):
  ∃p q old,a= .slice p (ft l) q/\F2 (VRel c) (fZ s l) old/\pF s.w bytes c.Z p (ft l) q n all=O (.slice (O ⟨c.Z.n,0,Y⟩) (ft l+n)<|ft l+n,c.Z.add ⟨old++all,Za,s.w⟩):=by
 have f:(ft l+n)*bytes<=140737488355328/\ft l+n<=9223372036854775807:=by
  unfold dh at g;rw[bB]at g;have t:=of_decide_eq_true g.1;have u:=cD g.2;refine⟨t, ?_⟩;have:(ft l+n)*1<=(ft l+n)*bytes:=dH _ u;omega
 cases E with
 |tgtn D=>
  simp only[cT,cN]at f⊢;rcases D with rfl|⟨b,o,rfl⟩
  .refine⟨Y,0,[],rfl, .nil, ?_⟩;unfold pF
   grind
  .refine⟨_,0,[],rfl, .nil, ?_⟩;unfold pF
   grind
 |tgt J F B v j=>
  rename_i b p r;by_cases m:l=[]
  .subst m;simp only[cT,cN]at f⊢;refine⟨_,0,[],rfl, .nil, ?_⟩;unfold pF
   grind
  .have C:(ft l)≠0:=λh=>m (List.eq_nil_of_length_eq_zero h)
   refine⟨_,_,_,rfl,j, ?_⟩;unfold pF;rw[Zh,zE ⟨f.1,f.2,A⟩];simp only[C,if_false,F,B,if_true]
   have:rz r p (ft l*s.w)=O ((r.cells.drop p).take<|ft l*s.w):=by
    unfold rz;rw[zE v]
   rw[this]
def PQ {c1:Ctx}{bytes n:Nat}{l m:List<|El s}{I:Operand}{all:List Value}(u:Rel c1)(F:c1.Z=c.Z)(o:Le c c1)(g:vN d c c1)
  (Q:VRel c1 (.tgt s l)<|ea.ev I) (A: ∀a t B,ea.ev I= .slice a t B->op.run ea c.Z=pF s.w bytes c.Z a t B n all) (E:all.length=n*s.w) (N:F2 (VRel c1) (fZ s m) all) (P:all.all one=Za) (H:n=m.length) (M:1<=n)
  (h:grow c1.S bytes s Y l m k=O y):cg T op ea c.Z<|i6 c d k y:=by
 unfold grow at h;obtain⟨D,L⟩:=az h;rw[<-H]at D;obtain⟨p,B,f,J,C,K⟩:=ar8 Q E M P D;have r:F2 (VRel c1) (fZ s<|l++m)<|f++all:=by rw[At];exact C.append N
 have j:=Xz u (blk:= .arr s Zb<|l++m) (x:=⟨f++all,Za,s.w⟩) (d:=(s.w,(l++m).length*s.w)) rfl (nA s) rfl rfl r;refine cy (v:= .slice (O ⟨c.Z.n,0,Y⟩) (l.length+n)<|l.length+n) (Z':=c.Z.add ⟨f++all,Za,s.w⟩) ?_ ?_
 .rw[A _ _ _ J,<-F,K]
 .rw[<-F];refine⟨_,_,rfl,o.trans<|j.le u,j.rel u,g.trans (j.calm u (λq h=>by cases h)) o, ?_,L⟩;refine Br (yb:=⟨f++all,Za,s.w⟩) (dm:=(s.w,(l++m).length*s.w)) rfl (by simp[H]) (bD _) (zE rfl) ?_;show(l.length+n)*s.w<=(f++all).length;rw[cB,<-C.length,gP,E,cL];exact bD _
def aI7 (L:Rel c)(W:ba c e ea){es bytes:Nat}{l:List<|El s}{I:Operand}{H:Option More}(hs:ev e I= .tgt s l)(h:YX c.S es bytes s l H k=O y)
  (X: ∀m,H=O m->∃n f,(∀a u Q,ea.ev I= .slice a u Q->op.run ea c.Z=pF es bytes c.Z a u Q n f)/\f.length=n*es/\F2 (VRel c) m.cellsOf f/\(∀s l,m= .lst s l->es=s.w/\n=l.length)):cg T op ea c.Z<|i6 c d k y:=by
 have C:=cm W I;rw[hs]at C;unfold YX at h;cases H with
 |none=>cases h
 |some m=>
  obtain⟨n,f,t,B,v,V⟩:=X m rfl;cases m with
  |lst s' l'=>
   simp only at h;obtain⟨P,D,E⟩:=ai h;obtain⟨U,k3⟩:=lV D;cases U;subst k3;obtain⟨j,F⟩:=az E;rw[bB]at j;have J:=aD j.1;have K:=cD j.2;subst J;obtain⟨_,A⟩:=V _ _ rfl;exact PQ L rfl (Le.refl c) (vN.refl d c) C t B v (kP v<|tH _ _) A (by rw[A];exact K) F
  |cells o=>
   simp only at h;obtain⟨P,D,E⟩:=ai h;obtain⟨j,F⟩:=az E;rw[bB]at j;have J:=aD j.1;have K:=cD j.2;subst J;have g:=HA c.S o;have r:Rel ⟨c.μ,Ja c.S o,c.Z,c.fb⟩:=g.rel L;obtain⟨A,M⟩:=LS r rfl D;have q:F2 (VRel ⟨c.μ,Ja c.S o,c.Z,c.fb⟩) o f:=VRel.frames g.le v
   have N:n=P.length:=by
    have:=v.length;simp only[More.cellsOf]at this;rw[A,B]at this;exact(cM (nA _) this).symm
   exact PQ (c1:=⟨c.μ,Ja c.S o,c.Z,c.fb⟩) r rfl g.le (g.calm d) (C.frame g.le) t B (M _ q) (kP (M _ q)<|tH _ _) N (by rw[N];exact K) F
def W8 (u:Rel c){v:VV}{S1:ak}{l:List<|El s}(h:PP c.S v=O (S1, .arr s l))(r:VRel c v a):rQ c.S S1/\VRel ⟨c.μ,S1,c.Z,c.fb⟩ (.lst s l) a:=by
 unfold PP at h;split at h
 .simp only[ez,fq,Base.arr.injEq]at h;obtain⟨m,rfl,f⟩:=h;have f:=eq_of_heq f;subst m;subst f;exact⟨rQ.refl _,r⟩
 .rename_i q;split at h
  .rename_i t z A n;simp only[ez,fq,Base.arr.injEq]at h;obtain⟨m,rfl,f⟩:=h;have f:=eq_of_heq f;subst m;subst f;have g:rQ c.S<|kE c.S q (ag c.S q).freeze:=rQ.put;refine⟨g, ?_⟩;have j:=g.rel u;have w:q<ft c.S:=ll (by rw[n];simp[Blk.dim]);have o:ag (kE c.S q (ag c.S q).freeze) q= .arr t Za A:=by rw[af3 w,n];rfl
   refine Pa j (ku j t) (v:= .full q) ?_ (r.frame g.le);show cond (ag (kE c.S q (ag c.S q).freeze) q).frozen _ _=_;rw[o];simp only[Blk.frozen,zC,GL,o,Ad,lU]
  cases h
 cases h
def aO1 (j:Rel c)(m:ba c e ea)(n:ev e x= .nils)(h:k (.int .i64 0) c.S=O y):cg T (.capN x) ea c.Z<|i6 c d k y:=by
 have f:=cm m x;rw[n]at f;have g:ea.ev x= .slice Y 0 0:=by generalize ea.ev x=q at f;cases f;rfl
 refine cy (v:= .int .i64 0) (Z':=c.Z) ?_ (i6.same j (.int _ _) h);simp only[AOp.run,g]
def aq5 (N:Rel c)(Q:ba c e ea){E K:Operand}(h:Uh c.S (ev e x) (ev e E) (ev e K) k=O y):cg T (.sliceX x E K) ea c.Z<|i6 c d k y:=by
 have B:=cm Q x;have I:=cm Q E;have J:=cm Q K;unfold Uh at h;split at h
 .rename_i X f km zm eh em;rw[eh]at I;rw[em]at J;have q1:ea.ev E= .int X f:=I.int_inv;have q2:ea.ev K= .int km zm:=J.int_inv;have⟨M,g⟩:=az h;clear h;have M:=of_decide_eq_true M;subst M;have h:=g;clear g
  have run: ∀(p:Option Addr) (n C:Nat) (r:Value),ea.ev x= .slice p n C->0<=f->f<=C->(match p with
    |none=>O (Value.slice Y 0 0,c.Z)
    |some ⟨b,o,Y⟩=>O (.slice (O ⟨b,o,O 0⟩) f.toNat f.toNat,c.Z)
    |_=>Y)=O (r,c.Z)->(AOp.sliceX x E K).run ea c.Z=O (r,c.Z):=by
   intro p n C r hp V g hr;have b1:nH C 0 (O<|.int km f)=O f.toNat:=zE ⟨V,g⟩;have b2:nH f.toNat 0 (O<|.int X f)=O f.toNat:=zE ⟨V,V1⟩;simp only[AOp.run,hp,q1,q2,b1,b2,if_true];exact hr
  split at h
  .rename_i hx;rw[hx]at B;have⟨D,g⟩:=az h;clear h;have h:=g;clear g;have D:=of_decide_eq_true D;subst D;have e1:ea.ev x= .slice Y 0 0:=by generalize ea.ev x=q at B;cases B;rfl
   exact cy (run _ _ _ (.slice Y 0 0) e1 V2 V2 rfl) (i6.same N .nils h)
  split at h
  .rename_i S1 s l H;have⟨D,g⟩:=az h;clear h;have h:=g;clear g;have⟨c1,c2,c3⟩:=tF D;have⟨t,L⟩:=W8 N H B;have P:=t.rel N;have u: ∀v:Value,VRel ⟨c.μ,S1,c.Z,c.fb⟩ (.tgt s<|l.take f.toNat) v->i6 c d k y v c.Z:=λv B=>⟨_,⟨c.μ,S1,c.Z,c.fb⟩,rfl,t.le,P,t.calm d,B,h⟩
   cases j:ea.ev x with
   |slice p n C=>
    rw[j]at L;cases L with
    |lstn hq=>
     have z0:f=0:=by simp at c3;omega
     subst z0;cases p with
     |none=>exact cy (run _ _ _ (.slice Y 0 0) j V2 V2 rfl) (u _<|.tgtn<|.inl rfl)
     |some A=>
      have⟨b,o,sp⟩:=A;have:sp=Y:=hq _ rfl;subst this;exact cy (run _ _ _ (.slice (O ⟨b,o,O 0⟩) 0 0) j V2 V2 rfl) (u _<|.tgtn<|.inr ⟨_,_,rfl⟩)
    |lst hn hy U g h2 h3 hf=>
     rename_i b o yb;refine cy (run _ _ _ (.slice (O ⟨b,o,O 0⟩) f.toNat f.toNat) j c2 V1 rfl)<|u _ ?_;have m:ft (l.take f.toNat)=f.toNat:=by rw[cK];omega
     have F:f.toNat*s.w<=n*s.w:=cR _ V1
     have:=VRel.tgt (c:=⟨c.μ,S1,c.Z,c.fb⟩) (l:=l.take f.toNat) hn hy U (p:=o) (by rw[m];omega) (by
      rw[m,kR];have W:=hf.take<|f.toNat*s.w;rw[List.take_take,Nat.min_eq_left F]at W
      exact W)
     rw[m]at this;exact this
   |_=>rw[j]at L;cases L
  cases h
 cases h
def XC (t:Rel c)(u:ba c e ea){es bytes:Nat}{s:Operand}(E: ∀q,Bg (ev e s)=O q->q∈d)(h:Oa c.S es bytes (ev e s) (ev e x) k=O y)(j:Tg c.S es bytes (ev e s) (ev e x) k=O y->cg T (.append es bytes s x) ea c.Z (i6 c d k y)):cg T (.append es bytes s x) ea c.Z<|i6 c d k y:=by
 unfold Oa at h;split at h
 .rename_i F l r;refine aI7 t u r h λm o=> ?_
  have⟨n,g,v,w,A,B,C⟩:=Av t o<|cm u x;have f:=w n<|bD _;rw[cP V1]at f;refine⟨n,g,λa D H r=> ?_,A,B,C⟩;simp only[AOp.run,r,v,f]
 exact j h
def ai6 (o:Rel c)(r:ba c e ea){es bytes:Nat}{s:Operand}(B: ∀q,Bg (ev e s)=O q->q∈d)(h:Tg c.S es bytes (ev e s) (ev e x) k=O y):cg T (.append es bytes s x) ea c.Z<|i6 c d k y:=by
 refine N9 o r B h λm j=> ?_
 have⟨n,g,t,u,v,w,A⟩:=Av o j<|cm r x;have f:=u n<|bD _;rw[cP V1]at f;refine⟨n,g,λa D E C=> ?_,v,w,A⟩;simp only[AOp.run,C,t,f]
theorem XD (F:Rel c)(j:ba c e ea){es bytes:Nat}{z:List Value}{s:Operand}(H: ∀q,Bg (ev e s)=O q->q∈d)(h:Ob c.S es bytes z (ev e s) (ev e x) k=O y):cg T (.appendZ es bytes z s x) ea c.Z<|i6 c d k y:=by
 have v:=cm j x;unfold Ob at h;split at h
 .rename_i kd l I;rw[I]at v;obtain⟨g,h⟩:=az h;unfold lZ at g;rw[bB,bB]at g;have C:=of_decide_eq_true g.1;have D:=of_decide_eq_true g.2.1;have E:=of_decide_eq_true g.2.2;refine N9 F j H h λm f=> ?_
  unfold Xl at f;split at f
  .rename_i o J;cases r:aB es o.w with
   |false=>rw[r]at f;cases f
   |true=>
    rw[r]at f;simp only[zC,ez]at f;subst f;have j:=aD r;subst j;have A:=DC (c:=c) J;have u:z.length=o.w:=by rw[<-A.length,ff]
    refine⟨l.toNat,fd z l.toNat,λa K P t=> ?_,by rw[An,u], ?_,λN M L=> ?_⟩
    .simp only[AOp.run,t,v.int_inv];rw[zE ⟨C,D,E⟩]
    .show F2 (VRel c) (fZ o<|cO l.toNat<|vJ o) (fd z l.toNat);rw[sV];generalize l.toNat=n;induction n with
     |zero=>exact .nil
     |succ n B=>
      simp only[fd,cU,cX]at B⊢;exact A.append B
    grind
  cases f
 cases h
def RX {S:ak}{q:Nat}:kE S q (ag S q)=S:=by
 induction S generalizing q with
 |nil=>rfl
 |cons a r f=>
  cases q with
  |zero=>rfl
  |succ q=>simp only[kE,ag,f]
theorem aH6 {b:Nat}{x:Ab.Blk}(h:Z.m b=O x):Z.set b (O x)=Z:=by
 have:(λi=>if i=b then O x else Z.m i)=Z.m:=by
  grind
 show Hp.mk _ _=_;rw[this]
def ay1 {es n m b o t:Nat}{all:List Value}{f:Ab.Blk}(w:ea.ev x= .slice (O ⟨b,o,Y⟩) n t)(u:GK (ea.ev z)=O m)(v:c.Z.slice es (ea.ev z) (min m n)=O all)(r:c.Z.m b=O f)
  (g:f.own=Za) (h:o+ft all<=ft f.cells) (j:all.all one=Za):(AOp.copy es x z).run ea c.Z=O (.int .i64 (min m n:Nat),c.Z.set b<|O ⟨lq f.cells o all,Za,f.es⟩):=by
 simp only[AOp.run,w,u,v];by_cases q:all=[]
 .rw[zE q];subst q;have:(⟨lq f.cells o [],Za,f.es⟩:Ab.Blk)=f:=by cases f;simp only[lq]at*;simp[g]
  rw[this,aH6 r]
 .rw[zF q,r];simp only[HP g h j]
def Rc (h:Rel c){es q o n m:Nat}{dm:Nat×Nat}{all:List Value}(f:(ag c.S q).dim=O dm)(F:dm.1=es)(Q:(ag c.S q).frozen=Zb)(hs:I7 c q o n dm<|ea.ev x)
  (M:GK (ea.ev z)=O m) (N:c.Z.slice es (ea.ev z) (min m n)=O all) (P:all.length=min m n*es) (X:all.all one=Za) (hd:q∈d) (D:blk.dim=O dm) (E:blk.frozen=Zb) (r:dm.2=0->blk=ag c.S q)
  (t: ∀cs,F2 (VRel c) (ag c.S q).vals cs->F2 (VRel c) blk.vals (lq cs (o*es) all)) (H:k (.int .i64 (min m n:Nat)) (kE c.S q blk)=O y):cg T (.copy es x z) ea c.Z<|i6 c d k y:=by
 subst F;rcases hs with⟨C,w,J,U,g⟩|⟨b,cp,B,C,w,J,U,g,e6⟩
 .subst w;subst J;have:all=[]:=by simpa using P
  subst this;refine cy (v:= .int .i64 (min m 0:Nat)) (Z':=c.Z) ?_ (i6.same h (.int _ _) ?_)
  .simp only[AOp.run,C,M,N];simp
  .rw[r g,RX]at H;exact H
 .obtain⟨y0,cs,u,A,V,W,K,L⟩:=h.block f w;rw[g]at A;injection A with A
  subst A;have hl:=L.length;rw[Et f]at hl
  have hle:o*dm.1+min m n*dm.1<=dm.2:=by
   have:(o+min m n)*dm.1<=(o+n)*dm.1:=cR _ V1;rw[cL]at this;omega
  have j:o*dm.1+all.length<=B.cells.length:=by rw[K,cB,P];omega
  have I:Writes c q b blk ⟨lq B.cells (o*dm.1) all,Za,B.es⟩:=⟨Q,w,D.trans f.symm,E,B,lq cs (o*dm.1) all,u,dm,g,f,V,rfl,GY _ _ _,by show lq _ _ _=_;rw[K,GX _ _ _ _ V1],t cs L⟩;exact cy (ay1 C M N g (W Q) j X) ⟨_,_,rfl,I.le h,I.rel h,I.calm h hd, .int _ _,H⟩
theorem Lz {kd:IntKind}: ∀{cs r:List VV} {m ml:Zd} {j:Nat} {as g:List Value},Mr kd m j cs=O r->F2 (VRel c) cs as->F2 (VRel c) (ml.map<|VV.int kd) g->ml=(m.drop j).take (ft cs)->
  F2 (VRel c) r (g++as.drop (ft g))
 |[],r,m,ml,j,as,g,h,w,B,f=>by
  simp only[Mr]at h;cases h
  cases w
  grind
 |v::cs,r,m,ml,j,as,g,h,w,B,f=>by
  cases v<;>simp only[Mr]at h<;>try(cases h;done)
  rename_i J n;cases q:Zc (J=kd)with
  |false=>rw[q]at h;cases h
  |true=>
   rw[q,zC]at h;have q:=of_decide_eq_true q;subst q;have⟨K,E,t⟩:=ai h;cases t;cases w with
   |cons A o=>
    rename_i a as;have H:=A.int_inv;subst H;by_cases F:j<ft m
    .have u:m.drop j=m[j]::m.drop (j+1):=List.drop_eq_getElem_cons F;rw[u]at f;simp only[List.length_cons,List.take_succ_cons]at f;subst f;cases B with
     |cons C D=>
      rename_i b g;have I:=C.int_inv;subst I;have:=Lz E o D rfl;rw[dD,List.getElem?_eq_getElem F];exact .cons (.int _ _) this
    .have u:m.drop j=[]:=dC V1;rw[u]at f;simp only[List.take_nil]at f;subst f;cases B;have:=Lz (ml:=[]) E o .nil (by rw[dC V1];simp);rw[dD,List.getElem?_eq_none V1];exact .cons (.int _ _) this
def RH {kd:IntKind}{m:Zd}: ∀{cs r:List VV} {j:Nat},Mr kd m j cs=O r->ft r=ft cs
 |[],r,j,h=>by cases h;rfl
 |v::cs,r,j,h=>by
  cases v<;>simp only[Mr]at h<;>try(cases h;done)
  rename_i q n;cases g:Zc (q=kd)with
  |false=>rw[g]at h;cases h
  |true=>
   rw[g,zC]at h;have⟨t,o,f⟩:=ai h;cases f;simp[RH o]
def VM {m:Zd}:fZ (.int kd) m=m.map (VV.int kd):=by
 induction m with
 |nil=>rfl
 |cons a m f=>rw[gK,f];rfl
theorem K4 {α:Type}{l m:List α}{o n:Nat}(h:o+n<=ft l):Dh l o n m=l.take o++(m.take (min (ft m) n)++l.drop (o+min (ft m) n)):=by
 unfold Dh
 grind
theorem aw6 {α:Type}{l m:List α}{o n:Nat}(h:o+n<=ft l):ft (Dh l o n m)=ft l:=by
 rw[K4 h]
 grind
theorem Vi (N:Rel c){es q o n:Nat}{l A:List<|El s}{mc:List VV}{m:Nat}{g:List Value}(v:ag c.S q= .arr s Zb l)(I:I7 c q o n (s.w,l.length*s.w)<|ea.ev x)(Q:es=s.w)
  (K:GK (ea.ev z)=O m) (L: ∀i,i<=m->c.Z.slice es (ea.ev z) i=O (g.take<|i*es)) (X:g.length=m*es) (M:F2 (VRel c) (fZ s A) g) (H:m=A.length) (P:q∈d)
  (E:k (.int .i64 (min A.length n:Nat)) (kE c.S q<|.arr s Zb<|Dh l o n A)=O y):cg T (.copy es x z) ea c.Z<|i6 c d k y:=by
 subst Q;have u:(ag c.S q).dim=O (s.w,l.length*s.w):=by rw[v];rfl
 have t:o+n<=l.length:=by
  rcases I with⟨_,W,D,_,_⟩|⟨b,U,yb,_,_,D,_⟩
  .omega
  .exact dF D (nA s)
 have B:=L (min m n) (Nat.min_le_left _ _)
 have r:(g.take<|min m n*s.w).length=min m n*s.w:=by
  simp_all
 have j:=M.take<|min m n*s.w;rw[<-kR]at j;rw[<-H]at E;refine Rc N u rfl (by rw[v];rfl) I K B r (kP j<|tH _ _) P ?_ rfl (λJ=> ?_) (λV f=> ?_) E
 .simp only[Blk.dim,aw6 t]
 .have:l.length=0:=by
   rcases cY l.length with h|h
   .exact h
   .have:=dA h<|nA s;simp only at J;omega
  rw[v,K4 t]
  simp_all
 .rw[v]at f;simp only[Blk.vals]at f⊢;have C:=f.length;rw[gP]at C;have F:o*s.w+min m n*s.w<=l.length*s.w:=by rw[<-cL];exact cR _ V1
  rw[Ug (by rw[r];omega),K4 t,At,At,kR,Bl,r,<-H,cL];exact(f.take _).append<|j.append<|f.drop _
theorem aO8 (L:Rel c)(he:ba c e ea){es:Nat}(hd: ∀q,Bg (ev e x)=O q->q∈d)(h:ax9 c.S es (ev e x) (ev e z) k=O y):cg T (.copy es x z) ea c.Z<|i6 c d k y:=by
 have hx:=cm he x;have hz:=cm he z;unfold ax9 at h
 have go: ∀(q o n:Nat) (P:Nat×Nat),(ag c.S q).dim=O P->q∈d->I7 c q o n P (ea.ev x)->
   (match ag c.S q,pH c.S es (ev e z)with
   | .arr s Zb l,O (.lst s' l')=>(ni (.list s') (.list s) l').bind λI=>gd (aB es s.w) (k (.int .i64 (min I.length n:Nat))<|kE c.S q<|.arr s Zb<|Dh l o n I)
   | .arr s Zb l,O (.cells J)=>(Fi .u64 J).bind λm=>(ni (.list<|.int .u64) (.list s) m).bind λI=>gd (aB es s.w) (k (.int .i64 (min I.length n:Nat))<|kE c.S q<|.arr s Zb<|Dh l o n I)
   | .cells 1 Zb l,O (.lst (.int kd) m)=>gd (aB es 1&&cQ (o+n) l.length) (match Mr kd m 0 ((l.drop o).take n)with
    |some c'=>k (.int .i64 (min m.length n:Nat)) (kE c.S q<|.cells 1 Zb<|l.take o++c'++l.drop (o+n))
    |none=>Y)
   |_,_=>Y)=O y->cg T (.copy es x z) ea c.Z (i6 c d k y):=by
  intro q o n P f N hs h;split at h
  .rename_i s l s' l' j V;obtain⟨m,r,F,t,K,u,h5⟩:=Av L V hz;obtain⟨I,E,H⟩:=ai h;obtain⟨ee,k3⟩:=lV E;cases ee;subst k3;obtain⟨k4,k5⟩:=az H;rw[j]at f;injection f with f
   subst f;exact Vi (mc:=[]) L j hs (aD k4) F t K u (h5 _ _ rfl).2 N k5
  .rename_i s l J j V;obtain⟨m,r,F,t,K,u,h5⟩:=Av L V hz;obtain⟨ml,k0,E⟩:=ai h;obtain⟨I,E,H⟩:=ai E;obtain⟨ee,k3⟩:=lV E;cases ee;subst k3;obtain⟨k4,k5⟩:=az H;rw[j]at f;injection f with f
   subst f;have g:=Lr k0;simp only[More.cellsOf]at u;rw[g,<-VM]at u;have B:=aD k4
   have C:m=I.length:=by
    have:=u.length;rw[gP,K,B]at this;exact(cM (nA _) this).symm
   exact Vi (mc:=[]) L j hs B F t K u C N k5
  .rename_i l kd ml j V;obtain⟨m,r,F,t,K,u,h5⟩:=Av L V hz;obtain⟨E,H⟩:=az h;rw[bB]at E;have B:=aD E.1;have hle:=cD E.2;subst B;split at H
   .rename_i c' W;have C:=(h5 _ _ rfl).2;rw[j]at f;injection f with f
    subst f;have h2':=t (min m n)<|Nat.min_le_left _ _;have M:(r.take<|min m n*1).length=min m n*1:=by rw[cK,K,Nat.min_eq_left];omega
    simp only[More.cellsOf]at u;have Q:F2 (VRel c) (fZ (.int kd)<|ml.take<|min m n)<|r.take<|min m n*1:=by rw[kR];exact u.take (min m n*1)
    have hc':=RH W;have U:((l.drop o).take n).length=n:=by rw[cK,cS];omega
    rw[<-C]at H;refine Rc L (by rw[j];rfl) rfl (by rw[j];rfl) hs F h2' M (kP Q<|tH _ _) N ?_ rfl (λh0=> ?_) (λJ g=> ?_) H
    .simp only[Blk.dim,cB,cK,cS,hc']
     congr 2
     omega
    .simp only at h0
     grind
    .rw[j]at g;simp only[Blk.vals]at g⊢;have hcl:=g.length;rw[Ug (by rw[M];omega),cV,cZ];refine(g.take _).append ?_;have h6:=Lz (ml:=ml.take<|min m n) W ((g.drop o).take n) (by rw[<-VM];exact Q) (by rw[U,cW,C,Nat.min_comm,<-List.take_take,cP (l:=ml)<|bD _])
     have h7:J.drop (o+(r.take<|min m n*1).length)=((J.drop o).take n).drop (r.take<|min m n*1).length++J.drop (o+n):=by
      rw[M,cZ,List.drop_take,List.drop_drop]
      conv=>lhs;rw[<-List.take_append_drop (n-min m n) (J.drop<|o+min m n)]
      rw[List.drop_drop]
      congr 2
      omega
     rw[h7,<-cV];exact h6.append (g.drop _)
   .cases H
  .cases h
 generalize ev e x=xv at*;cases xv<;>try(cases h;done)
 case full q=>
  simp only at h;cases hx with
  |full hk _ v=>
   split at h
   .rename_i n D;cases j:ag c.S q with
    |dead=>simp only[lenOf,j]at D;cases D
    |arr s z' l=>
     simp only[lenOf,j]at D;injection D with D
     have f:(ag c.S q).dim=O (s.w,l.length*s.w):=by rw[j];rfl
     obtain⟨X,F,t⟩:=v _ f;have:X=n:=by rw[<-D];exact cM (nA s) F
     subst this;exact go q 0 X _ f (hd q rfl) t h
    |cells es' z' l=>
     simp only[lenOf,j]at D;injection D with D
     have f:(ag c.S q).dim=O (es',l.length):=by rw[j];rfl
     obtain⟨X,F,t⟩:=v _ f;have K:=(L.blk q _ f).1
     have:X=n:=by
      grind
     subst this;exact go q 0 X _ f (hd q rfl) t h
   cases h
 case part q o n=>
  simp only at h;cases hx with
  |part hk _ v=>
   cases A:(ag c.S q).dim with
   |none=>
    have:ag c.S q= .dead:=by
     generalize ag c.S q=blk at A;cases blk<;>first|rfl|(cases A;done)
    rw[this]at h;cases h
   |some P=>exact go q o n P A (hd q rfl) (v P A) h
end
end
section
section
variable {β:Type} {T:Ab.iX} {c:Ctx} {e:db} {ea:cx} {d:List Nat} {k:VV->ak->Option β} {y:β}
def IF (s:ByteArray):ft (fc s)=s.size:=by
 simp[fc]
def aT8 (f:Rel c)(h:k (.bld<|ft c.S) (c.S++[.cells 1 Zb [.str []]])=O y):cg T .newB ea c.Z<|i6 c d k y:=by
 refine cy (v:= .iface c.Z.n .nilFunc) (Z':=c.Z.add ⟨[.string ByteArray.empty],Za,1⟩) (by simp only[AOp.run]) ?_;refine i6.new (kill:=Y) f (Xz f (blk:= .cells 1 Zb [.str []]) (x:=⟨[.string ByteArray.empty],Za,1⟩) (d:=(1,1)) rfl (Nat.le_refl _) rfl rfl (.cons (.str rfl) .nil)) (λ_ h=>by cases h) ?_ h;refine .bld (by simp[rr]) rfl λg _=>⟨c.Z.n, ?_,rfl⟩
 simp[yk]
def VRel.it_inv {q:Nat}(h:VRel c (.it q l) a): ∃s,fc s=l/\∀d,(ag c.S q).dim=O d->∃b,c.μ q=O b/\a= .iface b (.string s):=by
 cases h with
 |it _ _ g f=>exact⟨_,g,f⟩
def VD : ∀{cs:List VV} {as:List Value} {l:Zd},Fi .u8 cs=O l->F2 (VRel c) cs as->CO as=O l
 |[],_,l,h,f=>by
  cases f;cases h;rfl
 |v::cs,_,l,h,f=>by
  cases f with
  |cons m o=>
   cases v with
   |int q n=>
    unfold Fi at h;by_cases j:q= .u8
    .subst j;rw[zB rfl,zC]at h;cases g:Fi .u8 cs with
     |none=>rw[g]at h;cases h
     |some r=>
      rw[g]at h;cases h;cases m;unfold CO;rw[VD g o];rfl
    .rw[zA j]at h;cases h
   |_=>cases h
def OQ : ∀{l:Zd} {as:List Value},F2 (VRel c) (fZ (.int .u8) l) as->CO as=O l
 |[],_,f=>by cases f;rfl
 |n::l,_,f=>by
  cases f with
  |cons g h=>
   cases g;unfold CO;rw[OQ (l:=l) h];rfl
def bp8 (l:Zd):fc (YS l)=l.map Gx:=by
 have f: ∀(l:Zd) (s:ByteArray),fc (l.foldl (λr n=>r.push<|UInt8.ofNat n.toNat) s)=fc s++l.map Gx:=by
  intro l;induction l with
  |nil=>intro s;simp
  |cons n l g=>
   intro s;rw[List.foldl_cons,g,List.map_cons]
   have:fc (s.push<|UInt8.ofNat n.toNat)=fc s++[Gx n]:=by
    simp[fc,Gx,ByteArray.push]
   rw[this,List.append_assoc];rfl
 have:=f l ByteArray.empty;simpa[YS,fc]using this
theorem aI1 (L:Rel c)(X:ba c e ea)(h:YT c.S (ev e x) k=O y):cg T (.strOf x) ea c.Z<|i6 c d k y:=by
 have N:=cm X x
 have u: ∀(m:More) (l:Zd),(∀t,ev e x≠ .str t)->pH c.S 1 (ev e x)=O m->(∀w,F2 (VRel c) m.cellsOf w->CO w=O l)->k (.str<|l.map Gx) c.S=O y->cg T (.strOf x) ea c.Z (i6 c d k y):=by
  intro m l g f W hk;have⟨n,B,K,Q,h3,U,_⟩:=Av L f N;have C:=Q n<|Nat.le_refl _;rw[Nat.mul_one,List.take_of_length_le V1]at C;have V:=W B U
  obtain⟨p,J,M⟩: ∃p J,ea.ev x= .slice p n J:=by
   generalize ea.ev x=a at*;cases a<;>simp[GK]at K
   .generalize ev e x=v at*
    have r: ∀q,(pH c.S 1 (.full q)=O m∨∃o n,pH c.S 1 (.part q o n)=O m)->∃d,(ag c.S q).dim=O d:=by
     intro q A;cases hg:ag c.S q with
     |dead=>rcases A with A|⟨_,_,A⟩<;>simp[pH,hg]at A
     |cells es z l=>exact⟨_,rfl⟩
     |arr s z l=>exact⟨_,rfl⟩
    cases N with
    |str _=>exact(g _ rfl).elim
    |undef=>simp[pH]at f
    |ptr _ _ _=>simp[pH]at f
    |it _ _ _ _=>simp[pH]at f
    |bld _ _ _=>simp[pH]at f
    |pix _ _ _ _=>simp[pH]at f
    |pel _ _ _=>simp[pH]at f
    |tgtn _=>simp[pH]at f
    |full _ _ E=>
     have⟨d,j⟩:=r _<|.inl f;have⟨_,_,H⟩:=E d j;rcases H with⟨e,_⟩|⟨_,_,_,e,_⟩<;>cases e
    |part _ _ E=>
     have⟨d,j⟩:=r _<|.inr ⟨_,_,f⟩;rcases E d j with⟨e,_⟩|⟨_,_,_,e,_⟩<;>cases e
   subst K;exact⟨_,_,rfl⟩
  refine cy (v:= .string<|YS l) (Z':=c.Z) ?_ (i6.same L (.str<|bp8 l) hk);rw[M]at C;simp only[AOp.run,M,C,V,Option.map_some]
 unfold YT at h;split at h
 .cases h
 rename_i g;split at h
 .rename_i s l f;by_cases H:s= .int .u8
  .subst H;rw[lU]at h;exact u _ l (λt I=>g t I) f (λw D=>OQ D) h
  unfold ni at h
  grind
 .rename_i P f;cases F:Fi .u8 P with
  |none=>rw[F]at h;cases h
  |some l=>
   rw[F]at h;exact u _ l (λt I=>g t I) f (λw D=>VD F D) h
 cases h
end
end
end Go.V
