/- A part of the proof. No condition. -/
import Derived.Test.YtgnojcajllcmoaaGreatDoorL4
import Derived.KernelRfl
import Derived.Test.YtgnojcajllcmoaaGreatDoorA6
set_option linter.all false
namespace Go.V
open Go.Ab
open Option renaming some->O,none->Y
open Bool renaming true->Za,false->Zb
open Decidable renaming decide->Zc
open List renaming length_eq_zero_iff->dy
open List renaming mem_cons->aw
open List renaming mem_singleton->cc
open List renaming length->hW
open Int renaming toNat->hX
open Option renaming bind->im
variable {buf cs d w:Zd}{L a b f i j k l r v:Nat}{s:Dy}{bs:List Bool}{en:Bool}{es:List Ev}{x y:Int}{o:bx}
set_option maxRecDepth 100000
section
open List renaming getElem?_cons_succ->aB,takeWhile_cons_of_pos->aD,takeWhile_prefix->bB
def Tq : ∀{l:List Bool} {i:Nat},i<hW (l.takeWhile id)->l[i]?=O Za
 |[],i,h=>by simp at h
 |b::l,i,h=>by
  cases b with
  |false=>simp at h
  |true=>
   rw[aD (by rfl)]at h;cases i with
   |zero=>rfl
   |succ i=>
    rw[aB];exact Tq V8
def OX : ∀{l:List Bool},hW (l.takeWhile id)<hW l->l[hW<|l.takeWhile id]?=O Zb
 |[],h=>by simp at h
 |b::l,h=>by
  cases b with
  |false=>rfl
  |true=>
   rw[aD (by rfl)]at h⊢;rw[List.length_cons,aB];exact OX V8
def Na (l:List Bool):hW (l.takeWhile id)<=hW l:=(bB id).length_le
def Rc (l:List Bool):l.take (hW<|l.takeWhile id)=l.takeWhile id:=(List.prefix_iff_eq_take.1<|bB id).symm
theorem az9 {l:List Bool}(t:hW l<=1000000):jt l Zb=O (if(hW<|l.takeWhile id)<hW l then(hW (l.takeWhile id):Int)else-1):=by
 have p:=Na l;generalize q:hW (l.takeWhile id)=k at*
 have g:am (iC l Zb) co 0=O (if k<hW l then .inl (k:Int)else .inr ()):=by
  refine nO (n:=k) V1 (λi hi=> ?_) ?_
  .have e:=Tq (l:=l) (i:=i) V1;have m:i<hW l:=by omega
   unfold iC;rw[Zf,zC,bt m];rw[List.getElem?_eq_getElem m]at e;injection e with e
   rw[e];show O (Sum.inl<|IntKind.i64.wrap<|(i:Int)+1)=_;rw[Zi];rfl
  unfold iC;by_cases c:k<hW l
  .rw[Zf,zC,bt c,zE c];have e:=OX (l:=l) V1
   grind
  grind
 unfold jt;refine ec g ?_;split<;>rfl
theorem ao6 {l:List Bool}(e:Int)(q:hW l<=1000000):am (sZ (e,l)) co 0=O (hW (l.takeWhile id):Int):=by
 have p:=Na l;generalize m:hW (l.takeWhile id)=k at*;refine nO (n:=k) V1 (λi hi=> ?_) ?_
 .have g:=Tq (l:=l) (i:=i) V1;unfold sZ;rw[zB (show(i:Int)<((hW l:Nat):Int)by omega),zC];refine ec (bn (k:=i) (n:=hW l) V1) ?_;refine ec g ?_;rw[zC,Zi];rfl
 unfold sZ;by_cases c:k<hW l
 .rw[zB (show(k:Int)<((hW l:Nat):Int)by omega),zC];refine ec (bn (k:=k) (n:=hW l) V1) ?_;have g:=OX (l:=l) V1;rw[m]at g;exact ec g rfl
 grind
def Hd.pl (h:Hd):Int:=(gP h.m (hW h.x) (hW h.t) h.R h.l h.Q h.k h.n h.b).2.2.2.2
def Fg (w:Zd):Int⊕(Hd×Zd×List Bool):=match XH w with
 |none=> .inl 4
 |some (c,b)=>match FE w with
  | .inl e=> .inl e
  | .inr (h,_)=>if h.pl≠0 then .inl h.pl else if h.m=2/\65536<=hW (b.takeWhile id) then .inl 14 else .inr (h,c,b.takeWhile id)
theorem On {e:Int}(h:FE w= .inl e):e≠0:=by
 unfold FE at h
 grind
def ax6 {h:Hd}{r:Zd}(e:FE w= .inr (h,r)):h.m=w.getD 0 0/\h.chk=0:=by
 unfold FE at e;split at e
 .cases e
 split at e
 .split at e
  .cases e
  split at e
  .cases e
  split at e
  .cases e
  rename_i q;injection e with e;injection e with g p;subst g;exact⟨rfl,V1⟩
 cases e
theorem az0 (u:gM w)(C:hW w<=1500){c:Zd}{b:List Bool}(h:XH w=O (c,b)):hW b<=100000/\(w.getD 0 0≠2->b=[]):=by
 unfold XH at h;split at h
 .cases h
 split at h
 .cases h
 rename_i l g t;have⟨A,m,e⟩:=SM (u.drop 5) t;rw[List.length_drop]at e;split at h
 .rename_i p;split at h
  .cases h
  rename_i n z;split at h
  .cases h
  injection h with h
  injection h with B q
  subst q;have D:=m n V2;simp at e;exact⟨by rw[De];omega,λk=>(k p).elim⟩
 grind
theorem Wz (u:gM w)(A:hW w<=1500):iJ w=O (match Fg w with
  | .inl e=>(0,0,[],0,[],0,0,[],e,[],[],[])
  | .inr (h,c,b)=>(h.m,h.R,h.l,h.Q,h.k,h.n,h.b,c,0,h.x,h.t,b)):=by
 unfold iJ Fg;refine ec (al4 u A) ?_;cases e:XH w with
 |none=>rfl
 |some p=>
  have⟨c,b⟩:=p;have⟨K,C⟩:=az0 u A e;show cond (Zc<|(0:Int)≠0) _ _=_;rw[zA V2,zD];refine ec (Qw u V1) ?_;cases z:FE w with
  |inl B=>
   show cond (Zc<|B≠0) _ _=_;rw[zB<|On z,zC]
  |inr q=>
   have⟨h,r⟩:=q;have⟨E,F,H,I⟩:=Tc u A z;have⟨N,M⟩:=ax6 z;show cond (Zc<|(0:Int)≠0) _ ((jA h.m h.x h.t h.R h.l h.Q h.k h.n h.b).bind _)=_;rw[zA V2,zD];refine ec (Rs E F) ?_;show cond (Zc<|h.pl≠0) _ _=_;simp only;by_cases g:h.pl≠0
   .rw[zB g,zC,zE g];rfl
   rw[zA g,zD,zF g];refine ec (a:=(h.m,h.R,h.l,h.Q,h.k,h.n,h.b,c,h.x,h.t,r,b.takeWhile id)) ?_ ?_
   .refine ec (az9 V1) ?_;have D:=Na b;by_cases k:hW (b.takeWhile id)<hW b
    .rw[zE k,Zf,zC,Zk,bp];show O (h.m,h.R,h.l,h.Q,h.k,h.n,h.b,c,h.x,h.t,r,List.take (hX (hW (b.takeWhile id):Int)-0) b)=_;rw[show(hX (hW (b.takeWhile id):Int))-0=(hW<|b.takeWhile id) by omega,Rc]
    .rw[zF k,Ze,zD]
     have:b=b.takeWhile id:=by
      have J:=Rc b
      grind
     rw[<-this]
   grind
end
section
open Go.IntKind renaming wrap->zH,i64->zI,u64->zJ
open List renaming length_drop->aB
theorem bl6 {h:Hd}(p:OpsOk h.l)(q:OpsOk h.k)(g:h.pl=0):0<=h.n/\h.n<=65535:=by
 have e:sK h.m (hW h.x) (hW h.t) h.R h.l h.Q h.k h.n h.b=0:=by
  unfold Hd.pl gP at g
  grind
 exact(EC p q e).len
theorem Pl (hu:gM w)(hl:hW w<=1500):oC w=O (match Fg w with
  | .inl e=>(0,[],[],0,0,0,0,[],0,e,[],[])
  | .inr (h,c,b)=>(h.m,h.x,h.t,h.R,h.Q,h.n,h.b,c,if h.m≠2 then h.n else(hW b:Int),0,h.l,h.k)):=by
 unfold oC Fg XH;by_cases h5:hW w<5
 .grind
 rw[Ze,zD,zF h5,Zk,bp];have N:na w 5 (hW w:Int)=w.drop 5:=xZ (n:=5);rw[N];have W:gM<|w.drop 5:=hu.drop 5;have hs:=J6 (K:=5) V1 W Z4;refine ec hs ?_;cases e:S 5 (w.drop 5) []with
 |none=>rfl
 |some p=>
  have⟨l,rest⟩:=p;have⟨e1,e2,e3⟩:=SM W e;rw[aB]at e3;show cond (Zc<|(0:Int)≠0) _ _=_;rw[zA V2,zD];have I:rd w 0=O (w.getD 0 0):=rG (l:=w) (i:=0) V1
  have tail: ∀(b:List Bool),hW b<=100000->(w.getD 0 0≠2->b=[])->be (Sum.inr (α:=Unit) (hW (b.takeWhile id):Int)) (λu'12=>
    O (0,[],[],0,0,0,0,[],0,4,[],[]))
    (λw13=>
    im (qD w) λ⟨g,A,B,C,D,u,E,r14_7,F,H,z⟩=>
    cond (Zc<|F≠0)
     (O (0,[],[],0,0,0,0,[],0,F,[],[]))
     (im (mv g A B C H D z u E) λr15=>
     cond (Zc<|r15.2.2.2.2≠0)
     (O (0,[],[],0,0,0,0,[],0,r15.2.2.2.2,[],[]))
     ((((cond (Zc<|g≠2)
      (O u)
      (O w13)):Option Int)).bind λs16=>
     cond (Zc<|65535<s16)
      (O (0,[],[],0,0,0,0,[],0,14,[],[]))
      (im (ix 4<|hW l) λj17=>
      im (l[j17]?) λx18=>
      O (g,A,B,C,D,u,E,x18,s16,0,H,z)))))=O (match(match O (l.getD 4 [],b)with
     |none=>(.inl 4:Int⊕(Hd×Zd×List Bool))
     |some (c,b)=>match FE w with
      | .inl e=> .inl e
      | .inr (h,_)=>if h.pl≠0 then .inl h.pl else if h.m=2/\65536<=hW (b.takeWhile id) then .inl 14 else .inr (h,c,b.takeWhile id))with
    | .inl e=>(0,[],[],0,0,0,0,[],0,e,[],[])
    | .inr (h,c,b)=>(h.m,h.x,h.t,h.R,h.Q,h.n,h.b,c,if h.m≠2 then h.n else(hW b:Int),0,h.l,h.k)):=by
   intro b hb hb2;rw[cg];refine ec (TM hu V1) ?_;cases ed:FE w with
   |inl er=>
    show cond (Zc<|er≠0) _ _=_;rw[zB<|On ed,zC]
   |inr q=>
    have⟨h,r⟩:=q;have⟨o4,o6,g4,g6⟩:=Tc hu hl ed;have⟨hm,hc⟩:=ax6 ed;show cond (Zc<|(0:Int)≠0) _ ((mv h.m h.x h.t h.R h.l h.Q h.k h.n h.b).bind _)=_;rw[zA V2,zD];refine ec (Pj o4 o6 g4 g6) ?_;show cond (Zc<|h.pl≠0) _ _=_;simp only;by_cases V:h.pl≠0
    .rw[zB V,zC,zE V];rfl
    have hn:=bl6 o4 o6<|Decidable.not_not.1 V;rw[zA V,zD,zF V];have hle:=Na b;refine ec (a:=if h.m≠2 then h.n else(hW (b.takeWhile id):Int)) ?_ ?_
    .show cond (Zc<|h.m≠2) (O h.n) (O (hW (b.takeWhile id):Int))=_
     grind
    have Z: ∃hx:4<hW l,l[4]=l.getD 4 []:=⟨V1,ZT⟩
    obtain⟨hx,Z⟩:=Z;have hi4:ix 4 (hW l)=O 4:=bn (k:=4) V1
    grind
  by_cases J:w.getD 0 0=2
  .simp only[zE J];cases rest with
   |nil=>
    refine ec (a:= .inl ()) ?_ ?_
    .refine ec I ?_;rw[zB J,zC];rfl
    .rfl
   |cons n b=>
    have hlb:hW b+1<=1500:=by simp at e3;omega
    have hn:=e2 n V2
    have hw:zH zJ (zH zI<|64*zH zI (((hW b+1:Nat):Int)-1))=64*(hW b:Int):=by
     rw[show((hW b+1:Nat):Int)-1=(hW b:Int)by omega,ae (n:=(hW b:Int)) V1,ae (n:=64*(hW b:Int)) V1];exact cb V1
    have M:rd (n::b) 0=O n:=bt (l:=n::b) (i:=0) V2;by_cases c:64*(hW b:Int)<n
    .refine ec (a:= .inl ()) ?_ ?_
     .refine ec I ?_;rw[zB J,zC];show cond (Zc<|((hW b+1:Nat):Int)=0) _ ((rd (n::b) 0).bind _)=_;rw[Ze,zD];refine ec M ?_;show cond (Zc<|zH zJ (zH zI<|64*zH zI (((hW b+1:Nat):Int)-1))<n) _ _=_;rw[hw,zB c,zC]
     .simp only[zE c];rfl
    .refine ec (a:= .inr (hW ((vA b<|hX n).takeWhile id):Int)) ?_ ?_
     .refine ec I ?_;rw[zB J,zC];show cond (Zc<|((hW b+1:Nat):Int)=0) _ ((rd (n::b) 0).bind _)=_;rw[Ze,zD];refine ec M ?_;show cond (Zc<|zH zJ (zH zI<|64*zH zI (((hW b+1:Nat):Int)-1))<n) _ ((rd (n::b) 0).bind _)=_;rw[hw,zA c,zD];refine ec M ?_;show gd (dz 1 ((hW b+1:Nat):Int)<|hW b+1) ((uL (zH zI n)<|na (n::b) 1 ((hW b+1:Nat):Int)).bind _)=_;rw[Zk,bp,ae (n:=n) V1]
      have hb:uL n (na (n::b) 1 ((hW b+1:Nat):Int))=O (0,vA b<|hX n):=by
       have ht:na (n::b) 1 ((hW b+1:Nat):Int)=b:=xZ (w:=n::b) (n:=1);rw[ht];unfold uL;rw[Ze,zD,ae (n:=64*(hW b:Int)) V1,Ze,zD];have hk:=bg6 (w:=b) (λx hx=>e2 x (by simp[hx])) (n:=hX n) V1 V1
       grind
      refine ec hb ?_;exact ec (ao6 0 (by rw[De];omega)) rfl
     .simp only[zF c];exact tail (vA b<|hX n) (by rw[De];omega) (λk=>(k J).elim)
  .simp only[zF J];refine ec (a:= .inr (hW (([]:List Bool).takeWhile id):Int)) ?_ ?_
   .refine ec I ?_;rw[zA J,zD];rfl
   .exact tail [] V2 (λ_=>rfl)
end
section
open List renaming length_cons->aB,length_append->bB,length_singleton->bD,length_nil->cB,nil_append->cD
open Nat renaming zero_add->aD
open Option renaming isNone->cK
def LG {α γ:Type}{c:Cx}(h:c.Ok){f:α->Option (α⊕γ)}{st:Nat->Nat->Bool->Dy->List (Int×Int)->α}
  (I: ∀(i t:Nat) (en:Bool) (s:Dy) (p:List<|Int×Int) (a:Int×Int),i<20000->hW p<=100000->dq c i s->QE c en s->vI c en s=O a->xN c a s->f (st i t en s p)=O (.inl<|st (i+1) t en (tX c a s)<|p++[a]))
  (J: ∀(i t:Nat) (s:Dy) (p:List<|Int×Int),i<20000->dq c i s->c.mode=2->vI c Zb s=Y->s.q= -1->s.L<65535->t<l->f (st i t Zb s p)=O (.inl<|st (i+1) (t+1) Zb (HS s) p))
  (K: ∀(i t:Nat) (s:Dy) (p:List<|Int×Int),i<20000->dq c i s->c.mode=2->vI c Zb s=Y->s.q= -1->t=l->f (st i t Zb s p)=O (.inl<|st (i+1) (t+1) Za s p))
  {t:Nat}    {A:Nat} {u:Bool} {z:Dy} (H:Way c l t en s es A u z): ∀(i:Nat) (p:List<|Int×Int),dq c i s->QE c en s->i+hW es<=20000->hW p+hW es<=100000->
   Reach f (hW es) (st i t en s p) (st (i+hW es) A u z<|p++qb es)/\QE c u z:=by
 induction H with
 |nil=>
  intro i p w q _ _;refine⟨?_,q⟩;rw[show qb []=([]:List<|Int×Int)from rfl,List.append_nil];exact Reach.refl
 | @act t en s a es A u z e m _ D=>
  intro i p w q B C;rw[aB]at B C;have⟨r,E⟩:=D (i+1) (p++[a]) (nW h w e m) (TD h w q e m) V1 (by rw[bB,bD];omega);refine⟨?_,E⟩;have:=(Reach.one<|I i t en s p a V1 V1 w q e m).trans r;rw[List.append_assoc]at this;rw[aB,show hW es+1=1+(hW es) by omega,show i+(1+hW es)=i+1+(hW es) by omega];exact this
 | @more t s es A u z a b d e g _ D=>
  intro i p w q B C;rw[aB]at B C;have⟨r,E⟩:=D (i+1) p (BA h w a d e) ⟨q.1,λF _=>by have F:0<=s.q:=F;omega⟩ V1 V1;refine⟨?_,E⟩;have:=(Reach.one<|J i t s p V1 w a b d e g).trans r;rw[aB,show hW es+1=1+(hW es) by omega,show i+(1+hW es)=i+1+(hW es) by omega];exact this
 | @stop t s es A u z a b d e _ D=>
  intro i p w q B C;rw[aB]at B C;have⟨r,E⟩:=D (i+1) p (WW h (Nat.le_succ i) w) ⟨λk=>(k a).elim,λ_ _=>rfl⟩ V1 V1;refine⟨?_,E⟩;have:=(Reach.one<|K i t s p V1 w a b d e).trans r;rw[aB,show hW es+1=1+(hW es) by omega,show i+(1+hW es)=i+1+(hW es) by omega];exact this
section
variable {c:Cx} (h:c.Ok)
include h
theorem HE (w:dq c i s):Wd c s.W/\hW s.W<=1048576:=by
 have e:Wd c s.W:=by
  unfold dq at w;split at w
  .exact w.inv.w
  exact w.inv.w
 exact⟨e,(e.tk h).2⟩
theorem aZ5 (g:c.mode=3)(e:gP c.mode (hW c.X) (hW c.T) c.R c.l c.Q c.k c.len c.words=(c.fixed,c.tp,c.sl,c.ns,0)):jq c.mode c.X c.T c.R c.l c.Q c.k c.len c.words=O (.inr<|.inl (c.mode,Zb,Zb,c.fixed,c.tp,c.sl,c.ns,c.mode,c.R,c.Q,c.len,c.words,c.len,c.X,c.T,c.l,c.k,c.P,c.tk,c.fixed,c.fixed,c.words,(new1 c).W)):=by
 unfold jq;refine ec (bC6 h g e) ?_
 refine ec (show mJ .. =O (c.mode,Zb,Zb)from by
  unfold mJ;rw[show ix c.mode 4=O 3 from by rw[g];rfl]
  rfl) ?_
 rfl
theorem Y0 (t:c.mode=3)(e0:gP c.mode (hW c.X) (hW c.T) c.R c.l c.Q c.k c.len c.words=(c.fixed,c.tp,c.sl,c.ns,0))(u:hW cs<=1000000)(bs:List Bool)(n:Int)(hi:i<=1000000)(w:dq c i s)(q:QE c en s):
  fE c.mode c.X c.T c.R c.l c.Q c.k c.len c.words cs bs n c.mode en Zb c.fixed c.tp c.sl c.ns c.mode c.R c.Q c.len c.words s.L s.p s.q s.c0 s.c1 s.c2 s.c3 s.z c.X c.T c.l c.k c.P c.tk s.lv s.pk c.words s.W=O (c.mode,en,Zb,c.fixed,c.tp,c.sl,c.ns,c.mode,c.R,c.Q,c.len,c.words,s.L,s.p,s.q,s.c0,s.c1,s.c2,s.c3,s.z,c.X,c.T,c.l,c.k,c.P,c.tk,s.lv,s.pk,c.words,s.W):=by
 have e:=w;unfold dq at e;rw[zE t]at e;have m:=HE h w;have A:en=Zb:=q.1 V1;subst A;have g:=cn (f:=sy c.mode c.X c.T c.R c.l c.Q c.k c.len c.words cs n) (n:=hW cs) (F:=λ_=>(c.mode,Zb,Zb,c.fixed,c.tp,c.sl,c.ns,c.mode,c.R,c.Q,c.len,c.words,s.L,s.p,s.q,s.c0,s.c1,s.c2,s.c3,s.z,c.X,c.T,c.l,c.k,c.P,c.tk,s.lv,s.pk,c.words,s.W)) (c:=(c.mode,Zb,Zb,c.fixed,c.tp,c.sl,c.ns,c.mode,c.R,c.Q,c.len,c.words,s.L,s.p,s.q,s.c0,s.c1,s.c2,s.c3,s.z,c.X,c.T,c.l,c.k,c.P,c.tk,s.lv,s.pk,c.words,s.W)) V1 (λj B=> ?_) ?_
 .unfold fE;exact ec g rfl
 .show cond (Zc<|(j:Int)<((hW cs:Nat):Int)) ((rd cs (j:Int)).bind _) _=_;rw[Zf,zC];refine ec (bt B) ?_;by_cases hx:cs[j]=IntKind.u64.wrap n
  .rw[zB hx,zC];refine ec (bs3 h m.1 m.2 c.mode Zb Zb) ?_;refine ec (ar2 h t e0 e.inv e.cnt V1 m.2) ?_;simp only[cg,gr];rw[Zi];rfl
  .rw[zA hx,zD,Zi];rfl
 .show cond (Zc<|(hW cs:Int)<((hW cs:Nat):Int)) _ _=_
  grind
def Bv (c:Cx)(i g:Nat)(en:Bool)(s:Dy)(e:List<|Int×Int):=((hW e:Int),(g:Int),c.mode,en,Zb,e,c.fixed,c.tp,c.sl,c.ns,c.mode,c.R,c.Q,c.len,c.words,s.L,s.p,s.q,s.c0,s.c1,s.c2,s.c3,s.z,c.X,c.T,c.l,c.k,c.P,c.tk,s.lv,s.pk,c.words,s.W)
theorem ag3 (u:c.mode=3)(e0:gP c.mode (hW c.X) (hW c.T) c.R c.l c.Q c.k c.len c.words=(c.fixed,c.tp,c.sl,c.ns,0))(t:hW cs<=1000000)(bs:List Bool)(i p:Nat)(en:Bool)(s:Dy)(g:List<|Int×Int)(a:Int×Int)(hi:i<20000)(B:hW g<=100000)(w:dq c i s)(q:QE c en s)(e:vI c en s=O a)(m:xN c a s):
  iv c.mode c.R c.l c.Q c.k c.len c.words cs c.X c.T bs (Bv c i p en s g)=O (.inl<|Bv c (i+1) p en (tX c a s)<|g++[a]):=by
 have A:a=(a.1,0):=by
  have z:=e;rw[aS0 u]at z;exact Prod.ext rfl (ba3 z)
 unfold Bv iv;refine ec (bG1 h u V1 w e m) ?_;show cond Za _ _=_;rw[zC,bg V1 V1];refine ec (Y0 h u e0 t bs _ V1 (nW h w e m)<|TD h w q e m) ?_;rw[bB,bD,Zi,show((hW g+1:Nat):Int)=(hW g:Int)+1 by omega,A]
theorem aj9 (t:c.mode=3)(i m:Nat)(en:Bool)(s:Dy)(g:List<|Int×Int)(w:dq c i s)(e:vI c en s=Y)(A:c.mode=2->en=Za):
  iv c.mode c.R c.l c.Q c.k c.len c.words cs c.X c.T bs (Bv c i m en s g)=O (.inr (c.mode,en,Zb,g,c.fixed,c.tp,c.sl,c.ns,c.mode,c.R,c.Q,c.len,c.words,s.L,s.p,s.q,s.c0,s.c1,s.c2,s.c3,s.z,c.X,c.T,c.l,c.k,c.P,c.tk,s.lv,s.pk,c.words,s.W)):=by
 unfold Bv iv;refine ec (bF9 h t w e) ?_;show cond Zb _ _=_;rw[zD];refine ec (bG6 h t w) ?_
 rw[e,show(cK (Y:Option<|Int×Int)&&(Zc (c.mode=2)&& !en))=Zb from by
  by_cases u:c.mode=2
  .omega
  .rw[zA u];rfl,zD]
theorem ag7 (C:c.mode=3)(e0:gP c.mode (hW c.X) (hW c.T) c.R c.l c.Q c.k c.len c.words=(c.fixed,c.tp,c.sl,c.ns,0))(u:hW cs<=1000000)(I:l<=40)(J:c.mode=2->hW bs=l)(H:Way c l 0 Zb (tZ c) es f en s)(F:Fin c l f en s es):
  am (iv c.mode c.R c.l c.Q c.k c.len c.words cs c.X c.T bs) co (Bv c 0 0 Zb (tZ c) [])=O (c.mode,en,Zb,qb es,c.fixed,c.tp,c.sl,c.ns,c.mode,c.R,c.Q,c.len,c.words,s.L,s.p,s.q,s.c0,s.c1,s.c2,s.c3,s.z,c.X,c.T,c.l,c.k,c.P,c.tk,s.lv,s.pk,c.words,s.W):=by
 have w0:=nX h;have D:=H.well h w0;have B:=F.le I;obtain⟨r,q⟩:=LG h (f:=iv c.mode c.R c.l c.Q c.k c.len c.words cs c.X c.T bs) (st:=Bv c) (λi g en s t a hi E w q e m=>ag3 h C e0 u bs i g en s t a hi E w q e m) (λi g s t hi w A=>by omega) (λi g s t hi w A=>by omega) H 0 [] w0 Lo V1 Zz;rw[aD,cD]at r;rw[aD]at D;exact Lp r V1<|aj9 h C (hW es) f en s (qb es) D F.no F.en
theorem Y1 (A:c.mode=1)(e0:gP c.mode (hW c.X) (hW c.T) c.R c.l c.Q c.k c.len c.words=(c.fixed,c.tp,c.sl,c.ns,0))(t:hW cs<=1000000)(bs:List Bool)(n:Int)(hi:i<=1000000)(w:dq c i s)(q:QE c en s):
  fF c.mode c.X c.T c.R c.l c.Q c.k c.len c.words cs bs n c.mode en Zb c.fixed c.tp c.sl c.ns c.mode c.R c.Q c.len c.words s.L s.p s.q s.c0 s.c1 s.c2 s.c3 s.z c.X c.T c.l c.k c.P c.tk (c.off 8:Int) c.ns (hW c.X:Int) s.lv s.pk c.words s.W=O (c.mode,en,Zb,c.fixed,c.tp,c.sl,c.ns,c.mode,c.R,c.Q,c.len,c.words,s.L,s.p,s.q,s.c0,s.c1,s.c2,s.c3,s.z,c.X,c.T,c.l,c.k,c.P,c.tk,(c.off 8:Int),c.ns,(hW c.X:Int),s.lv,s.pk,c.words,s.W):=by
 have e:=w;unfold dq at e;rw[Zh]at e;have m:=HE h w;have g:=cn (f:=sA c.mode c.X c.T c.R c.l c.Q c.k c.len c.words cs n) (n:=hW cs) (F:=λ_=>(c.mode,en,Zb,c.fixed,c.tp,c.sl,c.ns,c.mode,c.R,c.Q,c.len,c.words,s.L,s.p,s.q,s.c0,s.c1,s.c2,s.c3,s.z,c.X,c.T,c.l,c.k,c.P,c.tk,(c.off 8:Int),c.ns,(hW c.X:Int),s.lv,s.pk,c.words,s.W)) (c:=(c.mode,en,Zb,c.fixed,c.tp,c.sl,c.ns,c.mode,c.R,c.Q,c.len,c.words,s.L,s.p,s.q,s.c0,s.c1,s.c2,s.c3,s.z,c.X,c.T,c.l,c.k,c.P,c.tk,(c.off 8:Int),c.ns,(hW c.X:Int),s.lv,s.pk,c.words,s.W)) V1 (λj u=> ?_) ?_
 .unfold fF;exact ec g rfl
 .show cond (Zc<|(j:Int)<((hW cs:Nat):Int)) ((rd cs (j:Int)).bind _) _=_;rw[Zf,zC];refine ec (bt u) ?_;by_cases hx:cs[j]=IntKind.u64.wrap n
  .rw[zB hx,zC];refine ec (bs4 h m.1 m.2 c.mode en Zb) ?_;refine ec (ar3 h A e0 e.inv e.len e.cnt V1 m.2 q.1 q.2) ?_;simp only[cg,gr];rw[Zi];rfl
  .rw[zA hx,zD,Zi];rfl
 .show cond (Zc<|(hW cs:Int)<((hW cs:Nat):Int)) _ _=_
  grind
def Bw (c:Cx)(i g:Nat)(en:Bool)(s:Dy)(e:List<|Int×Int):=((hW e:Int),(g:Int),c.mode,en,Zb,e,c.fixed,c.tp,c.sl,c.ns,c.mode,c.R,c.Q,c.len,c.words,s.L,s.p,s.q,s.c0,s.c1,s.c2,s.c3,s.z,c.X,c.T,c.l,c.k,c.P,c.tk,(c.off 8:Int),c.ns,(hW c.X:Int),s.lv,s.pk,c.words,s.W)
theorem ag4 (u:c.mode=1)(z:1<=c.ns)(e0:gP c.mode (hW c.X) (hW c.T) c.R c.l c.Q c.k c.len c.words=(c.fixed,c.tp,c.sl,c.ns,0))(t:hW cs<=1000000)(bs:List Bool)(i p:Nat)(en:Bool)(s:Dy)(g:List<|Int×Int)(a:Int×Int)(hi:i<20000)(A:hW g<=100000)(w:dq c i s)(q:QE c en s)(e:vI c en s=O a)(m:xN c a s):
  iw c.mode c.R c.l c.Q c.k c.len c.words cs c.X c.T bs (Bw c i p en s g)=O (.inl<|Bw c (i+1) p en (tX c a s)<|g++[a]):=by
 unfold Bw iw;refine ec (bG2 h u z V1 w e m) ?_;show cond Za _ _=_;rw[zC,bg V1 V1];refine ec (Y1 h u e0 t bs _ V1 (nW h w e m)<|TD h w q e m) ?_;rw[bB,bD,Zi,show((hW g+1:Nat):Int)=(hW g:Int)+1 by omega]
theorem ak0 (t:c.mode=1)(u:1<=c.ns)(i m:Nat)(en:Bool)(s:Dy)(g:List<|Int×Int)(w:dq c i s)(e:vI c en s=Y)(B:c.mode=2->en=Za):
  iw c.mode c.R c.l c.Q c.k c.len c.words cs c.X c.T bs (Bw c i m en s g)=O (.inr (c.mode,en,Zb,g,c.fixed,c.tp,c.sl,c.ns,c.mode,c.R,c.Q,c.len,c.words,s.L,s.p,s.q,s.c0,s.c1,s.c2,s.c3,s.z,c.X,c.T,c.l,c.k,c.P,c.tk,(c.off 8:Int),c.ns,(hW c.X:Int),s.lv,s.pk,c.words,s.W)):=by
 unfold Bw iw;refine ec (bG0 h t u w e) ?_;show cond Zb _ _=_;rw[zD];refine ec (bG7 h t u w) ?_
 rw[e,show(cK (Y:Option<|Int×Int)&&(Zc (c.mode=2)&& !en))=Zb from by
  by_cases A:c.mode=2
  .omega
  .rw[zA A];rfl,zD]
theorem ag8 (C:c.mode=1)(D:1<=c.ns)(e0:gP c.mode (hW c.X) (hW c.T) c.R c.l c.Q c.k c.len c.words=(c.fixed,c.tp,c.sl,c.ns,0))(u:hW cs<=1000000)(J:l<=40)(K:c.mode=2->hW bs=l)(H:Way c l 0 Zb (tZ c) es f en s)(F:Fin c l f en s es):
  am (iw c.mode c.R c.l c.Q c.k c.len c.words cs c.X c.T bs) co (Bw c 0 0 Zb (tZ c) [])=O (c.mode,en,Zb,qb es,c.fixed,c.tp,c.sl,c.ns,c.mode,c.R,c.Q,c.len,c.words,s.L,s.p,s.q,s.c0,s.c1,s.c2,s.c3,s.z,c.X,c.T,c.l,c.k,c.P,c.tk,(c.off 8:Int),c.ns,(hW c.X:Int),s.lv,s.pk,c.words,s.W):=by
 have w0:=nX h;have E:=H.well h w0;have B:=F.le J;obtain⟨r,q⟩:=LG h (f:=iw c.mode c.R c.l c.Q c.k c.len c.words cs c.X c.T bs) (st:=Bw c) (λi g en s t a hi I w q e m=>ag4 h C D e0 u bs i g en s t a hi I w q e m) (λi g s t hi w A=>by omega) (λi g s t hi w A=>by omega) H 0 [] w0 Lo V1 Zz;rw[aD,cD]at r;rw[aD]at E;exact Lp r V1<|ak0 h C D (hW es) f en s (qb es) E F.no F.en
theorem Y2 (A:c.mode=2)(e0:gP c.mode (hW c.X) (hW c.T) c.R c.l c.Q c.k c.len c.words=(c.fixed,c.tp,c.sl,c.ns,0))(t:hW cs<=1000000)(bs:List Bool)(n:Int)(hi:i<=1000000)(w:dq c i s)(q:QE c en s):
  fG c.mode c.X c.T c.R c.l c.Q c.k c.len c.words cs bs n c.mode en Zb c.fixed c.tp c.sl c.ns c.mode c.R c.Q c.len c.words s.L s.p s.q s.c0 s.c1 s.c2 s.c3 s.z c.X c.T c.l c.k c.P c.tk (c.off 8:Int) c.ns (hW c.X:Int) s.lv s.pk c.words s.W=O (c.mode,en,Zb,c.fixed,c.tp,c.sl,c.ns,c.mode,c.R,c.Q,c.len,c.words,s.L,s.p,s.q,s.c0,s.c1,s.c2,s.c3,s.z,c.X,c.T,c.l,c.k,c.P,c.tk,(c.off 8:Int),c.ns,(hW c.X:Int),s.lv,s.pk,c.words,s.W):=by
 have e:=w;unfold dq at e;rw[Zh]at e;have m:=HE h w;have g:=cn (f:=sB c.mode c.X c.T c.R c.l c.Q c.k c.len c.words cs n) (n:=hW cs) (F:=λ_=>(c.mode,en,Zb,c.fixed,c.tp,c.sl,c.ns,c.mode,c.R,c.Q,c.len,c.words,s.L,s.p,s.q,s.c0,s.c1,s.c2,s.c3,s.z,c.X,c.T,c.l,c.k,c.P,c.tk,(c.off 8:Int),c.ns,(hW c.X:Int),s.lv,s.pk,c.words,s.W)) (c:=(c.mode,en,Zb,c.fixed,c.tp,c.sl,c.ns,c.mode,c.R,c.Q,c.len,c.words,s.L,s.p,s.q,s.c0,s.c1,s.c2,s.c3,s.z,c.X,c.T,c.l,c.k,c.P,c.tk,(c.off 8:Int),c.ns,(hW c.X:Int),s.lv,s.pk,c.words,s.W)) V1 (λj u=> ?_) ?_
 .unfold fG;exact ec g rfl
 .show cond (Zc<|(j:Int)<((hW cs:Nat):Int)) ((rd cs (j:Int)).bind _) _=_;rw[Zf,zC];refine ec (bt u) ?_;by_cases hx:cs[j]=IntKind.u64.wrap n
  .rw[zB hx,zC];refine ec (bs5 h m.1 m.2 c.mode en Zb) ?_;refine ec (ar4 h A e0 e.inv e.len e.cnt V1 m.2 q.1 q.2) ?_;simp only[cg,gr];rw[Zi];rfl
  .rw[zA hx,zD,Zi];rfl
 .show cond (Zc<|(hW cs:Int)<((hW cs:Nat):Int)) _ _=_
  grind
def nT (c:Cx)(i g:Nat)(en:Bool)(s:Dy)(e:List<|Int×Int):=((hW e:Int),(g:Int),c.mode,en,Zb,e,c.fixed,c.tp,c.sl,c.ns,c.mode,c.R,c.Q,c.len,c.words,s.L,s.p,s.q,s.c0,s.c1,s.c2,s.c3,s.z,c.X,c.T,c.l,c.k,c.P,c.tk,(c.off 8:Int),c.ns,(hW c.X:Int),s.lv,s.pk,c.words,s.W)
theorem ag5 (u:c.mode=2)(z:1<=c.ns)(e0:gP c.mode (hW c.X) (hW c.T) c.R c.l c.Q c.k c.len c.words=(c.fixed,c.tp,c.sl,c.ns,0))(t:hW cs<=1000000)(bs:List Bool)(i p:Nat)(en:Bool)(s:Dy)(g:List<|Int×Int)(a:Int×Int)(hi:i<20000)(A:hW g<=100000)(w:dq c i s)(q:QE c en s)(e:vI c en s=O a)(m:xN c a s):
  eY c.mode c.R c.l c.Q c.k c.len c.words cs c.X c.T bs (nT c i p en s g)=O (.inl<|nT c (i+1) p en (tX c a s)<|g++[a]):=by
 unfold nT eY;refine ec (bG3 h u z V1 w e m) ?_;show cond Za _ _=_;rw[zC,bg V1 V1];refine ec (Y2 h u e0 t bs _ V1 (nW h w e m)<|TD h w q e m) ?_;rw[bB,bD,Zi,show((hW g+1:Nat):Int)=(hW g:Int)+1 by omega]
theorem al1 (t:c.mode=2)(u:1<=c.ns)(i m:Nat)(en:Bool)(s:Dy)(g:List<|Int×Int)(w:dq c i s)(e:vI c en s=Y)(B:c.mode=2->en=Za):
  eY c.mode c.R c.l c.Q c.k c.len c.words cs c.X c.T bs (nT c i m en s g)=O (.inr (c.mode,en,Zb,g,c.fixed,c.tp,c.sl,c.ns,c.mode,c.R,c.Q,c.len,c.words,s.L,s.p,s.q,s.c0,s.c1,s.c2,s.c3,s.z,c.X,c.T,c.l,c.k,c.P,c.tk,(c.off 8:Int),c.ns,(hW c.X:Int),s.lv,s.pk,c.words,s.W)):=by
 unfold nT eY;refine ec (bm8 h t u w e) ?_;show cond Zb _ _=_;rw[zD];refine ec (aI8 h t u w) ?_
 rw[e,show(cK (Y:Option<|Int×Int)&&(Zc (c.mode=2)&& !en))=Zb from by
  by_cases A:c.mode=2
  .grind
  .rw[zA A];rfl,zD]
theorem an1 (p:c.mode=2)(t:1<=c.ns)(A:hW bs<=1000000)(i g:Nat)(s:Dy)(m:List<|Int×Int)(w:dq c i s)(e:vI c Zb s=Y)(z:s.q= -1)(u:s.L<65535)(B:g<hW bs):
  eY c.mode c.R c.l c.Q c.k c.len c.words cs c.X c.T bs (nT c i g Zb s m)=O (.inl<|nT c (i+1) (g+1) Zb (HS s) m):=by
 unfold nT eY;refine ec (bm8 h p t w e) ?_;show cond Zb _ _=_;rw[zD];refine ec (aI8 h p t w) ?_;rw[e,zB p];show cond Za _ _=_;rw[zC,zB (show(g:Int)<((hW bs:Nat):Int)by omega)];refine ec (fdm h p t w e z u) ?_;rw[Zi,show(g:Int)+1=((g+1:Nat):Int)by omega];rfl
theorem aq2 (p:c.mode=2)(t:1<=c.ns)(u:hW bs<=1000000)(i g:Nat)(s:Dy)(m:List<|Int×Int)(w:dq c i s)(e:vI c Zb s=Y)(A:s.q= -1)(z:g=hW bs):
  eY c.mode c.R c.l c.Q c.k c.len c.words cs c.X c.T bs (nT c i g Zb s m)=O (.inl<|nT c (i+1) (g+1) Za s m):=by
 unfold nT eY;refine ec (bm8 h p t w e) ?_;show cond Zb _ _=_;rw[zD];refine ec (aI8 h p t w) ?_;rw[e,zB p];show cond Za _ _=_;rw[zC,zA (show¬(g:Int)<((hW bs:Nat):Int)by omega)];refine ec (fds h p t w e) ?_;rw[Zi,show(g:Int)+1=((g+1:Nat):Int)by omega]
theorem ag9 (u:c.mode=2)(B:1<=c.ns)(e0:gP c.mode (hW c.X) (hW c.T) c.R c.l c.Q c.k c.len c.words=(c.fixed,c.tp,c.sl,c.ns,0))(C:hW cs<=1000000)(N:l<=40)(A:c.mode=2->hW bs=l)(H:Way c l 0 Zb (tZ c) es f en s)(F:Fin c l f en s es):
  am (eY c.mode c.R c.l c.Q c.k c.len c.words cs c.X c.T bs) co (nT c 0 0 Zb (tZ c) [])=O (c.mode,en,Zb,qb es,c.fixed,c.tp,c.sl,c.ns,c.mode,c.R,c.Q,c.len,c.words,s.L,s.p,s.q,s.c0,s.c1,s.c2,s.c3,s.z,c.X,c.T,c.l,c.k,c.P,c.tk,(c.off 8:Int),c.ns,(hW c.X:Int),s.lv,s.pk,c.words,s.W):=by
 have w0:=nX h;have I:=H.well h w0;have E:=F.le N;obtain⟨r,q⟩:=LG h (f:=eY c.mode c.R c.l c.Q c.k c.len c.words cs c.X c.T bs) (st:=nT c) (λi g en s t a hi M w q e m=>ag5 h u B e0 C bs i g en s t a hi M w q e m) (λi g s t hi w _ e D J K=>an1 h u B Zv i g s t w e D J Zv) (λi g s t hi w _ e D K=>aq2 h u B Zv i g s t w e D Zv) H 0 [] w0 Lo V1 Zz;rw[aD,cD]at r;rw[aD]at I;exact Lp r V1<|al1 h u B (hW es) f en s (qb es) I F.no F.en
end
end
section
def aB6 (l:List bx):0<=IC l/\IC l<=30:=by
 unfold IC eg
 repeat' split
 all_goals simp
theorem aa2 (m:Int)(x t:Nat)(R:Int)(l:List bx)(Q:Int)(k:List bx)(n b:Int):0<=sK m x t R l Q k n b/\sK m x t R l Q k n b<=30:=by
 have p:0<=mU R l Q k/\mU R l Q k<=30:=by
  have e:=aB3 l;have g:=aB3 k;have q:=aB4 R l;have u:=aB4 Q k;have z:=aB5 l;have A:=aB5 k;have B:=aB6 l;have C:=aB6 k;unfold mU
  repeat' split
  all_goals omega
 have d:0<=yd R Q x t/\yd R Q x t<=30:=by
  unfold yd
  repeat' split
  all_goals omega
 unfold sK hk0 hk3 hk4
 repeat' split
 all_goals omega
theorem Rv {e:Int}(h:Fg w= .inl e):1<=e/\e<=30:=by
 unfold Fg at h;split at h
 .injection h with h;omega
 split at h
 .rename_i m g;injection h with h
  have q:=On g
  have:0<=m/\m<=30:=by
   unfold FE at g;split at g
   .injection g with g;omega
   split at g
   .split at g
    .injection g with g;omega
    split at g
    .injection g with g;omega
    split at g
    .injection g with g
     rw[<-g];exact aa2 _ _ _ _ _ _ _ _ _
    cases g
   injection g with g;omega
  omega
 split at h
 .rename_i p r g t;injection h with h
  rw[<-h]
  have:0<=p.pl/\p.pl<=30:=by
   unfold Hd.pl gP;split
   .exact aa2 _ _ _ _ _ _ _ _ _
   split<;>simp
  omega
 grind
theorem aV6 (z:gM w): ∃b,w6 w=O b/\(b=Za->hW w<=1500/\∀g cs bs,Fg w= .inr (g,cs,bs)->(if g.m≠2 then g.n else(hW bs:Int))<=40/\hW cs<=1000000):=by
 unfold w6;by_cases u:(1500:Int)<((hW w:Nat):Int)
 .rw[zB u,zC]
  grind
 rw[zA u,zD];have q:=Pl z V1;cases e:Fg w with
 |inl J=>
  rw[e]at q;have V:=Rv e;refine⟨Za, ?_,λ_=>⟨V1,λg cs bs k=>by cases k⟩⟩
  grind
 |inr p=>
  have⟨g,cs,bs⟩:=p;rw[e]at q
  obtain⟨r,D⟩: ∃r,FE w= .inr (g,r):=by
   unfold Fg at e
   grind
  have⟨H,I,K,M⟩:=Tc z V1 D;have⟨A,W,_⟩:=aV5 (a0:=g.m) (a1:=g.x) (a2:=g.t) (a3:=g.R) (a5:=g.Q) (a7:=g.n) (a8:=g.b) H.v I.v;by_cases E:(if g.m≠2 then g.n else(hW bs:Int))<=40
  .refine⟨if A then Zc (((hW cs:Nat):Int)<=200)else Zb, ?_,λN=>⟨V1,λF C B k=> ?_⟩⟩
   .refine ec q ?_
    grind
   grind
  grind
end
section
open Go.IntKind renaming wrap->zH,i64->zI,u64->zJ
open Int renaming toNat->aD,tmod->bD,tdiv->cD,toNat_natCast->cK
open List renaming set->aB,append_assoc->cL,length->cM,drop->cO,map->cP,take->cQ,cons_append->cS,length_set->cT,nil_append->cU,replicate->cV
open Nat renaming beq->bB,sub_zero->cB,ble->cN,pow_succ->cR,lt_of_lt_of_le->cW,pow_le_pow_right->cX
def pz (n:Nat):Zd:=if h:n<10 then [48+(n:Int)]else pz (n / 10)++[48+((n % 10:Nat):Int)]
termination_by n
decreasing_by omega
def wJ {n:Nat}(h:n<10):pz n=[48+(n:Int)]:=by rw[pz,dif_pos h]
def Gr {n:Nat}(h: ¬n<10):pz n=pz (n / 10)++[48+((n % 10:Nat):Int)]:=by rw[pz,dif_neg h]
def ax8 (n:Nat):hW (pz n)=Lib.nDigits n:=by
 induction n using Nat.strongRecOn with
 |ind n e=>
  by_cases h:n<10
  .rw[wJ h,Lib.nDigits_small h];rfl
  rw[Gr h,Lib.nDigits_big h,List.length_append,e _ V1];rfl
def qt :Nat->Nat->Zd
 |0,_=>[]
 |k+1,v=>qt k (v / 10)++[48+((v % 10:Nat):Int)]
def ax9 (n:Nat):pz n=qt (Lib.nDigits n) n:=by
 induction n using Nat.strongRecOn with
 |ind n e=>
  by_cases h:n<10
  .rw[wJ h,Lib.nDigits_small h,qt,qt,Nat.mod_eq_of_lt h];rfl
  rw[Gr h,Lib.nDigits_big h,qt,e _ V1]
def Pa (a:Nat): ∀b v,qt (a+b) v=qt a (v / 10 ^ b)++qt b v
 |0,v=>by simp[qt]
 |b+1,v=>by
  rw[<-Nat.add_assoc,qt,Pa a b<|v / 10,qt,cL,Nat.div_div_eq_div_mul,cR,Nat.mul_comm 10]
def Pb : ∀b v,qt b (v % 10 ^ b)=qt b v
 |0,v=>rfl
 |b+1,v=>by
  have e:v % 10 ^ (b+1) / 10=v / 10 % 10 ^ b:=by rw[cR,Nat.mul_comm,Nat.mod_mul_right_div_self]
  have g:v % 10 ^ (b+1) % 10=v % 10:=Nat.mod_mod_of_dvd _ (by rw[cR];exact Nat.dvd_mul_left _ _);rw[qt,qt,e,g,Pb b]
def bu0 (v:Nat):qt 2 v=[48+((v / 10 % 10:Nat):Int),48+((v % 10:Nat):Int)]:=rfl
theorem ba2 : ∀k n,1<=k->n<10 ^ k->Lib.nDigits n<=k
 |0,_,h,_=>by omega
 |k+1,n,_,h=>by
  by_cases e:n<10
  .rw[Lib.nDigits_small e];omega
  .rw[Lib.nDigits_big e]
   have:1<=k:=by
    grind
   have:=ba2 k (n / 10) this (by rw[cR]at h;omega);omega
def aR6 (n:Nat)(h:n<18446744073709551616):Lib.nDigits n<=20:=ba2 20 n V1<|cW h V5
def aG9 (h:a+b<=9223372036854775807):ko a b=Za:=Nat.ble_eq_true_of_le h
def ja {β:Type}{x:Option β}(h:a+b<=9223372036854775807):gd (ko a b) x=x:=by rw[aG9 h];rfl
def ap9 {n:Nat}(h:n<100):gW (n:Int)=O (pz n):=by
 have g: ∀k:_root_.Fin 10,gW ((k:Nat):Int)=O ([48+((k:Nat):Int)]:Zd):=by decide+kernel
 have m: ∀k:_root_.Fin 90,gW (((k:Nat)+10:Nat):Int)=O ([48+((((k:Nat)+10) / 10:Nat):Int),48+((((k:Nat)+10) % 10:Nat):Int)]:Zd):=by decide+kernel
 by_cases e:n<10
 .rw[wJ e];exact g ⟨n,e⟩
 have:=m ⟨n-10,V1⟩;simp only at this;rw[show n-10+10=n by omega]at this;rw[this,Gr e,wJ V1];rfl
def Up {n:Int}(h:0<=n/\n<4294967296):IntKind.u32.wrap n=n:=by
 show n % 4294967296=n;omega
def Cc (h:v<100):rd pC (IntKind.u32.wrap<|IntKind.u32.wrap ((v:Int)*2)+1)=O (48+((v % 10:Nat):Int)):=by
 have e: ∀k:_root_.Fin 100,rd pC (IntKind.u32.wrap<|IntKind.u32.wrap (((k:Nat):Int)*2)+1)=O (48+(((k:Nat) % 10:Nat):Int)):=by decide+kernel
 exact e ⟨v,h⟩
def yp (h:v<100):rd pC (IntKind.u32.wrap<|(v:Int)*2)=O (48+((v / 10 % 10:Nat):Int)):=by
 have e: ∀k:_root_.Fin 100,rd pC (IntKind.u32.wrap<|((k:Nat):Int)*2)=O (48+(((k:Nat) / 10 % 10:Nat):Int)):=by decide+kernel
 exact e ⟨v,h⟩
def yj (l:Zd)(i r:Nat):Zd:=(l.take r).drop i
def aG4 {l:Zd}(h:j<r)(e:r<=hW l):yj (l.set j x) j r=x::yj l (j+1) r:=by
 unfold yj;rw[List.drop_eq_getElem_cons V3]
 congr 1
 .simp
 rw[List.drop_take,List.drop_take]
 congr 1
 rw[List.drop_set_of_lt V1]
def aA2 (h:k<i)(hi:i<=r)(e:r<=20):ix (zH zI<|(i:Int)-((k+1:Nat):Int)) (aD (r:Int)-0)=O (i-(k+1)):=by
 rw[Zi];have:((i:Int)-((k+1:Nat):Int))=((i-(k+1):Nat):Int):=by omega
 rw[this,cK,cB];exact bn V1
def Tm {l:Zd}(h:j<hW l):l[(0+j)]?=O (l[j]'h):=by rw[Nat.zero_add];exact List.getElem?_eq_getElem h
def tm8 (a:Nat):bD (a:Int) 100000000=((a % 100000000:Nat):Int):=rfl
def tm4 (a:Nat):bD (a:Int) 10000=((a % 10000:Nat):Int):=rfl
def tm2 (a:Nat):bD (a:Int) 100=((a % 100:Nat):Int):=rfl
def td8 (a:Nat):cD (a:Int) 100000000=((a / 100000000:Nat):Int):=rfl
def td4 (a:Nat):cD (a:Int) 10000=((a / 10000:Nat):Int):=rfl
def td2 (a:Nat):cD (a:Int) 100=((a / 100:Nat):Int):=rfl
def Ul (h:a<4294967296):IntKind.u32.wrap (a:Int)=(a:Int):=Up V1
def bE3 (h:k<i)(hi:i<=r)(g:r<=20){q:Int}(e:q=((k+1:Nat):Int)):ix (zH zI<|(i:Int)-q) (aD (r:Int)-0)=O (i-(k+1)):=by
 rw[e];exact aA2 h hi g
def wI {α:Type}{a b:α}{l m:List α}(h:a=b)(k:l=m):a::l=b::m:=by rw[h,k]
def zp {β:Type}{l:Zd}(m:hW l=24){q:Int}(e:q=((k+1:Nat):Int))(h:k<i)(hi:i<=r)(g:r<=20)(K:Nat->Option β):
  (im (ix (zH zI<|(i:Int)-q)<|aD (r:Int)-0) λj=>im (l[(0+j)]?) λ_=>K j)=K (i-(k+1)):=by
 rw[bE3 h hi g e,zG,Tm V1];rfl
def au {l:Zd}(h:hW l=24):hW (aB l j x)=24:=by rw[cT];exact h
theorem jb {l:Zd}{t:Zd}(e:hW l=24)(h:k<i)(hi:i<=r)(g:r<=20)(ht:yj l (i-k) r=t):yj (aB l (0+(i-(k+1))) x) (i-(k+1)) r=x::t:=by
 rw[Nat.zero_add,aG4 V1 V1]
 grind
theorem ar1 (t:8<=i)(hi:i<=r)(g:r<=20)(e:hW buf=24)(u:v<18446744073709551616):
  ∃m,me (r:Int) ((i:Int),(v:Int),buf)=O (.inl (((i-8:Nat):Int),((v / 100000000:Nat):Int),m))/\hW m=24/\yj m (i-8) r=qt 8 v++yj buf i r:=by
 unfold me;simp only[ah];rw[Zg];simp only[tm8,td8];rw[Ul (show v % 100000000<4294967296 by omega)];simp only[tm4,td4,tm2,td2];generalize p:v % 100000000=w;rw[Ul (show w / 10000<4294967296 by omega),Ul (show w % 10000 / 100<4294967296 by omega)];simp only[tm2,td2];rw[Ul (show w / 10000 / 100<4294967296 by omega)]
 rw[Cc (show w % 10000 % 100<100 by omega),yp (show w % 10000 % 100<100 by omega),Cc (show w % 10000 / 100<100 by omega),yp (show w % 10000 / 100<100 by omega),
  Cc (show w / 10000 % 100<100 by omega),yp (show w / 10000 % 100<100 by omega),Cc (show w / 10000 / 100<100 by omega),yp (show w / 10000 / 100<100 by omega)]
 simp only[zG];rw[zp (q:=1) (k:=0) e rfl V1 hi g,zp (q:=2) (k:=1) (au e) rfl V1 hi g,zp (q:=3) (k:=2) (au<|au e) rfl V1 hi g,zp (q:=4) (k:=3) (au<|au<|au e) rfl V1 hi g,zp (q:=5) (k:=4) (au<|au<|au<|au e) rfl V1 hi g,zp (q:=6) (k:=5) (au<|au<|au<|au<|au e) rfl V1 hi g,zp (q:=7) (k:=6) (au<|au<|au<|au<|au<|au e) rfl V1 hi g,zp (q:=8) (k:=7) (au<|au<|au<|au<|au<|au<|au e) rfl V1 hi g,ae (show-9223372036854775808<=(i:Int)-8/\(i:Int)-8<=9223372036854775807 by omega),AB (show v / 100000000<9223372036854775808 by omega),show((i:Int)-8)=((i-8:Nat):Int)by omega];refine⟨_,rfl, ?_, ?_⟩
 .grind
 .refine(jb (k:=7) (au<|au<|au<|au<|au<|au<|au e) V1 hi g
   (jb (k:=6) (au<|au<|au<|au<|au<|au e) V1 hi g
   (jb (k:=5) (au<|au<|au<|au<|au e) V1 hi g
   (jb (k:=4) (au<|au<|au<|au e) V1 hi g
   (jb (k:=3) (au<|au<|au e) V1 hi g
   (jb (k:=2) (au<|au e) V1 hi g
   (jb (k:=1) (au e) V1 hi g
   (jb (k:=0) e V1 hi g rfl)))))))).trans ?_
  subst p;rw[<-Pb 8 v];simp only[qt,cU,cS,cL,cB,Nat.reducePow];refine wI ?_ (wI ?_ (wI ?_ (wI ?_ (wI ?_ (wI ?_ (wI ?_ (wI ?_ rfl)))))))
  all_goals omega
def QQ : ∀l:Zd,(∀n∈l,0<=n/\n<=255)->l.map xW=l
 |[],_=>rfl
 |n::l,h=>by
  have e:=h n List.mem_cons_self;rw[List.map_cons,QQ l λx hx=>h x<|List.mem_cons_of_mem _ hx]
  congr 1
  show(((UInt8.ofNat n.toNat).toNat:Nat):Int)=n;rw[UInt8.toNat_ofNat'];omega
def VT : ∀k v,∀n∈qt k v,48<=n/\n<=57
 |0,_,n,h=>by cases h
 |k+1,v,n,h=>by
  rw[qt,List.mem_append]at h;rcases h with h|h
  .exact VT k _ n h
  .rw[List.mem_singleton]at h;omega
theorem ar0 {n:Nat}(z:r=Lib.nDigits n)(E:n<18446744073709551616): ∃(i v:Nat) (buf:Zd),am (me (r:Int)) co ((r:Int),(n:Int),cV 24 (0:Int))=O ((v:Int),(i:Int),buf)/\i<8/\i<=r/\hW buf=24/\qt r n=qt i v++yj buf i r/\v<=n/\v<10 ^ i:=by
 have e:r<=20:=by rw[z];exact aR6 n E
 have⟨c,H,i,v,buf,I⟩:=lj (f:=me (r:Int)) (a:=((r:Int),(n:Int),cV 24 (0:Int)))
  (λs=> ∃(i v:Nat),s.1=(i:Int)/\s.2.1=(v:Int)/\i<=r/\hW s.2.2=24/\qt r n=qt i v++yj s.2.2 i r/\v<=n/\v<10 ^ i) (λs=>hX s.1)
  (λc=> ∃(i v:Nat) (buf:Zd),c=((v:Int),(i:Int),buf)/\i<8/\i<=r/\hW buf=24/\qt r n=qt i v++yj buf i r/\v<=n/\v<10 ^ i)
  ⟨r,n,rfl,rfl,Nat.le_refl _,rfl,by unfold yj;simp,Nat.le_refl _,by rw[z];exact Lib.lt_pow_nDigits n⟩ V3 (λs ⟨i,v,t,u,hi,g,p,F,m⟩=>by
   have⟨J,K,buf⟩:=s;simp only at t u g p;subst t;subst u;by_cases D:8<=i
   .left;have⟨q,A,B,C⟩:=ar1 D hi e g (by omega:v<18446744073709551616);refine⟨_,A,⟨i-8,v / 100000000,rfl,rfl,V1,B, ?_,V1, ?_⟩,by simp;omega⟩
    .rw[C,<-cL,p]
     congr 1
     have:=Pa (i-8) 8 v
     grind
    have:i=i-8+8:=by omega
    grind
   right;refine⟨_, ?_,i,v,buf,rfl,V1,hi,g,p,F,m⟩;unfold me;simp only[ah]
   rw[Zh])
 grind
theorem aq9 {β:Type}(J:4<=i)(hi:i<=r)(u:r<=20)(m:buf.length=24)(M:v<100000000)(K:Int×Int×Zd->Option β):
  ∃e,e.length=24/\yj e (i-4) r=qt 4 v++yj buf i r/\
  (((cond (Zc<|4<=(i:Int))
   ((rd pC<|IntKind.u32.wrap<|IntKind.u32.wrap (bD (bD (IntKind.u32.wrap (v:Int)) 10000) 100*2)+1).bind λt=>
   (rd pC<|IntKind.u32.wrap<|bD (bD (IntKind.u32.wrap (v:Int)) 10000) 100*2).bind λA=>
   (ix (zH zI<|(i:Int)-1)<|aD (r:Int)-0).bind λg=>
   (buf[(0+g)]?).bind λE=>
   (ix (zH zI<|(i:Int)-2)<|aD (r:Int)-0).bind λp=>
   ((aB buf (0+g) t)[(0+p)]?).bind λF=>
   (rd pC<|IntKind.u32.wrap<|IntKind.u32.wrap (IntKind.u32.wrap (cD (bD (IntKind.u32.wrap (v:Int)) 10000) 100)*2)+1).bind λC=>
   (rd pC<|IntKind.u32.wrap<|IntKind.u32.wrap (cD (bD (IntKind.u32.wrap (v:Int)) 10000) 100)*2).bind λD=>
   (ix (zH zI<|(i:Int)-3)<|aD (r:Int)-0).bind λz=>
   ((aB (aB buf (0+g) t) (0+p) A)[(0+z)]?).bind λH=>
   (ix (zH zI<|(i:Int)-4)<|aD (r:Int)-0).bind λB=>
   ((aB (aB (aB buf (0+g) t) (0+p) A) (0+z) C)[(0+B)]?).bind λI=>
   O (zH zI<|(i:Int)-4,IntKind.u32.wrap<|cD (IntKind.u32.wrap (v:Int)) 10000,aB (aB (aB (aB buf (0+g) t) (0+p) A) (0+z) C) (0+B) D))
   (O ((i:Int),IntKind.u32.wrap (v:Int),buf))):Option<|Int×Int×Zd)).bind K=K (((i-4:Nat):Int),((v / 10000:Nat):Int),e):=by
 refine⟨_,au (j:=0+(i-(3+1))) (x:=48+((v % 10000 / 100 / 10 % 10:Nat):Int))<|au (j:=0+(i-(2+1))) (x:=48+((v % 10000 / 100 % 10:Nat):Int))<|au (j:=0+(i-(1+1))) (x:=48+((v % 10000 % 100 / 10 % 10:Nat):Int))<|au (j:=0+(i-(0+1))) (x:=48+((v % 10000 % 100 % 10:Nat):Int)) m, ?_, ?_⟩
 .refine(jb (k:=3) (au<|au<|au m) V1 hi u
   (jb (k:=2) (au<|au m) V1 hi u
   (jb (k:=1) (au m) V1 hi u
   (jb (k:=0) m V1 hi u rfl)))).trans ?_
  rw[<-Pb 4 v];simp only[qt,cU,cS,cL,cB,Nat.reducePow]
  grind
 .simp only[ah];rw[Zg,Ul (show v<4294967296 by omega)];simp only[tm4,td4,tm2,td2];rw[Ul (show v % 10000 / 100<4294967296 by omega),Ul (show v / 10000<4294967296 by omega)];rw[Cc (show v % 10000 % 100<100 by omega),yp (show v % 10000 % 100<100 by omega),Cc (show v % 10000 / 100<100 by omega),yp (show v % 10000 / 100<100 by omega)];simp only[zG];rw[zp (q:=1) (k:=0) m rfl V1 hi u];rw[zp (q:=2) (k:=1) (au m) rfl V1 hi u];rw[zp (q:=3) (k:=2) (au<|au m) rfl V1 hi u];rw[zp (q:=4) (k:=3) (au<|au<|au m) rfl V1 hi u];simp only[zG];rw[ae (show-9223372036854775808<=(i:Int)-4/\(i:Int)-4<=9223372036854775807 by omega),show((i:Int)-4)=((i-4:Nat):Int)by omega]
def Kp (g:r<=20)(e:hW buf=24)(hx: ∀n∈yj buf 0 r,0<=n/\n<=255):gd (bB 1 1&&bB 0 0&&cN 24 (cM buf)&&dz 0 (r:Int) 24&&Zc (0<24)) (O<|cP xW<|cQ (aD (r:Int)-0)<|cO 0 buf)=O (yj buf 0 r):=by
 rw[e,Zk];show O _=_;rw[cK,cB,List.drop_zero]
 congr 1
 exact QQ _ hx
theorem Ys (n:Nat)(V:n<18446744073709551616):uP (n:Int)=O (pz n):=by
 unfold uP;by_cases h:n<100
 .rw[show Zc ((n:Int)<100)=Za from zB V1,zC,Zi,ap9 h];rfl
 rw[show Zc ((n:Int)<100)=Zb from zA V1,zD];unfold gZ ab2;rw[Zg,cK];simp only[zG];generalize M:Lib.nDigits n=r;have g:r<=20:=by rw[<-M];exact aR6 n V
 rw[show gd (bB 1 1&&bB 0 0&&cN 24 (cM<|cV 24 (0:Int))&&dz 0 (r:Int) 24&&Zc (0<24))=gd (β:=Zd) Za by
  rw[Zk];rfl,bp]
 rw[cK,cB];obtain⟨i,v,buf,h1,h8,hi,m,W,hv,p⟩:=ar0 M.symm V;rw[h1];simp only[zG];rw[ax9,M,W];have B: ∀x∈qt r n,0<=x/\x<=255:=λx hx=>by have:=VT r n x hx;omega
 rw[W]at B
 have H: ∀(i v:Nat) (buf:Zd),i<4->i<=r->buf.length=24->v<10 ^ i->(∀x∈qt i v++yj buf i r,0<=x/\x<=255)->
   (cond (Zc<|2<=(i:Int))
   ((rd pC<|IntKind.u32.wrap<|IntKind.u32.wrap (bD (v:Int) 100*2)+1).bind λz=>
   (rd pC<|IntKind.u32.wrap<|bD (v:Int) 100*2).bind λA=>
   (ix (zH zI<|(i:Int)-1)<|aD (r:Int)-0).bind λt=>
   (buf[(0+t)]?).bind λx50=>
   (ix (zH zI<|(i:Int)-2)<|aD (r:Int)-0).bind λu=>
   ((aB buf (0+t) z)[(0+u)]?).bind λx52=>
   cond (Zc<|0<zH zI ((i:Int)-2))
    ((ix 0<|aD (r:Int)-0).bind λD=>
    ((aB (aB buf (0+t) z) (0+u) A)[(0+D)]?).bind λx54=>
    gd (bB 1 1&&bB 0 0&&cN 24 (cM<|aB (aB (aB buf (0+t) z) (0+u) A) (0+D)<|IntKind.u8.wrap<|IntKind.u32.wrap<|48+IntKind.u32.wrap (cD (v:Int) 100))&&dz 0 (r:Int) 24&&Zc (0<24)) (O<|cP xW<|cQ (aD (r:Int)-0)<|cO 0<|aB (aB (aB buf (0+t) z) (0+u) A) (0+D)<|IntKind.u8.wrap<|IntKind.u32.wrap<|48+IntKind.u32.wrap (cD (v:Int) 100)))
    (gd (bB 1 1&&bB 0 0&&cN 24 (cM<|aB (aB buf (0+t) z) (0+u) A)&&dz 0 (r:Int) 24&&Zc (0<24))<|O<|cP xW<|cQ (aD (r:Int)-0)<|cO 0<|aB (aB buf (0+t) z) (0+u) A))
   (cond (Zc<|0<(i:Int))
    ((ix 0<|aD (r:Int)-0).bind λE=>
    (buf[(0+E)]?).bind λx56=>
    gd (bB 1 1&&bB 0 0&&cN 24 (cM<|aB buf (0+E)<|IntKind.u8.wrap<|IntKind.u32.wrap<|48+(v:Int))&&dz 0 (r:Int) 24&&Zc (0<24)) (O<|cP xW<|cQ (aD (r:Int)-0)<|cO 0<|aB buf (0+E)<|IntKind.u8.wrap<|IntKind.u32.wrap<|48+(v:Int)))
    (gd (bB 1 1&&bB 0 0&&cN 24 (cM buf)&&dz 0 (r:Int) 24&&Zc (0<24))<|O<|cP xW<|cQ (aD (r:Int)-0)<|cO 0 buf)))
    =O (qt i v++yj buf i r):=by
  intro i v buf Q hi m p hx;simp only[ah];have cases:i=0∨i=1∨i=2∨i=3:=by omega
  rcases cases with rfl|rfl|rfl|rfl
  .rw[zF V5,zF V5,Kp g m hx];rfl
  .rw[zF V5,zE V5,cK,cB,show(0:Int)=((0:Nat):Int)from rfl,bn V1];simp only[zG];rw[Tm V1];simp only[zG];have Z:v<10:=by simpa using p
   have e:IntKind.u8.wrap (IntKind.u32.wrap<|48+(v:Int))=48+((v % 10:Nat):Int):=by
    rw[Up V1];show(48+(v:Int)) % 256=_;omega
   rw[e];have C:yj (aB buf (0+0)<|48+((v % 10:Nat):Int)) 0 r=(48+((v % 10:Nat):Int))::yj buf 1 r:=jb (i:=1) (k:=0) m V1 hi g rfl;have:=Kp g (au (j:=0+0) (x:=48+((v % 10:Nat):Int)) m) (by rw[C];exact hx);rw[cK,cB]at this;refine this.trans ?_;rw[C];rfl
  .rw[zE V5];simp only[tm2];have N:v<100:=by simpa using p
   rw[Cc (show v % 100<100 by omega),yp (show v % 100<100 by omega)];simp only[zG];rw[zp (q:=1) (k:=0) m rfl V1 hi g];rw[zp (q:=2) (k:=1) (au m) rfl V1 hi g];rw[zF V5];have C:=jb (x:=48+((v % 100 / 10 % 10:Nat):Int)) (k:=1) (au (j:=0+(2-(0+1))) (x:=48+((v % 100 % 10:Nat):Int)) m) V1 hi g (jb (k:=0) m V1 hi g rfl)
   have J:qt 2 v++yj buf 2 r=(48+((v % 100 / 10 % 10:Nat):Int))::(48+((v % 100 % 10:Nat):Int))::yj buf (2-0) r:=by
    rw[bu0];refine wI ?_ (wI ?_ rfl)
    all_goals omega
   rw[J]at hx⊢;refine(Kp g (au<|au m) (by rw[show(0:Nat)=2-(1+1)from rfl,C];exact hx)).trans ?_;exact congrArg O C
  .rw[zE V5];simp only[tm2,td2];have I:v<1000:=by simpa using p
   rw[Cc (show v % 100<100 by omega),yp (show v % 100<100 by omega)];simp only[zG];rw[zp (q:=1) (k:=0) m rfl V1 hi g];rw[zp (q:=2) (k:=1) (au m) rfl V1 hi g];rw[zE V5,cK,cB,show(0:Int)=((0:Nat):Int)from rfl,bn V1];simp only[zG];rw[Tm (by rw[cT,cT];omega)];simp only[zG]
   have e:IntKind.u8.wrap (IntKind.u32.wrap<|48+IntKind.u32.wrap ((v / 100:Nat):Int))=48+((v / 100 % 10:Nat):Int):=by
    rw[Ul V1,Up V1];show(48+((v / 100:Nat):Int)) % 256=_;omega
   rw[e]
   have C:=jb (x:=48+((v / 100 % 10:Nat):Int)) (k:=2) (au (j:=0+(3-(1+1))) (x:=48+((v % 100 / 10 % 10:Nat):Int))<|au (j:=0+(3-(0+1))) (x:=48+((v % 100 % 10:Nat):Int)) m) V1 hi g
    (jb (k:=1) (au m) V1 hi g<|jb (k:=0) m V1 hi g rfl)
   have J:qt 3 v++yj buf 3 r=(48+((v / 100 % 10:Nat):Int))::(48+((v % 100 / 10 % 10:Nat):Int))::(48+((v % 100 % 10:Nat):Int))::yj buf (3-0) r:=by
    simp only[qt,cU,cS,cL,cB];refine wI ?_ (wI ?_ (wI ?_ rfl))
    all_goals omega
   rw[J]at hx⊢
   have:=Kp g (au (j:=0+(3-(2+1))) (x:=48+((v / 100 % 10:Nat):Int))<|au (j:=0+(3-(1+1))) (x:=48+((v % 100 / 10 % 10:Nat):Int))<|au (j:=0+(3-(0+1))) (x:=48+((v % 100 % 10:Nat):Int)) m) (by
    rw[show yj _ 0 r=_ from C];exact hx)
   simp_all
 by_cases Q:4<=i
 .obtain⟨F,g1,g2,g3⟩:=aq9 Q hi g m (cW p<|cX V1 (by omega:i<=8))<|λs46=>_;refine g3.trans ?_
  have K:qt i v++yj buf i r=qt (i-4) (v / 10000)++yj F (i-4) r:=by
   rw[g2,<-cL]
   congr 1
   have:=Pa (i-4) 4 v;rw[show i-4+4=i by omega]at this;exact this
  rw[K]at B⊢;refine H _ _ _ V1 V1 g1 ?_ B
  have:i=i-4+4:=by omega
  rw[this,Nat.pow_add]at p;omega
 simp only[ah];rw[Zh,Ul<|cW p<|Nat.le_trans (cX V1 (by omega:i<=4)) V5];simp only[zG];have:=H i v buf V1 hi m p B
 simp only[ah]at this;exact this
end
section
open Go.IntKind renaming wrap->zH,i64->zI,u64->zJ
open Int renaming toNat_natCast->bB
open List renaming length_append->aB,length_singleton->aD
def Cg.rfl' (x:Int):Cg x x:=⟨0,V1⟩
def Cg.trans {z:Int}(h:Cg x y)(k:Cg y z):Cg x z:=by
 obtain⟨a,rfl⟩:=h;obtain⟨b,rfl⟩:=k;exact⟨a+b,V1⟩
def Cg.add {u v:Int}(h:Cg x y)(k:Cg u v):Cg (x+u)<|y+v:=by
 obtain⟨a,rfl⟩:=h;obtain⟨b,rfl⟩:=k;exact⟨a+b,V1⟩
theorem Cg.mul (h:Cg x y)(u:Int):Cg (x*u)<|y*u:=by
 obtain⟨a,rfl⟩:=h;exact⟨a*u,by grind⟩
def Cg.eq (h:Cg x y)(hx:xp x)(g:xp y):x=y:=by
 have⟨a,e⟩:=h;unfold xp at hx g;omega
def sg :Zd->Zd->Int
 |x::a,y::d=>x*y+sg a d
 |_,_=>0
def Hg (a:Zd):sg a []=0:=by cases a<;>rfl
def Dv (x:Int)(a:Zd)(k:Nat):rg (x::a) ((k+1:Nat):Int)=rg a (k:Int):=by
 rfl
theorem JC : ∀(a d:Zd) (k:Nat) (v:Int),k<hW a->sg (a.set k v) d=sg a d+(v-rg a (k:Int))*rg d (k:Int)
 |[],_,_,_,h=>by simp at h
 |x::a,[],k,v,h=>by rw[Hg,Hg];unfold rg;simp
 |x::a,y::d,0,v,_=>by
  show v*y+sg a d=x*y+sg a d+(v-x)*y
  grind
 |x::a,y::d,k+1,v,h=>by
  rw[Dv,Dv];show x*y+sg (a.set k v) d=x*y+sg a d+_;rw[JC a d k v (by simp at h;omega)];omega
def Di : ∀(a d:Zd),sg a d=sg d a
 |[],d=>by rw[Hg];rfl
 |x::a,[]=>rfl
 |x::a,y::d=>by
  show x*y+sg a d=y*x+sg d a;rw[Di a d,Int.mul_comm]
def ay1 (a d:Zd)(k:Nat)(v:Int)(h:k<hW d):sg a (d.set k v)=sg a d+rg a (k:Int)*(v-rg d (k:Int)):=by
 rw[Di,JC d a k v h,Di d a,Int.mul_comm]
def M4 : ∀(a a' d e:Zd),hW a=hW d->sg (a++a') (d++e)=sg a d+sg a' e
 |[],a',[],e,_=>by show _=0+_;rw[Int.zero_add];rfl
 |[],_,_::_,_,h=>by simp at h
 |_::_,_,[],_,h=>by simp at h
 |x::a,a',y::d,e,h=>by
  show x*y+sg (a++a') (d++e)=x*y+sg a d+_;rw[M4 a a' d e V8];omega
def tP : ∀(a:Zd) (n:Nat),sg a (List.replicate n 0)=0
 |[],_=>rfl
 |_::_,0=>rfl
 |x::a,n+1=>by
  show x*0+sg a (List.replicate n 0)=0;rw[tP a n];omega
def Ox : ∀(a d:Zd),sg a d=sg (a.take<|hW d) d
 |[],_=>by rw[List.take_nil]
 |_::_,[]=>rfl
 |x::a,y::d=>by
  show x*y+sg a d=x*y+sg (a.take<|hW d) d;rw[<-Ox a d]
def ay0 : ∀{a a':Zd} (d:Zd),hW a=hW a'->(∀i:Nat,i<hW a->Cg (rg a (i:Int)) (rg a' (i:Int)))->Cg (sg a d) (sg a' d)
 |[],[],d,_,_=> .rfl' _
 |[],_::_,_,h,_=>by simp at h
 |_::_,[],_,h,_=>by simp at h
 |x::a,g::a',[],_,_=> .rfl' _
 |x::a,g::a',y::d,h,k=>by
  have e:=k 0 V2
  have:=ay0 (a:=a) (a':=a') d V8 (λi hi=>by
   have:=k (i+1) V3
   rwa [Dv,Dv]at this)
  exact(Cg.mul e y).add this
def tn (o:bx)(x y dx e:Int):Int:=
 if o.1=1 then zH zJ (dx+e)else if o.1=2 then zH zJ (dx+zH zJ (0-e))else if o.1=3 then zH zJ (zH zJ (x*e)+zH zJ (dx*y))else if o.1=4 then zH zJ (0-dx)else if o.1=5 then 0 else dx
theorem bu6 (g:0<o.1/\o.1<7)(x y dx e:Int):Cg (tn o x y dx e)<|(par o x y).1*dx+(par o x y).2*e:=by
 have:o.1=1∨o.1=2∨o.1=3∨o.1=4∨o.1=5∨o.1=6:=by omega
 rcases this with h|h|h|h|h|h
 .unfold tn par;simp only[h,if_true];exact(Xa _).trans ⟨0,V1⟩
 .unfold tn par;simp[h];exact(Xa _).trans (((Cg.rfl' dx).add<|Xa<|-e).trans ⟨-e,V1⟩)
 .unfold tn par;simp[h];refine(Xa _).trans (((Xa _).add<|Xa _).trans ⟨0,by grind⟩)
 .unfold tn par;simp[h];exact(Xa _).trans ⟨-dx,V1⟩
 .unfold tn par;simp[h];exact .rfl' _
 unfold tn par;simp[h];exact .rfl' _
theorem aF0 (I:0<o.1/\o.1<7){R:Nat}(h:Vp R o){r D a:Zd}{t:Int}(ha:hW a=R)(hd:hW d=R)(J:D.set (hX o.2.1) t=r):
  Cg (sg (FG o D a t).2 d) (sg a<|d.set (hX o.2.1)<|tn o (rg r o.2.2.1) (rg r o.2.2.2.1) (rg d o.2.2.1)<|rg d o.2.2.2.1):=by
 have⟨e,g,p,E,F,H,V,W,Z⟩:=B2 h;have T:=bu6 I (rg r o.2.2.1) (rg r o.2.2.2.1) (rg d o.2.2.1)<|rg d o.2.2.2.1;unfold FG;simp only[J];revert T;rw[E,F,H];simp only[bB];generalize par o (rg r (g:Int)) (rg r (p:Int))=q;generalize tn o _ _ _ _=v;intro T;rw[ay1 a d e v V1];generalize m:(a.set e 0).set g _=A2;have l2:hW A2=hW a:=by rw[<-m];simp
 rw[JC A2 d p _ V1]
 have C2:Cg (sg A2 d)<|sg a d-rg a (e:Int)*rg d (e:Int)+q.1*rg a (e:Int)*rg d (g:Int):=by
  rw[<-m,JC _ d g _ V3,JC a d e 0 V1];generalize rg (a.set e 0) (g:Int)=z;have⟨u,B⟩:=Xa<|q.1*rg a (e:Int);have⟨A,C⟩:=Xa<|z+zH zJ (q.1*rg a (e:Int));rw[C,B];exact⟨(u+A)*rg d (g:Int),by grind⟩
 generalize rg A2 (p:Int)=z;have⟨u,B⟩:=Xa<|q.2*rg a (e:Int);have⟨A,C⟩:=Xa<|z+zH zJ (q.2*rg a (e:Int));have⟨K,N⟩:=C2;have⟨M,Q⟩:=T;rw[C,B,N,Q];exact⟨(u+A)*rg d (p:Int)+K-rg a (e:Int)*M,by grind⟩
def yQ (o:bx)(s:Zd×Zd):Zd×Zd:=(s.1.set (hX o.2.1)<|app o (rg s.1 o.2.2.1)<|rg s.1 o.2.2.2.1,s.2.set (hX o.2.1)<|tn o (rg s.1 o.2.2.1) (rg s.1 o.2.2.2.1) (rg s.2 o.2.2.1)<|rg s.2 o.2.2.2.1)
def bi3 (l:List bx): ∀(r d t:Zd) (k:Nat),(qe yQ l (r,d)).1=(qe iF l (r,t,k)).1:=by
 induction l with
 |nil=>intro r d t k;rfl
 |cons o l e=>intro r d t k;exact e _ _ _ _
def OJ (l:List bx): ∀s:Zd×Zd,hW (qe yQ l s).1=hW s.1/\hW (qe yQ l s).2=hW s.2:=by
 induction l with
 |nil=>intro s;exact⟨rfl,rfl⟩
 |cons o l m=>
  intro s;have⟨e,g⟩:=m<|yQ o s;exact⟨e.trans (by unfold yQ;simp),g.trans (by unfold yQ;simp)⟩
def bG4 {dx e:Int}(hx:xp dx):xp<|tn o x y dx e:=by
 unfold tn
 repeat' split
 all_goals first|exact LF _|exact hx|(unfold xp;omega)
def az2 (l:List bx): ∀s:Zd×Zd,ce s.2->ce (qe yQ l s).2:=by
 induction l with
 |nil=>intro s h;exact h
 |cons o l e=>
  intro s h;exact e (yQ o s)<|h.set (bG4<|IM h _) _
def Vc {R:Nat}: ∀(n:Nat) (l:List bx),hW l=n->∀(r g t a d:Zd),(∀o∈l,Vp R o/\0<o.1/\o.1<7)->hW r=R->hW a=R->hW d=R->hW l<=hW g->(∀i,i<hW l->rg t (i:Int)=rg (qe iF l (r,g,0)).2.1 (i:Int))->
  Cg (sg (E5 (rH t) l ((qe iF l (r,g,0)).1,a,hW l)).2.1 d) (sg a (qe yQ l (r,d)).2)
 |0,l,A,r,g,t,a,d,_,_,_,_,_,_=>by
  have:=dy.1 A;subst this;exact .rfl' _
 |n+1,l,A,r,g,t,a,d,J,K,H,I,V,ht=>by
  obtain⟨e,o,rfl⟩: ∃e o,l=e++[o]:=⟨l.take n,l[n]' V1,by
   rw[<-List.take_succ_eq_append_getElem V1,List.take_of_length_le V1]⟩
  rw[aB,aD]at A V;have B:hW e=n:=by omega
  have⟨E,F,q⟩:=OL e (r,g,0);have u:qe yQ (e++[o]) (r,d)=yQ o (qe yQ e (r,d)):=by rw[Hn];rfl
  rw[M1,u];have W:qe iF (e++[o]) (r,g,0)=iF o (qe iF e (r,g,0)):=by rw[Hn];rfl
  rw[W]at ht⊢;have⟨m,z⟩:=J o V2;have⟨kd,ka,kb,N,q2,q3,g1,g2,g3⟩:=B2 m;have E:hW (qe iF e (r,g,0)).1=R:=E.trans K;have F:hW (qe iF e (r,g,0)).2.1=hW g:=F;have q:(qe iF e (r,g,0)).2.2=hW e:=by rw[q];simp
  have C: ∀i,i<hW e->rg t (i:Int)=rg (qe iF e (r,g,0)).2.1 (i:Int):=λi hi=>by
   rw[ht i Zu];show rg ((qe iF e (r,g,0)).2.1.set (qe iF e (r,g,0)).2.2<|rg (qe iF e (r,g,0)).1 o.2.1) (i:Int)=_;exact RC V1
  have D:rg t ((hW e:Nat):Int)=rg (qe iF e (r,g,0)).1 (kd:Int):=by
   rw[ht (hW e) Zu];show rg ((qe iF e (r,g,0)).2.1.set (qe iF e (r,g,0)).2.2<|rg (qe iF e (r,g,0)).1 o.2.1) ((hW e:Nat):Int)=_;rw[q,N];exact Mf V1
  have M:(iF o<|qe iF e (r,g,0)).1.set (hX o.2.1) (rg t ((hW e:Nat):Int))=(qe iF e (r,g,0)).1:=by
   show((qe iF e (r,g,0)).1.set (hX o.2.1) _).set (hX o.2.1) _=_;rw[List.set_set,N,bB,D,aG7 V1]
  have p:E5 (rH t) [o] ((iF o<|qe iF e (r,g,0)).1,a,hW<|e++[o])=((qe iF e (r,g,0)).1,(FG o (iF o<|qe iF e (r,g,0)).1 a<|rg t ((hW e:Nat):Int)).2,hW e):=by
   rw[aB,aD];show((FG o (iF o<|qe iF e (r,g,0)).1 a<|rg t ((hW e+1-1:Nat):Int)).1,(FG o (iF o<|qe iF e (r,g,0)).1 a<|rg t ((hW e+1-1:Nat):Int)).2,hW e+1-1)=_;rw[Nat.add_sub_cancel];have:(FG o (iF o<|qe iF e (r,g,0)).1 a<|rg t ((hW e:Nat):Int)).1=(qe iF e (r,g,0)).1:=M;rw[this]
  rw[p];have Q:=(OJ e (r,d)).2;have Z:=Vc n e B r g t (FG o (iF o<|qe iF e (r,g,0)).1 a<|rg t ((hW e:Nat):Int)).2 d (λx hx=>J x (by simp[hx])) K (((J3 o _ a _).2).trans H) I V1 C;refine Z.trans ?_;have P:=aF0 z m (a:=a) (d:=(qe yQ e (r,d)).2) (t:=rg t ((hW e:Nat):Int)) H (Q.trans I) M;refine P.trans ?_;unfold yQ;rw[<-bi3 e r d g 0];exact .rfl' _
end
section
open Int renaming add_zero->cD,toNat_natCast->cK,zero_add->cL
open List renaming replicate->aB,length_take->aD,range->bB,take_append_drop->bD,getD_eq_getElem?_getD->cM,append_assoc->cN,length_drop->cO,range_succ_eq_map->cP
open Nat renaming succ->cB
def Kn (f:Fo)(r d:Zd):Zd:=(qe yQ f.unroll (r,d)).2
section
variable {l:List bx} {R:Int} {f:Fo}
def Ru (h:Prg R l f){r:Zd}(q:hW r<=hX R)(t:hW w<=hX R)(p:hW d=hX R):
  Cg (sg (V0 R f r w) d) (sg (fill R w)<|Kn f (fill R r) d):=by
 have e:=h.ulen.1
 have D:=Vc (R:=hX R) f.n f.unroll e (fill R r) (aB f.n 0) (ua f (fill R r)<|aB f.n 0).2.1 (fill R w) d (λo g=>by
  have⟨u,m⟩:=wV f h.ok o g
  exact⟨(h.goodU o g).1,m⟩) (fB q) (fB t) p (by rw[List.length_replicate,e];omega) (λ_ _=>rfl)
 rw[e]at D;exact D
def Ko (f:Fo)(r d:Zd):hW (Kn f r d)=hW d:=(OJ _ _).2
def aH7 (f:Fo)(r:Zd)(h:ce d):ce<|Kn f r d:=az2 _ _ h
end
def Qq (R:Int)(a z:Zd):sg (fill R a) z=sg a (z.take<|hW a):=by
 unfold fill;by_cases h:hW a<=hW z
 .have e:z=z.take (hW a)++z.drop (hW a):=(bD _ _).symm
  conv=>lhs;rw[e]
  rw[M4 _ _ _ _ V9,Di<|aB _ _,tP,cD]
 rw[List.take_of_length_le V1];have e:a=a.take (hW z)++a.drop (hW z):=(bD _ _).symm;rw[Ox<|a++_,Ox a,List.take_append_of_le_length V1]
def Ih (c:Cx)(dx dt:Zd):Nat->Zd
 |0=>dx
 |i+1=>(Kn c.fl (fill c.R<|wH c (i:Int)<|iE c i)<|fill c.R<|Ih c dx dt i++(dt++[0])).take<|hW c.X
def Ma (c:Cx)(x dx dt:Zd):Int:=rg (Kn c.fk (fill c.Q<|x++(c.T++[]))<|fill c.Q<|dx++(dt++[])) 0
section
variable {c:Cx} (h:c.Ok) (wT:ce c.T) (wX:ce c.X) {dx dt:Zd} (hx:hW dx=hW c.X) (ht:hW dt=hW c.T)
include h wT wX
theorem wG {L:Nat}: ∀k,(hW (i8 c L k).1=hW c.X/\ce (i8 c L k).1)/\hW (i8 c L k).2=hW c.T/\ce (i8 c L k).2
 |0=>by
  have⟨⟨C,D⟩,B,A,F,H,E⟩:=h.lens;have⟨m,p⟩:=mf h wT wX L;have⟨e,g⟩:=GG h wT m p;exact⟨⟨by show(hW<|(yi c<|iE c L).take<|hW c.X)=_;rw[aD,e];omega,g.take _⟩,by show(hW<|vw _ _ _)=_;rw[qT,cd],Xe _ _ _⟩
 |k+1=>by
  have⟨⟨C,D⟩,B,A,F,H,E⟩:=h.lens;have⟨⟨q,u⟩,z,I⟩:=wG (L:=L) k;have⟨m,p⟩:=mf h wT wX<|L-(k+1);have⟨e,g⟩:=B7 h wT (t:=((L-(k+1):Nat):Int)) m p q u;exact⟨⟨by show(hW<|(rP c _ _ _).take<|hW c.X)=_;rw[aD,e];omega,g.take _⟩,by show(hW<|vw _ _ _)=_;rw[qT,z],Xe _ _ _⟩
omit h wT wX in
theorem UL {g a d:Zd}{x:Nat}(t:hW g=hW d)(D:x+hW d<=hW a):Cg (sg (vw x g a) d)<|sg g d+sg ((a.drop x).take<|hW d) d:=by
 have: ∀(d g a:Zd),hW g=hW d->hW a=hW d->sg ((bB<|hW d).map λ(i:Nat)=>rg g (i:Int)+rg a (i:Int)) d=sg g d+sg a d:=by
  intro d;induction d with
  |nil=>intro g a p q;rw[Hg,Hg,Hg];rfl
  |cons y d C=>
   intro g a p q;obtain⟨u,g,rfl⟩: ∃u m,g=u::m:=by cases g with|nil=>simp at p|cons u g=>exact⟨u,g,rfl⟩
   obtain⟨v,a,rfl⟩: ∃u m,a=u::m:=by cases a with|nil=>simp at q|cons u g=>exact⟨u,g,rfl⟩
   rw[List.length_cons,cP,List.map_cons,List.map_map]
   have e:((λ(i:Nat)=>rg (u::g) (i:Int)+rg (v::a) (i:Int))∘cB)=λ(i:Nat)=>rg g (i:Int)+rg a (i:Int):=by
    rfl
   rw[e];show(u+v)*y+sg _ d=u*y+sg g d+(v*y+sg a d);rw[C g a ep eo]
   grind
 have B:hW ((a.drop x).take<|hW d)=hW d:=by rw[aD,cO];omega
 rw[<-this d g _ t B];refine ay0 d (by rw[qT,List.length_map,List.length_range,t]) λi hi=> ?_
 rw[qT]at hi
 have z:rg (vw x g a) (i:Int)=IntKind.u64.wrap (rg g (i:Int)+rg a ((x+i:Nat):Int)):=by
  unfold vw;unfold rg
  simp_all
 have A:rg ((bB<|hW d).map λ(i:Nat)=>rg g (i:Int)+rg ((a.drop x).take<|hW d) (i:Int)) (i:Int)=rg g (i:Int)+rg a ((x+i:Nat):Int):=by
  conv=>lhs;unfold rg
  rw[cK,cM,List.getElem?_map,List.getElem?_range V1];show rg g (i:Int)+rg ((a.drop x).take<|hW d) (i:Int)=_
  congr 1
  unfold rg;rw[cK,cK,cM,cM,List.getElem?_take_of_lt V1,List.getElem?_drop]
 rw[z,A];exact Xa _
omit h wT wX in
theorem Rq {R:Int}{p dx dt e:Zd}(C:hW p=hX R)(z:hW dx=hW c.X)(A:hW dt=hW c.T)(B:hW c.X+hW c.T<=hX R)(u: ∀y∈e,y=(0:Int)):
  sg p (fill R<|dx++(dt++e))=sg (p.take<|hW c.X) dx+sg ((p.drop<|hW c.X).take<|hW dt) dt:=by
 have t: ∃n,e=aB n 0:=⟨hW e,List.eq_replicate_iff.2 ⟨rfl,u⟩⟩
 obtain⟨n,rfl⟩:=t;unfold fill;generalize hX R-hW (dx++(dt++aB n (0:Int)))=m;have g:p=p.take (hW c.X)++((p.drop<|hW c.X).take (hW dt)++(p.drop<|hW c.X).drop (hW dt)):=by rw[bD,bD]
 have q:(dx++(dt++aB n (0:Int)))++aB m (0:Int)=dx++(dt++aB (n+m) 0):=by rw[cN,cN,List.replicate_append_replicate]
 rw[q]
 conv=>lhs;rw[g]
 rw[M4 _ _ _ _ V9,M4 _ _ _ _ (by rw[aD,cO];omega),tP,cD]
omit wT wX in
theorem Ki (hx:hW dx=hW c.X)(ht:hW dt=hW c.T): ∀i,hW (Ih c dx dt i)=hW c.X
 |0=>hx
 |i+1=>by
  have⟨⟨m,p⟩,g,e,t,u,q⟩:=h.lens;show(hW<|List.take _ _)=_;rw[aD,Ko,fB (by simp[Ki hx ht i,ht];omega)];omega
include hx ht
theorem NT {L:Nat}: ∀k,k<=L->Cg (sg (i8 c L k).1 (Ih c dx dt<|L-k)+sg (i8 c L k).2 dt) (Ma c (iE c L) (Ih c dx dt L) dt)
 |0,_=>by
  have⟨⟨N,V⟩,J,I,x1,x2,Z⟩:=h.lens;have⟨p,B⟩:=mf h wT wX L;have⟨u,W⟩:=GG h wT p B;have m:=Ki h hx ht L;have A:=UL (g:=zeros<|hW c.T) (a:=yi c<|iE c L) (d:=dt) (x:=hW c.X) (by rw[cd,ht]) V1;have q:hW (fill c.Q<|Ih c dx dt L++(dt++[]))=hX c.Q:=fB (by simp[m,ht];omega);have P:Cg (sg (yi c<|iE c L) _) _:=Ru h.pk (r:=iE c L++(c.T++[])) (w:=[1]) (d:=fill c.Q<|Ih c dx dt L++(dt++[])) (by simp[p];omega) V3 q;rw[Rq u m ht V1 V2]at P;have K:fill c.Q [1]=1::aB (hX c.Q-1) 0:=rfl
  have e:sg (fill c.Q [1]) (Kn c.fk (fill c.Q<|iE c L++(c.T++[]))<|fill c.Q<|Ih c dx dt L++(dt++[]))=Ma c (iE c L) (Ih c dx dt L) dt:=by
   unfold Ma;rw[K];have D:=(Ko c.fk (fill c.Q<|iE c L++(c.T++[]))<|fill c.Q<|Ih c dx dt L++(dt++[])).trans q;generalize Kn c.fk _ _=z at D⊢;cases z with
   |nil=>simp at D;omega
   |cons y z=>
    show 1*y+sg (aB _ 0) z=y;rw[Di,tP];omega
  rw[e]at P;have z0:sg (zeros<|hW c.T) dt=0:=by rw[Di];exact tP _ _
  rw[z0,cL]at A;exact((Cg.rfl' _).add A).trans P
 |k+1,hk=>by
  have⟨⟨N,V⟩,J,I,x1,x2,Z⟩:=h.lens;have M:=NT (L:=L) k V1;have⟨⟨C,E⟩,F,a4⟩:=wG h wT wX (L:=L) k;have⟨p,B⟩:=mf h wT wX<|L-(k+1);have⟨u,W⟩:=B7 h wT (t:=((L-(k+1):Nat):Int)) p B C E;have m:=Ki h hx ht<|L-(k+1);have A:=UL (g:=(i8 c L k).2) (a:=rP c ((L-(k+1):Nat):Int) (iE c<|L-(k+1)) (i8 c L k).1) (d:=dt) (x:=hW c.X) (by rw[F,ht]) V1;have q:hW (fill c.R<|Ih c dx dt (L-(k+1))++(dt++[0]))=hX c.R:=fB (by simp[m,ht];omega);have P:Cg (sg (rP c ((L-(k+1):Nat):Int) (iE c<|L-(k+1)) (i8 c L k).1) _) _:=Ru h.pl (r:=wH c ((L-(k+1):Nat):Int)<|iE c<|L-(k+1)) (w:=(i8 c L k).1) (d:=fill c.R<|Ih c dx dt (L-(k+1))++(dt++[0])) (by rw[vy _ p];omega) V1 q;rw[Rq u m ht V1 V2]at P;have H:L-k=L-(k+1)+1:=by omega
  have e:sg (fill c.R (i8 c L k).1) (Kn c.fl (fill c.R<|wH c ((L-(k+1):Nat):Int)<|iE c<|L-(k+1))<|fill c.R<|Ih c dx dt (L-(k+1))++(dt++[0]))=sg (i8 c L k).1 (Ih c dx dt<|L-k):=by
   rw[H];show _=sg _ (List.take _ _);rw[Qq,C]
  rw[e]at P;show Cg (sg ((rP c _ _ _).take<|hW c.X) (Ih c dx dt<|L-(k+1))+sg (vw _ _ _) dt) _;have⟨u1,w1⟩:=A;have⟨u2,w2⟩:=P;have⟨u3,w3⟩:=M;exact⟨u1+u2+u3,V1⟩
end
def one1 (n i:Nat):Zd:=(bB n).map λk=>if k=i then 1 else 0
def O9 (n i:Nat):hW (one1 n i)=n:=by unfold one1;simp
theorem Ow : ∀(n:Nat) (a:Zd) (i:Nat),hW a=n->i<n->sg a (one1 n i)=rg a (i:Int)
 |0,_,_,_,h=>by omega
 |n+1,[],_,h,_=>by simp at h
 |n+1,x::a,i,h,hi=>by
  have h:hW a=n:=by simpa using h
  unfold one1;rw[cP,List.map_cons,List.map_map]
  have z: ∀(n:Nat) (a:Zd),sg a ((bB n).map<|(λk=>if k=0 then(1:Int)else 0)∘cB)=0:=λn a=>by
   rw[show((bB n).map<|(λk=>if k=0 then(1:Int)else 0)∘cB)=aB n 0 from by
    rw[List.eq_replicate_iff]
    exact⟨V2,λy e=>by obtain⟨k,_,rfl⟩:=List.mem_map.1 e;simp⟩,tP]
  cases i with
  |zero=>
   show x*1+sg a _=x;rw[z];omega
  |succ i=>
   rw[Dv];show x*(if(0:Nat)=i+1 then 1 else 0)+sg a _=_;rw[Zh,<-Ow n a i h V1]
   have:((λk=>if k=i+1 then(1:Int)else 0)∘cB)=λk=>if k=i then 1 else 0:=by
    grind
   rw[this];show x*0+_=_;rw[Int.mul_zero,cL];rfl
def ce.one1 (n i:Nat):ce<|one1 n i:=λy e=>by
 obtain⟨k,_,rfl⟩:=List.mem_map.1 e;unfold xp;split<;>omega
def ce.zeros (n:Nat):ce<|zeros n:=ce.rep n
section
variable {c:Cx} (h:c.Ok) (wT:ce c.T) (wX:ce c.X)
def WJ {dx dt:Zd}(e:ce dx)(w2:ce dt): ∀i,ce (Ih c dx dt i)
 |0=>e
 |i+1=>(aH7 _ _ ((WJ e w2 i).app<|w2.app (λy g=>by rw[cc.1 g];unfold xp;omega)).fill).take _
def aa9 {x dx dt:Zd}(g:ce dx)(w2:ce dt):xp<|Ma c x dx dt:=IM (aH7 _ _ (g.app (w2.app λy e=>by cases e)).fill) _
include h wT wX
theorem bi9 (hi:i<hW c.X):rg (i8 c L L).1 (i:Int)=Ma c (iE c L) (Ih c (one1 (hW c.X) i) (Go.V.zeros<|hW c.T) L) (Go.V.zeros<|hW c.T):=by
 have⟨⟨e,g⟩,m,p⟩:=wG h wT wX (L:=L) L;have A:=NT h wT wX (dx:=one1 (hW c.X) i) (dt:=Go.V.zeros<|hW c.T) (O9 _ _) (cd _) (L:=L) L<|Nat.le_refl _;rw[Nat.sub_self,show sg (i8 c L L).2 (Go.V.zeros<|hW c.T)=0 from tP _ _,cD,show Ih c (one1 (hW c.X) i) (Go.V.zeros<|hW c.T) 0=one1 (hW c.X) i from rfl,Ow _ _ _ e hi]at A;exact A.eq (IM g _)<|aa9 (WJ (.one1 _ _) (.zeros _) _)<|.zeros _
theorem bi8 (m:j<hW c.T):rg (i8 c L L).2 (j:Int)=Ma c (iE c L) (Ih c (Go.V.zeros<|hW c.X) (one1 (hW c.T) j) L) (one1 (hW c.T) j):=by
 have⟨⟨p,q⟩,e,g⟩:=wG h wT wX (L:=L) L;have A:=NT h wT wX (dx:=Go.V.zeros<|hW c.X) (dt:=one1 (hW c.T) j) (cd _) (O9 _ _) (L:=L) L<|Nat.le_refl _;rw[Nat.sub_self,show Ih c (Go.V.zeros<|hW c.X) (one1 (hW c.T) j) 0=Go.V.zeros (hW c.X) from rfl,show sg (i8 c L L).1 (Go.V.zeros<|hW c.X)=0 from tP _ _,cL,Ow _ _ _ e m]at A;exact A.eq (IM g _)<|aa9 (WJ (.zeros _) (.one1 _ _) _)<|.one1 _ _
end
end
section
open Go.IntKind renaming wrap->zH,i64->zI,u64->zJ
open List renaming length_take->aB,getElem_mem->aD,take_succ_eq_append_getElem->bB
def Nm {r:Zd}(h:k<hW r)(e:hW d=hW r):(r.zip d)[k]?=O (rg r (k:Int),rg d (k:Int)):=by
 rw[List.getElem?_zip_eq_some];exact⟨ig h,ig V1⟩
def ae7 (r d:Zd)(k:Nat)(v w:Int):(r.zip d).set k (v,w)=(r.set k v).zip (d.set k w):=by
 induction r generalizing d k with
 |nil=>simp
 |cons x r e=>
  cases d with
  |nil=>cases k<;>simp
  |cons y d=>
   cases k with
   |zero=>rfl
   |succ k=>simp[e]
def xx {r:Zd}(e:hW d=hW r):hW (r.zip d)=hW r:=by rw[List.length_zip,e,Nat.min_self]
def Pf {a b c d:Int}(e:xp a)(g:xp b)(m:xp c)(p:xp d):uy a b c d=O (zH zJ<|a+c,zH zJ<|b+d):=by
 unfold uy;rw[IH e m,IH g p];rfl
def Rz {a b:Int}(e:xp a)(g:xp b):xF a b=O (zH zJ<|-a,zH zJ<|-b):=by
 unfold xF;rw[Ry e,Ry g];rfl
def Yh (q:0<o.1/\o.1<7){dx m:Int}(hx:xp x)(e:xp dx)(g:xp y)(p:xp m):
  zM o.1 o.2.1 o.2.2.1 o.2.2.2.1 o.2.2.2.2 x dx y m=O (app o x y,tn o x y dx m):=by
 have:o.1=1∨o.1=2∨o.1=3∨o.1=4∨o.1=5∨o.1=6:=by omega
 unfold zM app tn Cl;rcases this with h|h|h|h|h|h<;>simp only[h]<;>simp
 .rw[Pf hx e g p];rfl
 .rw[Rz g p];simp only[zG];rw[Pf hx e (LF _) (LF _)]
  have:zH zJ (x+zH zJ (-y))=zH zJ (x-y):=by
   rw[wU,wU,wU];omega
  rw[this];rfl
 .rw[GI hx p,GI e g,GI hx g];simp only[zG];rw[IH (LF _) (LF _)];rfl
 .rw[Rz hx e];rfl
def az1 (l:List bx): ∀(r d:Zd) (n:Nat),(qe yQ l (r,d)).1=(qe MT l (r,n)).1:=by
 induction l with
 |nil=>intro r d n;rfl
 |cons o l e=>intro r d n;exact e _ _ _
def aq6 {l:List bx}(hi:i<hW l)(s:Zd×Zd):qe yQ (l.take<|i+1) s=yQ l[i] (qe yQ (l.take i) s):=by
 rw[bB hi,Hn];rfl
def Q2 {R:Int}{r:Zd}(e:hW r<=hX R)(hi:i<hW r):(fill R<|r.take i).set i r[i]=fill R (r.take<|i+1):=by
 unfold fill;rw[List.set_append_right _ _ Z4,aB,Nat.min_eq_left V1,Nat.sub_self,bB hi,List.append_assoc]
 congr 1
 rw[List.length_append,aB,Nat.min_eq_left V1,List.length_singleton,show hX R-i=hX R-(i+1)+1 by omega,List.replicate_succ];rfl
section
variable {l:List bx} {R:Int} {f:Fo}
theorem RA (h:Prg R l f)(Q:l.length<=1500){r:Zd}(u:r.length<=R.toNat)(e:d.length=r.length)(wr:ce r)(wd:ce d):
  xG R l (r.zip d)=O (0,(EO f (fill R r)).zip (Kn f (fill R r) (fill R d))):=by
 have hR:=h.R1;obtain⟨hu,hn⟩:=h.ulen;have t:=h.goodU;have W:=xx e;unfold xG;rw[TK h Q];simp only[zG];rw[zA V2,zD,Ze,zD,zB (show 0<=R by omega),zB (show R<=R by omega),zB (show(16:Int)*R<=140737488355328 by omega)];show gd Za _=_;rw[bp]
 have Z:am (qA (r.zip d)) co (0,List.replicate R.toNat ((0,0):Int×Int))=O ((fill R r).zip (fill R d)):=by
  have C:List.replicate R.toNat ((0,0):Int×Int)=(fill R (r.take 0)).zip (fill R (d.take 0)):=by
   rw[List.take_zero,List.take_zero];unfold fill;simp
  rw[C];refine cn (f:=qA (r.zip d)) (n:=r.length) (λi=>(fill R (r.take i)).zip (fill R (d.take i))) V1 (λi hi=> ?_) ?_
  .unfold qA
   have N:((fill R (r.take i)).zip (fill R (d.take i))).length=R.toNat:=by
    have g:(fill R (r.take i)).length=R.toNat:=fB Z4;rw[xx (by rw[g,fB Z4]),g]
   rw[Zf,zC,bt V1];simp only[zG];rw[N,bn V1];simp only[zG];rw[List.getElem?_eq_getElem V1];simp only[zG];rw[Zi,List.getElem_zip,ae7,Q2 u hi,Q2 V1 V1];rfl
  .unfold qA
   grind
 refine ec Z ?_;have g:(fill R r).length=R.toNat:=fB u;have l2:(fill R d).length=R.toNat:=fB V1
 have k1:am (qB (f.unroll,0)) co (0,(fill R r).zip (fill R d))=O ((EO f (fill R r)).zip (Kn f (fill R r) (fill R d))):=by
  refine cn (f:=qB (f.unroll,0)) (n:=f.unroll.length) (λi=>(qe yQ (f.unroll.take i) (fill R r,fill R d)).1.zip (qe yQ (f.unroll.take i) (fill R r,fill R d)).2) V1 (λi hi=> ?_) ?_
  .rw[aq6 hi];obtain⟨q,z⟩:=OJ (f.unroll.take i) (fill R r,fill R d)
   have A:ce (qe yQ (f.unroll.take i) (fill R r,fill R d)).1:=by
    rw[az1 _ _ _ 0];exact XI _ _ wr.fill λo p=>(t o (List.mem_of_mem_take p)).2
   have B:ce (qe yQ (f.unroll.take i) (fill R r,fill R d)).2:=az2 _ _ wd.fill;generalize qe yQ (f.unroll.take i) (fill R r,fill R d)=s at*;have q:s.1.length=R.toNat:=q.trans g;have z:s.2.length=R.toNat:=z.trans l2;have p:=t _ (aD hi);have M:=(wV f h.ok _ (aD hi)).2;have m:=p.1;unfold qB;simp only;rw[Zf,zC,bt hi];generalize f.unroll[i]=o at*;obtain⟨kd,ka,kb,E,F,H,I,J,K⟩:=B2 m;simp only[zG];have V:(s.1.zip s.2).length=R.toNat:=by rw[xx V1,q]
   rw[V];have D:=Yh M (IM A o.2.2.1) (IM B o.2.2.1) (IM A o.2.2.2.1) (IM B o.2.2.2.1);unfold yQ;rw[F]at D⊢;rw[H]at D⊢;rw[bn J];simp only[zG];rw[Nm V1 V1];simp only[zG];rw[bn K];simp only[zG];rw[Nm V1 V1];simp only[zG];rw[D];simp only[zG];rw[E,bn I];simp only[zG];rw[Nm V1 V1];simp only[zG];rw[Zi,ae7];rfl
  .unfold qB;simp only;rw[Ze,zD,List.take_length,az1 _ _ _ 0];rfl
 refine ec k1 rfl
end
end
section
open List renaming length_append->aB,length_take->aD,getElem_append_right->bB,getElem_zip->bD,take_of_length_le->cB,take_succ_eq_append_getElem->cD,append_nil->cK,getElem?_eq_getElem->cL,append_assoc->cN,eq_replicate_iff->cO,getElem_append_left->cP,getElem_take->cQ,take_length->cR
open Nat renaming add_sub_cancel_left->cM
theorem ac2 {n m:Nat}(h:k<m)(p:m<=n):(one1 n k).take m=one1 m k/\(one1 n k).drop m=zeros (n-m):=by
 unfold one1;refine⟨by rw[<-List.map_take,List.take_range,Nat.min_eq_left p], ?_⟩;unfold zeros;rw[cO];refine⟨V2,λy e=> ?_⟩;rw[<-List.map_drop]at e;obtain⟨j,g,rfl⟩:=List.mem_map.1 e;obtain⟨q,t,rfl⟩:=List.mem_iff_getElem.1 g
 grind
theorem ac1 {n m:Nat}(h:m<=k)(q:m<=n):(one1 n k).take m=zeros m/\(one1 n k).drop m=one1 (n-m) (k-m):=by
 unfold one1;constructor
 .unfold zeros;rw[cO];refine⟨by simp;omega,λy e=> ?_⟩;rw[<-List.map_take]at e
  grind
 refine List.ext_getElem V2 λi g p=> ?_
 grind
theorem ao7 {s u v xs ts dt:Zd}(e:hW s=hW xs)(p:hW d=hW xs)(ht:hW dt=hW ts)(hx:hW xs<=64)(B:hW ts<=64)(F:hW xs<=hW u)(C:hW v=hW u):
  am (nE xs (xs++ts) ((i:Int),(s++ts).zip<|d++dt) (0,u.zip v)) co (0,[])=O ((u.take (hW xs)++ts).zip<|v.take (hW xs)++dt):=by
 have m:hW (u.take<|hW xs)=hW xs:=by rw[aD];omega
 have t:hW (v.take<|hW xs)=hW xs:=by rw[aD];omega
 have q:hW (xs++ts)=hW xs+hW ts:=aB;have D:hW ((s++ts).zip<|d++dt)=hW (xs++ts):=by rw[xx (by simp[e,p,ht]),aB,e,q]
 have E:hW ((u.take (hW xs)++ts).zip<|v.take (hW xs)++dt)=hW (xs++ts):=by rw[xx (by rw[aB,aB,m,t,ht]),aB,m,q]
 have g:hW (u.zip v)=hW u:=xx C;refine cn (f:=nE xs (xs++ts) ((i:Int),(s++ts).zip<|d++dt) (0,u.zip v)) (n:=hW<|xs++ts) (λj=>((u.take (hW xs)++ts).zip<|v.take (hW xs)++dt).take j) V1 (λj z=> ?_) ?_
 .unfold nE;simp only;rw[Zf,zC,cD V1,bD];by_cases A:j<hW xs
  .rw[Zf,zC,g,bn V1,zG,cL V1,zG,bg V9 V1,Zi,bD,cP V1,cP V1,cQ,cQ];rfl
  .rw[Ze,zD,D,bn z,zG,cL V1,zG,bg V9 V1,Zi,bD,bB V1,bB V1,bB V1,bB V1];simp only[m,t,e,p];rfl
 .unfold nE
  grind
section
variable {c:Cx} (h:c.Ok) (wT:ce c.T) (wX:ce c.X) (gl:hW c.l<=1500) (gk:hW c.k<=1500)
include h gl gk
theorem RB (m:L<=400):xH c.R c.l c.Q c.k (hW c.X:Int) c.T (L:Int)=O 0:=by
 have⟨e,g⟩:=Hq h.hc;unfold xH FQ;rw[Pg h.hl h.hk gl gk,e,zG,zA V2,zD,IJ,g]
 grind
include wT wX
theorem Wh (V:L<=400)(hk:k<c.X.length+c.T.length):xd c.R c.l c.Q c.k c.X c.T (L:Int) (k:Int)=
  O (lossV c (iE c L),Ma c (iE c L) (Ih c ((one1 (c.X.length+c.T.length) k).take c.X.length) ((one1 (c.X.length+c.T.length) k).drop c.X.length) L) ((one1 (c.X.length+c.T.length) k).drop c.X.length),0):=by
 obtain⟨⟨l1,l2⟩,hR,hQ,x1,x2,t2⟩:=h.lens;have ol:=O9 (c.X.length+c.T.length) k;have I:ce (one1 (c.X.length+c.T.length) k):= .one1 _ _;unfold xd;rw[RB h gl gk V];simp only[zG];rw[zA V2,zD,Ze,zD,Zi,Ze,zD,TL V1 V1 V2];simp only[zG,cK];have W:(c.X++c.T).length=c.X.length+c.T.length:=aB
 have k0:am (nD (k:Int) (c.X++c.T)) co (0,[])=O ((c.X++c.T).zip (one1 (c.X.length+c.T.length) k)):=by
  refine cn (f:=nD (k:Int) (c.X++c.T)) (n:=(c.X++c.T).length) (λi=>((c.X++c.T).zip (one1 (c.X.length+c.T.length) k)).take i) V1 (λi hi=> ?_) ?_
  .unfold nD;rw[Zf,zC]
   have e:(cond (Zc ((i:Int)=(k:Int))) (O 1) (O 0):Option Int)=O (if i=k then 1 else 0):=by
    grind
   rw[e];simp only[zG];rw[bn hi];simp only[zG];rw[cL hi];simp only[zG];have B:((c.X++c.T).zip (one1 (c.X.length+c.T.length) k)).length=(c.X++c.T).length:=xx V1;rw[bg V9 V1,Zi,cD V1,bD];have:(one1 (c.X.length+c.T.length) k)[i]' V1=if i=k then 1 else 0:=by unfold one1;simp
   rw[this];rfl
  .unfold nD;rw[Ze,zD,<-xx (show(one1 (c.X.length+c.T.length) k).length=(c.X++c.T).length by omega),cR]
 refine ec k0 ?_;obtain⟨dx,q⟩: ∃dx,dx=(one1 (c.X.length+c.T.length) k).take c.X.length:=⟨_,rfl⟩
 obtain⟨dt,p⟩: ∃dt,dt=(one1 (c.X.length+c.T.length) k).drop c.X.length:=⟨_,rfl⟩
 have z:dx.length=c.X.length:=by rw[q,aD];omega
 have g:dt.length=c.T.length:=by rw[p,List.length_drop];omega
 have A:ce dx:=by rw[q];exact I.take _
 have t:ce dt:=by rw[p];exact I.drop _
 have M:one1 (c.X.length+c.T.length) k=dx++dt:=by rw[q,p,List.take_append_drop]
 rw[<-q,<-p,M]
 have kk:am (nF c.R c.l c.X (L:Int) (c.X++c.T)) co (0,(c.X++c.T).zip (dx++dt))=O ((iE c L++c.T).zip (Ih c dx dt L++dt)):=by
  refine cn (f:=nF c.R c.l c.X (L:Int) (c.X++c.T)) (n:=L) (λi=>(iE c i++c.T).zip (Ih c dx dt i++dt)) V1 (λi hi=> ?_) ?_
  .obtain⟨m,F⟩:=mf h wT wX i;obtain⟨n1,n2⟩:=mf h wT wX (i+1);have u:=Ki h z g i;have C:=WJ (c:=c) A t i;have B:((iE c i++c.T).zip (Ih c dx dt i++dt)).length=(c.X++c.T).length:=by rw[xx (by simp[m,u,g]),aB,m,W]
   unfold nF;simp only;rw[Zf,zC,zB trivial,bp,Int.toNat_natCast,Zk,bp,<-B,cR,bg V1 V1]
   have N:(iE c i++c.T).zip (Ih c dx dt i++dt)++[(IntKind.u64.wrap (i:Int),0)]=(wH c (i:Int) (iE c i)).zip (Ih c dx dt i++(dt++[0])):=by
    unfold wH;rw[<-cN,<-cN];rw[List.zip_append (l₁:=iE c i++c.T) (l₂:=Ih c dx dt i++dt) (r₁:=[IntKind.u64.wrap (i:Int)]) (r₂:=[0]) (by rw[aB,aB,m,u,g])];rfl
   rw[N,RA h.pl gl (by rw[vy _ m];omega) (by rw[vy _ m];simp[u,g];omega) (N7 F wT) (C.app (t.app λy Z=>by rw[cc.1 Z];unfold xp;omega))];simp only[zG];have D:(fill c.R (wH c (i:Int) (iE c i))).length=c.R.toNat:=fB (by rw[vy _ m];omega);have E:(EO c.fl (fill c.R (wH c (i:Int) (iE c i)))).length=c.R.toNat:=(OK _ _).trans D;have J:(Kn c.fl (fill c.R (wH c (i:Int) (iE c i))) (fill c.R (Ih c dx dt i++(dt++[0])))).length=c.R.toNat:=by rw[Ko,fB (by simp[u,g];omega)]
   have en:iE c (i+1)=(EO c.fl (fill c.R (wH c (i:Int) (iE c i)))).take c.X.length:=Kh i;have K:Ih c dx dt (i+1)=(Kn c.fl (fill c.R (wH c (i:Int) (iE c i))) (fill c.R (Ih c dx dt i++(dt++[0])))).take c.X.length:=rfl;have H:=ao7 (i:=i) (s:=iE c i) (d:=Ih c dx dt i) (xs:=c.X) (ts:=c.T) (dt:=dt) m u g x2 t2 (show c.X.length<=(EO c.fl (fill c.R (wH c (i:Int) (iE c i)))).length by omega) (J.trans E.symm);rw[<-en,<-K]at H;refine ec H ?_;rw[Zi];rfl
  .unfold nF
   grind
 refine ec kk ?_;obtain⟨m,F⟩:=mf h wT wX L;have u:=Ki h z g L;have C:=WJ (c:=c) A t L;rw[RA h.pk gk (by simp[m];omega) (by simp[m,u,g]) (F.app wT) (C.app t)];simp only[zG];have D:(fill c.Q (iE c L++c.T)).length=c.Q.toNat:=fB (by simp[m];omega);have E:(EO c.fk (fill c.Q (iE c L++c.T))).length=c.Q.toNat:=(OK _ _).trans D;have J:(Kn c.fk (fill c.Q (iE c L++c.T)) (fill c.Q (Ih c dx dt L++dt))).length=c.Q.toNat:=by rw[Ko,fB (by simp[u,g];omega)]
 have B:((EO c.fk (fill c.Q (iE c L++c.T))).zip (Kn c.fk (fill c.Q (iE c L++c.T)) (fill c.Q (Ih c dx dt L++dt)))).length=c.Q.toNat:=by rw[xx V1,E]
 rw[B,show ix 0 c.Q.toNat=O 0 from bn (k:=0) V1];simp only[zG];rw[Nm V1 V1];simp only[zG];unfold lossV Ma;rw[cK,cK];rfl
theorem Ph (g:L<=400):rm c.R c.l c.Q c.k c.X c.T (L:Int)=O (lossV c<|iE c L,0,(i8 c L L).1,(i8 c L L).2):=by
 have⟨⟨B,C⟩,A,z,E,F,D⟩:=h.lens;have⟨⟨p,q⟩,t,u⟩:=wG h wT wX (L:=L) L;unfold rm;rw[RB h gl gk g,zG,zA V2,zD];have e:=cn (f:=ng c.R c.l c.Q c.k c.X c.T (L:Int)) (n:=hW c.X+hW c.T) (λi=>((if i=0 then 0 else lossV c<|iE c L),(i8 c L L).1.take i,(i8 c L L).2.take<|i-hW c.X)) (c:=(lossV c<|iE c L,(i8 c L L).1,(i8 c L L).2)) V1 (λi hi=> ?_) ?_
 .have m:((if(0:Nat)=0 then(0:Int)else lossV c<|iE c L),(i8 c L L).1.take 0,(i8 c L L).2.take<|0-hW c.X)=(0,[],[]):=by
   grind
  rw[m]at e;refine ec e rfl
 .unfold ng;rw[ae (n:=(hW c.X:Int)+(hW c.T:Int)) V1,Zf,zC,Wh h wT wX gl gk g hi,zG,ae (n:=(i:Int)+1) V1,zF (show¬i+1=0 by omega)];by_cases hx:i<hW c.X
  .rw[Zf,zC,bg V9 V1,(ac2 (n:=hW c.X+hW c.T) hx V1).1,(ac2 (n:=hW c.X+hW c.T) hx V1).2,cM,<-bi9 h wT wX hx,cD V1]
   have:rg (i8 c L L).1 (i:Int)=(i8 c L L).1[i]' V1:=by
    have:=ig (r:=(i8 c L L).1) (k:=i) V1
    grind
   grind
  rw[Ze,zD,bg V9 V1,(ac1 (n:=hW c.X+hW c.T) (show hW c.X<=i by omega) V1).1,(ac1 (n:=hW c.X+hW c.T) (show hW c.X<=i by omega) V1).2,cM,<-bi8 h wT wX (show i-hW c.X<(hW c.T) by omega),show i+1-hW c.X=(i-hW c.X)+1 by omega,cD (l:=(i8 c L L).2) V1]
  have:rg (i8 c L L).2 ((i-hW c.X:Nat):Int)=(i8 c L L).2[i-hW c.X]' V1:=by
   have:=ig (r:=(i8 c L L).2) (k:=i-hW c.X) V1
   grind
  rw[this,cB (l:=(i8 c L L).1) V1,cB (l:=(i8 c L L).1) V1];rfl
 unfold ng;rw[ae (n:=(hW c.X:Int)+(hW c.T:Int)) V1,Ze,zD,Zh,cM,cB V1,cB V1]
end
end
section
open Bool renaming false_eq_true->cB
open Int renaming toNat_natCast->bB,eq_ofNat_of_zero_le->bD
open List renaming length_singleton->aB,length_append->aD,getElem_mem->cD,append_assoc->cK,mem_of_mem_take->cL,take_length->cM,take_succ_eq_append_getElem->cN
def ae5 (h:i<9223372036854775807):IntKind.i64.wrap ((i:Int)+1)=((i+1:Nat):Int):=by rw[Zi];rfl
def tD {n:Int}(h:n<=18446744073709551615):hW (pz<|hX n)<=20:=by rw[ax8];exact aR6 _ V1
def aH9 {n:Int}(h:0<=n/\n<=18446744073709551615):uP n=O (pz<|hX n):=by
 obtain⟨m,rfl⟩:=bD h.1;rw[bB];exact Ys m V1
def ax0 {α:Type}(a:Bool)(x y:α):cond a (O x) (O y)=O (cond a x y):=by cases a<;>rfl
def cnd (a x y:Bool):(cond a x y=Za)↔((a=Za/\x=Za)∨(¬a=Za/\y=Za)):=by cases a<;>simp
theorem aZ1 {b:Bool}{p:Prop}[Decidable p](h:b=Za↔p):b=decide p:=by
 grind
def xV (k n:Int):Prop:=(k=1/\1<=n/\n<=65535)∨(2<=k/\k<=4/\0<=n/\n<=1048575)∨(5<=k/\k<=9/\n=0)
instance (k n:Int):Decidable<|xV k n:=by unfold xV;infer_instance
def ag6 (k n:Int):kS k n=O (Zc<|xV k n):=by
 unfold kS jH;simp only[ax0,zG];refine congrArg O<|aZ1 ?_;simp only[cnd,decide_eq_true_eq,xV,cB,and_false,false_and,or_false,false_or,and_true,true_and];omega
def aA1 : ∀n:Nat,u8I (Lib.decDigits n)=pz n:=by
 intro n;induction n using Nat.strongRecOn with
 |ind n e=>
  by_cases h:n<10
  .rw[wJ h,Lib.decDigits,dif_pos h];show [((UInt8.ofNat<|48+n).toNat:Int)]=_;rw[UInt8.toNat_ofNat']
   congr 1
   omega
  rw[Gr h,Lib.decDigits,dif_neg h,aW6,e _ V1]
  congr 1
  show [((UInt8.ofNat<|48+n % 10).toNat:Int)]=_;rw[UInt8.toNat_ofNat']
  congr 1
  omega
def Vr {n:Nat}(h:n<=9223372036854775807):Ra (n:Int)=O (pz n):=by
 unfold Ra aA0 Lib.itoa;rw[Zh,Zf,Zf,bB,aA1];rfl
def Dq {β:Type}(h:a+b<=140737488355328){x:Option β}:gd (LV a b) x=x:=by
 unfold LV;rw[Nat.ble_eq_true_of_le h];rfl
def nmL :List<|Zd:=[[],[97,100,118,97,110,99,101],[115,116,111,114,101],[114,101,115,116,111,114,101],[102,114,101,101],[115,101,101,100],[98,111,116,104],[114,101,118,101,114,115,101],[116,97,112,101],[98,97,99,107]]
def nm (k:Int):Zd:=nmL.getD (hX k) []
def JP (a:Int×Int):Zd:=nm a.1++((if a.1<=4 then 32::pz (hX a.2) else [])++[10])
def XW (k:Int):hW (nm k)<=7:=by
 unfold nm
 have h: ∀j:Nat,hW (nmL.getD j [])<=7:=by
  intro j
  match j with
  |0|1|2|3|4|5|6|7|8|9=>decide
  |j+10=>exact Nat.zero_le _
 exact h _
theorem am7 {a:Int×Int}(h:a.2<=18446744073709551615):hW (JP a)<=30:=by
 unfold JP;have e:=XW a.1;have g:=tD h
 grind
section
variable {l:List<|Int×Int}
theorem aE8 {s:Zd}(u:hW l<=6000)(hi:i<hW l)(z:hW s<=1000000)(m:xV l[i].1 l[i].2):jG l ((i:Int),s)=O (.inl (((i+1:Nat):Int),s++JP l[i])):=by
 have g:=m;unfold xV at g;unfold jG;simp only;rw[zB (show(i:Int)<((hW l:Nat):Int)by omega),zC,bt hi];generalize l[i]=x at*;have⟨k,n⟩:=x;simp only at m g;obtain⟨a,rfl⟩:=bD (show 0<=k by omega);obtain⟨b,rfl⟩:=bD (show 0<=n by omega);simp only[zG,ag6,zB m,Bool.not_true,zD,AE];rw[bn (show a<10 by omega),zG]
 have e: ∀j,List.getD [([]:Zd),[97,100,118,97,110,99,101],[115,116,111,114,101],[114,101,115,116,111,114,101],[102,114,101,101],[115,101,101,100],[98,111,116,104],[114,101,118,101,114,115,101],[116,97,112,101],[98,97,99,107]] j []=nm (j:Int):=λj=>by
  unfold nm;rw[bB];rfl
 simp only[e];have p:=XW (a:Int);rw[Dq V1];have q:hW (pz b)<=20:=by have:=tD (n:=(b:Int)) V1;rwa [bB]at this
 unfold jH kZ JP;simp only[ax0,zG];by_cases t:a<=4
 .rw[zB (show(1:Int)<=(a:Int)by omega),zB (show(a:Int)<=4 by omega)];simp only[zC];rw[Vr V1,zG,ja ZF,Dq Z2,zG,Dq Z2,ae5 V1,zE (show(a:Int)<=4 by omega),bB]
  grind
 rw[zB (show(1:Int)<=(a:Int)by omega),zA (show¬(a:Int)<=4 by omega)];simp only[zC,zD,zG];rw[Dq Z2,ae5 V1,zF (show¬(a:Int)<=4 by omega)]
 grind
theorem ao3 {s:Zd}:jG l (((hW l:Nat):Int),s)=O (.inr<|.inr s):=by
 unfold jG
 grind
end
theorem Wk (k n:Int):xf k n=O (Zc<|xV k n):=by
 unfold xf DJ;have h: ∀(a b:Bool) (x y z:Int×Int) (f:Int×Int->Option Bool),((cond a (O x)<|cond b (O y)<|O z).bind f)=cond a (f x) (cond b (f y)<|f z):=λa b x y z f=>by cases a<;>cases b<;>rfl
 simp only[ax0,zG];refine congrArg O<|aZ1 ?_;by_cases e:k=1
 .subst e;simp only[cnd,decide_eq_true_eq,xV,cB,decide_true,zC,and_false,false_and,or_false,false_or,and_true,true_and];omega
 rw[zA e,zD];by_cases g:2<=k/\k<=4
 .rw[zB g.1,zC,zB g.2,zC];simp only[cnd,decide_eq_true_eq,xV,cB,and_false,false_and,or_false,false_or,and_true,true_and];omega
 have:cond (Zc<|2<=k) (cond (Zc<|k<=4) ((0:Int),(1048575:Int)) (0,0)) (0,0)=(0,0):=by
  grind
 rw[this];simp only[cnd,decide_eq_true_eq,xV,cB,and_false,false_and,or_false,false_or,and_true,true_and];omega
def aZ4 {d:Nat}(h:d<10):na ([48,49,50,51,52,53,54,55,56,57]:Zd) (d:Int) (IntKind.u64.wrap<|(d:Int)+1)=[48+(d:Int)]:=by
 have: ∀d:_root_.Fin 10,na ([48,49,50,51,52,53,54,55,56,57]:Zd) ((d:Nat):Int) (IntKind.u64.wrap<|((d:Nat):Int)+1)=[48+((d:Nat):Int)]:=by decide
 exact this ⟨d,h⟩
def aZ3 {d:Nat}(h:d<10):dz (d:Int) (IntKind.u64.wrap<|(d:Int)+1) 10=Za:=by
 refine ey ?_;rw[Zj];omega
theorem ac8 (n:Nat)(C:n<18446744073709551616):uA (n:Int)=O (pz n):=by
 unfold uA
 have⟨c,z,A⟩:=lj (f:=yA) (a:=((n:Int),([]:Zd)))
  (λs=> ∃m:Nat,s.1=(m:Int)/\m<=n/\pz n=pz m++s.2/\hW s.2+Lib.nDigits m<=20) (λs=>hX s.1)
  (λr=> ∃m:Nat,r.1=(m:Int)/\m<10/\pz n=pz m++r.2/\hW r.2<=20)
  ⟨n,rfl,Nat.le_refl _,V2,by simpa using aR6 n C⟩ V3 (λs ⟨m,e,B,g,p⟩=>by
   have⟨F,H⟩:=s;simp only at e g p;subst e;unfold yA;simp only[ah];by_cases h:m<10
   .right;rw[Zh]
    grind
   left;rw[Zg,aW2 V1,Ub V1];have t:((m:Int) % 10)=((m % 10:Nat):Int):=by omega
   have u:((m:Int) / 10)=((m / 10:Nat):Int):=by omega
   rw[t,u,aZ3 V1,bp,aZ4 V1,ja (by simp;have:=p;omega),Zj];refine⟨_,rfl,⟨m / 10,rfl,V1, ?_, ?_⟩,by simp;omega⟩
   .rw[g,Gr h,cK]
   rw[Lib.nDigits_big h]at p;simp
   omega)
 have⟨D,E⟩:=c;have⟨m,e,q,g,p⟩:=A;simp only at e g p;subst e;rw[z,zG,aZ3 q,bp,aZ4 q,ja V3,g,wJ q]
section
variable {l:List<|Int×Int}
theorem ap4 {s:Zd}(u:l.length<=6000)(hi:i<l.length)(z:s.length<=1000000)(m:xV l[i].1 l[i].2):kM l ((i:Int),s)=O (.inl (((i+1:Nat):Int),s++JP l[i])):=by
 have g:=m;unfold xV at g;unfold kM;simp only;rw[zB (show(i:Int)<((l.length:Nat):Int)by omega),zC,bt hi];generalize l[i]=x at*;obtain⟨k,n⟩:=x;simp only at m g;obtain⟨a,rfl⟩:=bD (show 0<=k by omega);obtain⟨b,rfl⟩:=bD (show 0<=n by omega);unfold DK;simp only[zG,Wk,zB m,Bool.not_true,zD];rw[bn (show a<10 by omega)];simp only[zG]
 have e: ∀j,List.getD [([]:Zd),[97,100,118,97,110,99,101],[115,116,111,114,101],[114,101,115,116,111,114,101],[102,114,101,101],[115,101,101,100],[98,111,116,104],[114,101,118,101,114,115,101],[116,97,112,101],[98,97,99,107]] j []=nm (j:Int):=λj=>by
  unfold nm;rw[bB];rfl
 simp only[e];have p:=XW (a:Int);rw[ja V1];have q:(pz b).length<=20:=by have:=tD (n:=(b:Int)) V1;rwa [bB]at this
 unfold JP;by_cases t:a<=4
 .rw[zB (show(a:Int)<=4 by omega),zC,ja Z2];simp only[zG];rw[cb (n:=(b:Int)) V1,ac8 b V1];simp only[zG];rw[ja Z2,ja Z2,ae5 V1,zE (show(a:Int)<=4 by omega),bB]
  grind
 rw[zA (show¬(a:Int)<=4 by omega),zD,ja Z2,ae5 V1,zF (show¬(a:Int)<=4 by omega)]
 grind
theorem Yn {s:Zd}:kM l (((hW l:Nat):Int),s)=O (.inr<|.inr s):=by
 unfold kM
 grind
end
def wo (l:List<|Int×Int):Zd:=(l.map JP).flatten
def YE (l:List<|Int×Int)(x:Int×Int):wo (l++[x])=wo l++JP x:=by unfold wo;simp
theorem AA : ∀l:List<|Int×Int,(∀x∈l,xV x.1 x.2)->hW (wo l)<=30*hW l
 |[],_=>by simp[wo]
 |x::r,h=>by
  have e:=AA r λy m=>h y (by simp[m])
  have g:=h x V2;unfold xV at g;have p:=am7 (a:=x) V1;unfold wo at e⊢
  grind
def J2 {l:List<|Int×Int}(m:hW l<=6000)(h: ∀x∈l,xV x.1 x.2):nj l=O (wo l,0)/\xe l=O (wo l,0):=by
 have u: ∀i,hW (wo<|l.take i)<=1000000:=λi=>by
  have:=AA (l.take i) λx hx=>h x (cL hx)
  rw[List.length_take]at this;omega
 have g: ∀{δ:Type} (f:(Int×Zd)->Option ((Int×Zd)⊕δ)) (e:δ),(∀(i:Nat) (s:Zd) (hi:i<hW l),hW s<=1000000->f ((i:Int),s)=O (.inl (((i+1:Nat):Int),s++JP l[i])))->f (((hW l:Nat):Int),wo l)=O (.inr e)->am f co (0,[])=O e:=by
  intro δ f e p t;refine cn (f:=f) (n:=hW l) (λi=>wo<|l.take i) V1 (λi hi=> ?_) ?_
  .rw[p i _ hi<|u i,cN hi,YE]
  rw[cM];exact t
 constructor
 .unfold nj;rw[g (jG l) (.inr<|wo l) (λi s hi q=>aE8 m hi q<|h _<|cD hi) ao3];rfl
 unfold xe;rw[g (kM l) (.inr<|wo l) (λi s hi q=>ap4 m hi q<|h _<|cD hi) Yn];rfl
def Ls (w l:Zd):Zd:=w++((l.map λn=>32::pz (hX n)).flatten++[10])
theorem Kb (w l:Zd)(e:gM l):hW (Ls w l)<=hW w+21*hW l+1:=by
 unfold Ls;rw[aD,aD,aB];induction l with
 |nil=>simp
 |cons x l m=>
  have p:=tD (e x V2).2;have:=m λy g=>e y fu
  grind
theorem Pr {l:Zd}(D:hW w<=10)(C:hW l<=64)(p:gM l):fV w l=O (Ls w l)/\od w l=O (Ls w l):=by
 have g: ∀i,hW (w++((l.take i).map λn=>32::pz (hX n)).flatten)<=2000:=λi=>by
  have:=Kb w (l.take i) λy B=>p y (cL B)
  unfold Ls at this
  grind
 have u: ∀i (hi:i<hW l),w++((l.take<|i+1).map λn=>32::pz (hX n)).flatten=(w++((l.take i).map λn=>32::pz (hX n)).flatten)++([32]++pz (hX<|l[i])):=λi hi=>by
  rw[cN hi]
  grind
 have q:w=w++((l.take 0).map λn=>32::pz (hX n)).flatten:=by simp
 have t:w++((l.take<|hW l).map λn=>32::pz (hX n)).flatten++[10]=Ls w l:=by rw[cM,cK];rfl
 constructor
 .have e:am (pv l) co (0,w)=O (w++((l.take<|hW l).map λn=>32::pz (hX n)).flatten):=by
   conv=>lhs;rw[q]
   refine cn (f:=pv l) (n:=hW l) (λi=>w++((l.take i).map λn=>32::pz (hX n)).flatten) V1 (λi hi=> ?_) ?_
   .have hx:=p _<|cD hi;have z:=tD hx.2;have:=g i;unfold pv;rw[zB ZH,zC];refine ec (bt hi) ?_;refine ec (aH9 hx) ?_;rw[u i hi,ja ZF,Dq ZQ,Zi];rfl
   unfold pv
   grind
  unfold fV;rw[Dq V3];refine ec e ?_;have:=g<|hW l;rw[ja ZF,t]
 have e:am (qF l) co (0,w)=O (w++((l.take<|hW l).map λn=>32::pz (hX n)).flatten):=by
  conv=>lhs;rw[q]
  refine cn (f:=qF l) (n:=hW l) (λi=>w++((l.take i).map λn=>32::pz (hX n)).flatten) V1 (λi hi=> ?_) ?_
  .have hx:=p _<|cD hi;have z:=tD hx.2;have:=g i;unfold qF;rw[zB ZH,zC,ja ZF];refine ec (bt hi) ?_;refine ec (a:=pz<|hX<|l[i]) ?_ ?_
   .obtain⟨m,A⟩:=bD hx.1;rw[A,bB];exact ac8 m V1
   rw[u i hi,ja ZQ,Zi,cK];rfl
  unfold qF
  grind
 unfold od;refine ec e ?_;have:=g<|hW l;rw[ja ZF,t]
def ae0 (l:List<|Int×Int)(z:Int)(x t:Zd):Zd:=((wo l++Ls [108,111,115,115] [z])++Ls [120] x)++Ls [116,104,101,116,97] t
def Um {c:Cx}(h:c.Ok){z:Nat}{g:Bool}{A:Dy}(H:Way c l f en s es z g A): ∀{i:Nat},dq c i s->∀x∈qb es,xV x.1 x.2:=by
 induction H with
 |nil=>intro i _ x hx;cases hx
 | @act f en s a es z g A e m _ p=>
  intro i w x hx;rcases aw.1 hx with rfl|hx
  .unfold xN at m;unfold xV;split at m
   .rename_i B;unfold vI nxB at e;rw[zE B]at e
    repeat' split at e
    all_goals first|(cases e;simp)|cases e
   have⟨D,q⟩:=m;have C:=h.ns;have ht:hW (pB c s).t=hX c.ns:=by unfold pB lu;simp
   unfold ML at q
   repeat' split at q
   all_goals first|omega|cases q
  exact p (nW h w e m) x hx
 |more a b u d e _ p=>intro i w x hx;exact p (BA h w a u d) x hx
 |stop a b u d _ p=>intro i w x hx;exact p w x hx
end
section
open Int renaming toNat_natCast->bD,lt_of_le_of_lt->cK
open List renaming replicate->aB,length_take->aD,length_append->cB,replicate_succ'->cL
open Nat renaming le_trans->bB,zero_add->cD
def Nh (F:Zd->Zd->Option (Zd))(q: ∀w l,w.length<=10->l.length<=64->gM l->F w l=O (Ls w l)){p:Zd}(J:p.length<=200000){z:Int}{x t:Zd}(D:0<=z/\z<=18446744073709551615)(hx:x.length<=64)(B:gM x)(ht:t.length<=64)(A:gM t):
  ((F [108,111,115,115] [z]).bind λe=>gd (ko p.length e.length) ((F [120] x).bind λg=>gd (ko (p++e).length g.length) ((F [116,104,101,116,97] t).bind λm=>gd (ko ((p++e)++g).length m.length) (O (((p++e)++g)++m)))))=O (((p++Ls [108,111,115,115] [z])++Ls [120] x)++Ls [116,104,101,116,97] t):=by
 have C:gM [z]:=λy u=>by rw[List.mem_singleton]at u;subst u;exact D
 have E:=Kb [108,111,115,115] [z] C;have H:=Kb [120] x B;have I:=Kb [116,104,101,116,97] t A;simp only[List.length_cons,List.length_nil]at E H I;rw[q _ _ V2 V2 C,q _ _ V2 hx B,q _ _ V2 ht A];simp only[zG];rw[ja V1,ja (by rw[cB];omega),ja (by rw[cB,cB];omega)]
section
variable {c:Cx} (h:c.Ok)
include h
theorem aV9 (p:c.mode=3)(e0:gP c.mode (hW c.X) (hW c.T) c.R c.l c.Q c.k c.len c.words=(c.fixed,c.tp,c.sl,c.ns,0))(m:hW cs<=1000000)(u:iJ w=O (c.mode,c.R,c.l,c.Q,c.k,c.len,c.words,cs,0,c.X,c.T,bs))(A:l<=40)(J:c.mode=2->hW bs=l)(H:Way c l 0 Zb (tZ c) es f en s)(F:Fin c l f en s es)(N:0<=s.z/\s.z<=18446744073709551615)(V:gM<|seg s.W (c.off 5)<|hW c.X)(Z:gM<|seg s.W (c.off 6)<|hW c.T):
  fJ w=O (0,qb es)/\ge w=O (ae0 (qb es) s.z (seg s.W (c.off 5)<|hW c.X)<|seg s.W (c.off 6)<|hW c.T):=by
 have w0:=nX h;have C:=H.well h w0;rw[cD]at C;have D:tZ c=new1 c:=by unfold tZ;rw[zE p]
 have e:=Y0 h p e0 m bs 0 (i:=0) V1 w0 Lo;have g:=ag7 h p e0 m A J H F;have B:=Um h H w0;rw[D]at e g;have K:=h.num.x;have M:=h.num.t;have E:=Ba es;have I:=F.le A;constructor
 .unfold fJ;refine ec u ?_;show cond (Zc<|(0:Int)≠0) _ _=_;rw[zA V2,zD];refine ec (aZ5 h p e0) ?_;simp only[cg,gr];refine ec e ?_;refine ec g ?_;rfl
 .unfold ge;refine ec u ?_;show cond (Zc<|(0:Int)≠0) _ _=_;rw[zA V2,zD];refine ec (aZ5 h p e0) ?_;simp only[cg,gr];refine ec e ?_;refine ec g ?_;refine ec (J2 (l:=qb es) V1 B).1 ?_;have ww:=HE h C;refine ec (a:=(s.z,0,seg s.W (c.off 5)<|hW c.X,seg s.W (c.off 6)<|hW c.T)) ?_ ?_
  .show iK _ _ _ _ _ _ _ _ _ _ _ _ _ _ _ _ _ _ _ _ _ _ _ _ _ _ _ _ _ _=_;unfold iK;rw[aU3 h ww.1];unfold FI;rw[zF Zn];rfl
  have ht:=AA _ B;exact Nh fV (λw l a b c=>(Pr a b c).1) (show(hW<|wo<|qb es)<=200000 by omega) N (bB Z6 (show hW c.X<=64 by omega)) V (bB Z6 (show hW c.T<=64 by omega)) Z
theorem aW0 (u:c.mode=1)(K:1<=c.ns)(e0:gP c.mode (hW c.X) (hW c.T) c.R c.l c.Q c.k c.len c.words=(c.fixed,c.tp,c.sl,c.ns,0))(m:hW cs<=1000000)(p:iJ w=O (c.mode,c.R,c.l,c.Q,c.k,c.len,c.words,cs,0,c.X,c.T,bs))(A:l<=40)(J:c.mode=2->hW bs=l)(H:Way c l 0 Zb (tZ c) es f en s)(F:Fin c l f en s es)(V:0<=s.z/\s.z<=18446744073709551615)(Z:gM<|seg s.W (c.off 5)<|hW c.X)(u6:gM<|seg s.W (c.off 6)<|hW c.T):
  fJ w=O (0,qb es)/\ge w=O (ae0 (qb es) s.z (seg s.W (c.off 5)<|hW c.X)<|seg s.W (c.off 6)<|hW c.T):=by
 have w0:=nX h;have C:=H.well h w0;rw[cD]at C;have D:tZ c=new2 c:=by unfold tZ;rw[Zh]
 have e:=Y1 h u e0 m bs 0 (i:=0) V1 w0 Lo;have g:=ag8 h u K e0 m A J H F;have B:=Um h H w0;rw[D]at e g;have M:=h.num.x;have N:=h.num.t;have E:=Ba es;have I:=F.le A;constructor
 .unfold fJ;refine ec p ?_;show cond (Zc<|(0:Int)≠0) _ _=_;rw[zA V2,zD];refine ec (aZ6 h u e0) ?_;simp only[cg,gr];refine ec e ?_;refine ec g ?_;rfl
 .unfold ge;refine ec p ?_;show cond (Zc<|(0:Int)≠0) _ _=_;rw[zA V2,zD];refine ec (aZ6 h u e0) ?_;simp only[cg,gr];refine ec e ?_;refine ec g ?_;refine ec (J2 (l:=qb es) V1 B).1 ?_;have ww:=HE h C;refine ec (a:=(s.z,0,seg s.W (c.off 5)<|hW c.X,seg s.W (c.off 6)<|hW c.T)) ?_ ?_
  .show cu _ _ _ _ _ _ _ _ _ _ _ _ _ _ _ _ _ _ _ _ _ _ _ _ _ _ _ _ _ _ _ _ _=_;unfold cu;rw[ac9 h ww.1];unfold FI;rw[zF Zn];rfl
  have ht:=AA _ B;exact Nh fV (λw l a b c=>(Pr a b c).1) (show(hW<|wo<|qb es)<=200000 by omega) V (bB Z6 (show hW c.X<=64 by omega)) Z (bB Z6 (show hW c.T<=64 by omega)) u6
theorem aW1 (u:c.mode=2)(K:1<=c.ns)(e0:gP c.mode (hW c.X) (hW c.T) c.R c.l c.Q c.k c.len c.words=(c.fixed,c.tp,c.sl,c.ns,0))(m:hW cs<=1000000)(p:iJ w=O (c.mode,c.R,c.l,c.Q,c.k,c.len,c.words,cs,0,c.X,c.T,bs))(A:l<=40)(J:c.mode=2->hW bs=l)(H:Way c l 0 Zb (tZ c) es f en s)(F:Fin c l f en s es)(V:0<=s.z/\s.z<=18446744073709551615)(Z:gM<|seg s.W (c.off 5)<|hW c.X)(u6:gM<|seg s.W (c.off 6)<|hW c.T):
  fJ w=O (0,qb es)/\ge w=O (ae0 (qb es) s.z (seg s.W (c.off 5)<|hW c.X)<|seg s.W (c.off 6)<|hW c.T):=by
 have w0:=nX h;have C:=H.well h w0;rw[cD]at C;have D:tZ c=new2 c:=by unfold tZ;rw[Zh]
 have e:=Y2 h u e0 m bs 0 (i:=0) V1 w0 Lo;have g:=ag9 h u K e0 m A J H F;have B:=Um h H w0;rw[D]at e g;have M:=h.num.x;have N:=h.num.t;have E:=Ba es;have I:=F.le A;constructor
 .unfold fJ;refine ec p ?_;show cond (Zc<|(0:Int)≠0) _ _=_;rw[zA V2,zD];refine ec (aZ7 h u e0) ?_;simp only[cg,gr];refine ec e ?_;refine ec g ?_;rfl
 .unfold ge;refine ec p ?_;show cond (Zc<|(0:Int)≠0) _ _=_;rw[zA V2,zD];refine ec (aZ7 h u e0) ?_;simp only[cg,gr];refine ec e ?_;refine ec g ?_;refine ec (J2 (l:=qb es) V1 B).1 ?_;have ww:=HE h C;refine ec (a:=(s.z,0,seg s.W (c.off 5)<|hW c.X,seg s.W (c.off 6)<|hW c.T)) ?_ ?_
  .show cu _ _ _ _ _ _ _ _ _ _ _ _ _ _ _ _ _ _ _ _ _ _ _ _ _ _ _ _ _ _ _ _ _=_;unfold cu;rw[ac9 h ww.1];unfold FI;rw[zF Zn];rfl
  have ht:=AA _ B;exact Nh fV (λw l a b c=>(Pr a b c).1) (show(hW<|wo<|qb es)<=200000 by omega) V (bB Z6 (show hW c.X<=64 by omega)) Z (bB Z6 (show hW c.T<=64 by omega)) u6
theorem ay7 (wT:ce c.T)(wX:ce c.X)(H:Way c l 0 Zb (tZ c) es f en s)(F:Fin c l f en s es):
  s.z=lossV c (iE c l)/\seg s.W (c.off 5) (hW c.X)=(i8 c l l).1/\seg s.W (c.off 6) (hW c.T)=(i8 c l l).2/\hW (i8 c l l).1=hW c.X/\hW (i8 c l l).2=hW c.T:=by
 have J:=H.je h wT wX (nX h)<|bj9 h wT wX;obtain⟨⟨C,u,J⟩,_⟩:=J;have e:=bl9 h wT J F.q (by rw[F.L];omega);unfold FI at e;rw[zF Zn,F.L]at e;injection e with m e
 injection e with D e
 injection e with p t
 have⟨g,_⟩:=J.adj Zn;unfold at7 at g;rw[F.L,F.q,Int.sub_zero,bD]at g;have⟨_,A,B,_⟩:=J.has.lens h wT;rw[<-g];rw[bD,<-g]at p t;rw[bD]at m;exact⟨m,p,t,A,B⟩
end
def Ui {l:Zd}(h:ce l):gM l:=λx hx=>⟨(h x hx).1,Int.le_of_lt_add_one (h x hx).2⟩
theorem TT {m R Q n b:Int}{X T:Zd}{I J:List bx}(o4:OpsOk I)(o6:OpsOk J)(g4:hW I<=1500)(g6:hW J<=1500)(uX:gM X)(uT:gM T)(B:hW cs<=1000000)
  (D:iJ w=O (m,R,I,Q,J,n,b,cs,0,X,T,bs)) (M:oC w=O (m,X,T,R,Q,n,b,cs,(if m≠2 then n else(hW bs:Int)),0,I,J))
  (hp:(gP m (hW X) (hW T) R I Q J n b).2.2.2.2=0) (N:(if m≠2 then n else(hW bs:Int))<=40):
  ∃(t:Zd) (l:List<|Int×Int),fJ w=O (0,l)/\ge w=O t/\ru m X T R I Q J n b cs (if m≠2 then n else(hW bs:Int))=O l/\rz w=O t/\hW l<=6000:=by
 have⟨c,g,e0,e1,e2,e3,e4,e5,e6,e7,e8,A⟩:=bE5 o4 o6 hp;subst e0 e1 e2 e3 e4 e5 e6 e7 e8;have hmm:=g.num.mode;have hln:=g.num.len;have wT:ce c.T:=λx hx=>⟨(uT x hx).1,cK (uT x hx).2 V5⟩
 have wX:ce c.X:=λx hx=>⟨(uX x hx).1,cK (uX x hx).2 V5⟩
 obtain⟨l,p,hb,K,hlv⟩: ∃l:Nat,l<=40/\(c.mode=2->hW bs=l)/\(c.mode≠2->c.len=l)/\(if c.mode≠2 then c.len else(hW bs:Int))=l:=by
  by_cases Z:c.mode=2
  .rw[zF<|λk=>k Z]at N⊢
   grind
  .rw[zE Z]at N⊢;exact⟨hX c.len,V1,λk=>(Z k).elim,λ_=>by omega,V1⟩
 rw[hlv]at M⊢;have⟨es,f,en,s,H,F⟩:=aW9 g A (show l<=400 by omega) K;have⟨f1,f2,f3,f4,f5⟩:=ay7 g wT wX H F;have⟨⟨a1,a2⟩,a3,a4⟩:=wG g wT wX (L:=l) l
 have wz:xp<|lossV c<|iE c l:=by
  unfold lossV;exact IM (XI _ _ ((mf g wT wX l).2.app (wT.app λv hv=>by cases hv)).fill λo ho=>(g.pk.goodU o ho).2) _
 have hz:0<=s.z/\s.z<=18446744073709551615:=by rw[f1];unfold xp at wz;omega
 have u5:gM<|seg s.W (c.off 5)<|hW c.X:=by rw[f2];exact Ui a2
 have u6:gM<|seg s.W (c.off 6)<|hW c.T:=by rw[f3];exact Ui a4
 have h6:=F.le p;have h7:=Ba es
 have key:fJ w=O (0,qb es)/\ge w=O (ae0 (qb es) s.z (seg s.W (c.off 5)<|hW c.X)<|seg s.W (c.off 6)<|hW c.T):=by
  by_cases E:c.mode=3
  .exact aV9 g E A B D p hb H F hz u5 u6
  have q:=XX g E A;by_cases hk:c.mode=1
  .exact aW0 g hk q A B D p hb H F hz u5 u6
  .exact aW1 g V1 q A B D p hb H F hz u5 u6
 have q:=g.ns;have hG:=Ph g wT wX g4 g6 (L:=l) V1;have hM:mv c.mode c.X c.T c.R c.l c.Q c.k c.len c.words=O (gP c.mode (hW c.X) (hW c.T) c.R c.l c.Q c.k c.len c.words):=Pj g.hl g.hk g4 g6;rw[A]at hM
 have hL:ru c.mode c.X c.T c.R c.l c.Q c.k c.len c.words cs (l:Int)=O (L9 c l):=by
  unfold ru L9;refine ec hM ?_;by_cases E:c.mode=3
  .rw[Ze,zD,Ze,zD,zE E]
   have k0:am (pq (l:Int)) co (0,[])=O (aB l ((8,0):Int×Int)):=by
    refine cn (f:=pq (l:Int)) (n:=l) (λi=>aB i ((8,0):Int×Int)) V1 (λi hi=> ?_) ?_
    .unfold pq;rw[zB ZH,zC,bg V3 V1,Zi,cL];rfl
    .unfold pq
     grind
   refine ec k0 ?_;rw[bg V3 V1]
   have V:am (pu (l:Int)) co (0,aB l ((8,0):Int×Int)++[(5,0)])=O ((aB l ((8,0):Int×Int)++[(5,0)])++aB l ((9,0):Int×Int)):=by
    have e:aB l ((8,0):Int×Int)++[(5,0)]=(aB l ((8,0):Int×Int)++[(5,0)])++aB 0 ((9,0):Int×Int):=by simp
    conv=>lhs;rw[e]
    refine cn (f:=pu (l:Int)) (n:=l) (λi=>(aB l ((8,0):Int×Int)++[(5,0)])++aB i ((9,0):Int×Int)) V1 (λi hi=> ?_) ?_
    .unfold pu;rw[zB ZH,zC,bg V3 V1,Zi,cL];simp
    .unfold pu
     grind
   refine ec V ?_;simp
  have hn1:=XX g E A;have⟨ns,u⟩:=Int.eq_ofNat_of_zero_le q.1;have hnt:hX c.ns=ns:=by rw[u];rfl
  rw[zF E,hnt];show cond (Zc<|c.mode=1) ((uH (l:Int) c.ns).bind _) (cond (Zc<|c.mode=2) ((uI (l:Int) c.ns).bind _) _)=_;rw[u];by_cases h1:c.mode=1
  .rw[zB h1,zC,Zh];refine ec (Yi (l:=l) (s:=ns) V1 V1) rfl
  .rw[zA h1,zD,Zf,zC,Zg];refine ec (Yj (l:=l) (s:=ns) V1 V1) rfl
 have⟨V,k2⟩:=key;have C:=Um g H<|nX g;rw[F.ls]at V k2 C h7;rw[f1,f2,f3]at k2;have hx1:=g.num.x;have hx2:=g.num.t;refine⟨_,_,V,k2,hL, ?_,V1⟩;unfold rz;refine ec M ?_;show cond (Zc<|(0:Int)≠0) _ _=_;rw[zA V2,zD];refine ec (a:=(lossV c<|iE c l,(i8 c l l).1,(i8 c l l).2)) (ec hG rfl) ?_;refine ec hL ?_;refine ec (J2 (l:=L9 c l) V1 C).2 ?_;have ht:=AA _ C;exact Nh od (λw l a b c=>(Pr a b c).2) (show(hW<|wo<|L9 c l)<=200000 by omega) (by unfold xp at wz;omega) (show(hW (i8 c l l).1)<=64 by omega) (Ui a2) (show(hW (i8 c l l).2)<=64 by omega)<|Ui a4
end
section
def XJ :zu=O Za:=by kernel_rfl
def QG {a:List<|Int×Int}(e:a.length<1000000):zN a a=O Za:=by
 have h:am (sV a a) co 0=O (.inr ()):=by
  refine nO (n:=a.length) V1 (λi hi=> ?_) ?_
  .unfold sV;rw[ah,Zg,bt hi];simp only[zG];rw[ae (n:=(i:Int)+1) V1];rfl
  unfold sV;rw[ah,Zh]
 unfold zN;rw[ah,zF (λh=>h rfl),h];rfl
theorem aF3 {g:Hd}(e:Fg w= .inr (g,cs,bs)):(∃r,FE w= .inr (g,r))/\g.pl=0:=by
 unfold Fg at e
 grind
theorem Vx (z:gM w):rX w=O Za:=by
 have⟨b,W,K⟩:=aV6 z;unfold rX;refine ec W ?_;cases b with
 |false=>exact ec XJ rfl
 |true=>
  have⟨C,B⟩:=K rfl;have u:=Wz z C;have q:=Pl z C;show((fJ w).bind _)=_;cases e:Fg w with
  |inl F=>
   rw[e]at u q;have he:=Rv e
   have ht:fJ w=O (F,[]):=by
    unfold fJ;refine ec u ?_
    grind
   have⟨n,N⟩:=Int.eq_ofNat_of_zero_le (show 0<=F by omega);subst N;have g:=tD (n:=(n:Int)) V1;rw[Int.toNat_natCast]at g
   have E:ge w=O (([101,114,114,111,114,32]++pz n)++[10]):=by
    unfold ge;refine ec u ?_;show cond (Zc<|(n:Int)≠0) ((kZ (n:Int)).bind _) _=_;rw[Zf,zC];refine ec (a:=pz n) ?_ ?_
    .unfold kZ;rw[Vr V1]
    rw[ja V3,ja V3]
   have D:rz w=O (([101,114,114,111,114,32]++pz n)++[10]):=by
    unfold rz;refine ec q ?_;show cond (Zc<|(n:Int)≠0) _ _=_;rw[Zf,zC];refine ec (Pr V2 V2 (λy Z=>by rw[cc.1 Z,Zj];omega)).2 ?_;rw[Zj];show O ([101,114,114,111,114]++(([32::pz n].flatten)++[10]))=_;simp
   refine ec ht ?_;refine ec q ?_;simp only;rw[zA (show¬(n:Int)=0 by omega),zD,zG];refine ec (QG (a:=[]) V2) ?_;rw[zC,zB trivial,zC];refine ec E ?_;refine ec D ?_;rw[zB rfl,zC];exact ec XJ rfl
  |inr p=>
   have⟨g,cs,bs⟩:=p;rw[e]at u q;have⟨A,M⟩:=B g cs bs e;have⟨⟨r,H⟩,V⟩:=aF3 e;have⟨o4,o6,I,J,ux,ut⟩:=U8 z C H;have⟨t,l,t1,t2,t3,t4,t5⟩:=TT o4 o6 I J ux ut M u q V A;refine ec t1 ?_;refine ec q ?_;simp only;rw[zB trivial,zC,zC];refine ec (a:=(l,l,g.m,g.x,g.t,g.R,g.Q,g.n,g.b,cs,_)) (ec t3 rfl) ?_;refine ec (QG (a:=l) V1) ?_;rw[zC];refine ec t2 ?_;refine ec t4 ?_;rw[zB rfl,zC];exact ec XJ rfl
end
end Go.V
