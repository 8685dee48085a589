/- A part of the proof. No condition. -/
import Derived.Test.YtlaofmfngnkldaaGreatA9
import Derived.Test.YtlaofmfngnkldaaGreatA7
set_option linter.all false
namespace Go.V
open Go.Ab
open Option renaming some->O,none->Z
open Bool renaming true->Za,false->Zb
open Decidable renaming decide->Zc
open List renaming all_eq_true->aG
open List renaming length_eq_zero_iff->aK
open List renaming mem_append->aF
open List renaming mem_cons->aA
open List renaming mem_flatMap->aL
open List renaming mem_range->aH
open List renaming mem_singleton->aI
open List renaming nodup_cons->aJ
open Option renaming isSome_iff_exists->aN
open List renaming length->b8
open Option renaming bind->bA
variable {c c' c0:Ctx}{ea:bj}{e:cn}{op:AOp}{a v:Value}{chk:Fw}{x:Ab.Blk}{it:LItem}{tab:Tab}
section
open List renaming range->aB,mem_cons_self->aD
open Nat renaming eq_of_beq_eq_true->bB
def YQ (l:List Alt)(s:pI l):Option (Σ a:Alt,a.Ty):=YP l s λa u=>O ⟨a,u⟩
def Px {β:Type}: ∀(l:List Alt) (s:pI l) (k:(a:Alt)->a.Ty->Option β),YP l s k=bA (YQ l s) λp=>k p.1 p.2
 |[],_,_=>rfl
 |[a],t,k=>rfl
 |a::b::r, .inl t,k=>rfl
 |a::b::r, .inr s,k=>Px (b::r) s k
def FSum.spec (F:FSum):Ab.HU:=λg σ K=> ∃(c:Ctx) (d:List VV) (b:DSt) (t:B8 F.ins.shs) (o:pI F.outs) (p:Σ a:Alt,a.Ty) (v:VV) (i h:List Blk) (S':ah),
 c.σ=σ/\Rel c/\F2 (VRel c) d g/\mS c.S 0 [] F.ins d=O b/\QO F.ins.shs b.ls=O t/\Ow b.m=Za/\JO c.S (lq F.objs b.m)=Za/\F.run t=O o/\YQ F.outs o=O p/\
 ot (wu b.m (b8 F.objs)<|b8 c.S) p.1.sk (Qv p.1.sk.shs p.2)=O ([v],i,h)/\vX (lq F.objs b.m) i (cond (CR [v] i h) (CZ b.lent c.S) c.S)=O S'/\
 ∀r j,(∃f:Ctx,f.σ=j/\f.S=S'++h/\Le c f/\Rel f/\VRel f v r/\vk (lq F.objs b.m) c f)->K r j
def FSum.mono (F:FSum):aI0 F.spec:=by
 rintro i σ K K' C ⟨c,b,D,t,o,p,v,l,k,S',m,n,q,s,u,w,z,A,B,d,f,g⟩;exact⟨c,b,D,t,o,p,v,l,k,S',m,n,q,s,u,w,z,A,B,d,f,λr j h=>C r j<|g r j h⟩
def Inl.spec (I:Inl):Ab.HU:=λd σ K=> ∃(β:Type) (y:β) (c:Ctx) (b:List VV) (k:VV->ah->Option β),c.σ=σ/\Rel c/\F2 (VRel c) b d/\I.run β b c.S k=O y/\∀r f,iG c (HZ<|b8 c.S) k y r f->K r f
def Inl.mono (I:Inl):aI0 I.spec:=by
 rintro d σ K K' n ⟨β,y,c,b,k,g,i,j,l,m⟩;exact⟨β,y,c,b,k,g,i,j,l,λr f h=>n r f<|m r f h⟩
def fQ (tab:Tab):Ab.gw:=λf b σ K=>(∃F,F∈tab.fs/\F.f=f/\F.spec b σ K)∨∃I,I∈tab.is/\I.f=f/\I.spec b σ K
def ba (tab:Tab):pF<|fQ tab:=by
 rintro f b σ K K' i (⟨F,d,g,h⟩|⟨F,d,g,h⟩)
 .exact .inl ⟨F,d,g,F.mono b σ K K' i h⟩
 exact .inr ⟨F,d,g,F.mono b σ K K' i h⟩
def fd (P:Program)(F:FSum):Prop:=Fm P F.f F.spec
def Pp (P:Program)(I:Inl):Prop:=Fm P I.f I.spec
def fW (P:Program)(tab:List FSum):Prop:= ∀F,F∈tab->fd P F
def aa (P:Program)(b:List Inl):Prop:= ∀I,I∈b->Pp P I
def aa.nil (P:Program):aa P []:=λF h=>by cases h
def aa.cons {P:Program}{F:Inl}{tab:List Inl}(h:Pp P F)(b:aa P tab):aa P<|F::tab:=λG hG=>by
 rcases aA.1 hG with rfl|hG
 .exact h
 .exact b G hG
def fW.nil (P:Program):fW P []:=λF h=>by cases h
def fW.cons {P:Program}{F:FSum}{tab:List FSum}(h:fd P F)(b:fW P tab):fW P<|F::tab:=λG hG=>by
 rcases aA.1 hG with rfl|hG
 .exact h
 .exact b G hG
def vZ {P:Program}(h:fW P tab.fs)(l:aa P tab.is)(f:FuncId):Fm P f<|fQ tab f:=by
 rintro B μ σ w d b K (⟨F,g,i,j⟩|⟨F,g,i,j⟩) k
 .subst i;exact h F g B μ σ w d b K j k
 subst i;exact l F g B μ σ w d b K j k
theorem Rr {β:Type}{c:Ctx}{k:VV->ah->Option β}{y:β}{f:Nat}{args:List VV}{as:List Value}(A:Rel c)(B:F2 (VRel c) args as): ∀{tab:List FSum},Lb tab f args c.S k=O y->(λf args σ K=> ∃F,F∈tab/\F.f=f/\F.spec args σ K:Ab.gw) f as c.σ (iG c (ux tab f args c.S) k y)
 |[],h=>by cases h
 |F::r,h=>by
  have next:Lb r f args c.S k=O y->ux (F::r) f args c.S=ux r f args c.S->(λf args σ K=> ∃G,G∈F::r/\G.f=f/\G.spec args σ K:Ab.gw) f as c.σ (iG c (ux (F::r) f args c.S) k y):=by
   intro j q;have⟨G,w,s,z⟩:=Rr A B j
   grind
  simp only[Lb]at h;cases g:Nat.beq F.f f with
  |false=>
   rw[g,zD]at h;exact next h (by simp only[ux,g,zD])
  |true=>
   rw[g,zC]at h;cases i:mS (D0 F.vals args c.S) 0 [] F.ins args with
   |none=>
    rw[i]at h;exact next h (by simp only[ux,g,zC,i])
   |some u=>
    rw[i]at h;simp only at h;cases n:QO F.ins.shs u.ls with
    |none=>
     rw[n]at h;exact next h (by simp only[ux,g,zC,i,n])
    |some t=>
     rw[n]at h;simp only at h;have⟨j,q⟩:=am h;rw[Bool.and_eq_true]at j;have d:ux (F::r) f args c.S=lq F.objs u.m:=by simp only[ux,g,zC,i,n]
     rw[d];unfold aI8 at q;have⟨o,w,s⟩:=ag q;rw[Px]at s;have⟨p,z,l⟩:=ag s;have b:=LA F.vals args c.S;split at l
     .rename_i v fs bs he;split at l
      .rename_i S' hS;refine⟨F,aD,bB g,⟨c.μ,D0 F.vals args c.S,c.σ,c.fb⟩,args,u,t,o,p,v,fs,bs,S',rfl,b.rel A,VRel.frames b.le B,i,n,j.1,j.2,w,z,he,hS, ?_⟩;rintro M N ⟨C,D,E,H,I,J,L⟩;exact⟨v,C,D,b.le.trans H,I,(b.calm _).trans L b.le,J,by rw[E];exact l⟩
      .cases l
     .cases l
theorem Rs {β:Type}{c:Ctx}{k:VV->ah->Option β}{y:β}{f:Nat}{args:List VV}{as:List Value}(d:Rel c)(g:F2 (VRel c) args as): ∀{i:List Inl},Vv i f args c.S k=O y->∃I,I∈i/\I.f=f/\I.spec as c.σ (iG c (HZ<|b8 c.S) k y)
 |[],h=>by cases h
 |I::r,h=>by
  simp only[Vv]at h;cases b:Nat.beq I.f f with
  |false=>
   rw[b,zD]at h;have⟨J,j,l,m⟩:=Rs d g h
   grind
  |true=>
   rw[b,zC]at h;exact⟨I,aD,bB b,β,y,c,args,k,rfl,d,g,h,λr n h=>h⟩
def Lc {β:Type}{k:VV->ah->Option β}{y:β}{f:Nat}{args:List VV}{as:List Value}(b:Rel c)(g:F2 (VRel c) args as)(h:Ru tab f args c.S k=O y):fQ tab f as c.σ<|iG c (PJ tab f args c.S) k y:=by
 unfold Ru at h;unfold PJ;cases d:ay2 tab.is f with
 |false=>
  rw[d,zD]at h;rw[zD];exact .inl (Rr b g h)
 |true=>
  rw[d,zC]at h;rw[zC];exact .inr<|Rs b g h
def ar.range (b:ar c e ea)(n:Nat):F2 (VRel c) ((aB n).map<|iZ e)<|(aB n).map ea:=by
 have: ∀l:List Nat,F2 (VRel c) (l.map<|iZ e)<|l.map ea:=λl=>by
  induction l with
  |nil=>exact .nil
  |cons t l d=>exact .cons (b t) d
 exact this _
theorem tC {β:Type}{k:VV->ah->Option β}{y:β}(d:Rel c)(j:ar c e ea)(h:Ig tab op e c.S k=O y):bp (fQ tab) op ea c.σ<|iG c (CT tab op e c.S) k y:=by
 cases op<;>simp only[Ig]at h
 case move x=>exact aA3 d j h
 case pick t a b=>
  split at h
  .rename_i p hp;exact aC9 d j hp h
  cases h
 case alloc B z=>exact YO d h
 case box B x=>exact aM3 d j h
 case build z ps=>
  split at h
  .rename_i cs D;exact Y4 d j D h
  cases h
 case buildSlice B ln z ps=>
  split at h
  .rename_i cs D;exact Nf d j D h
  cases h
 case load x=>exact az5 d j h
 case loadN n x=>exact ae9 d j h
 case store n a x=>exact ao4 d j (λq u=>Lm _ u) h
 case nilCheck x=>exact Sp d j h
 case bin op x z=>exact aM1 d j h
 case eqv kd neg x z=>
  split at h
  .rename_i p hp;exact aN4 d j hp h
  cases h
 case eqCells neg ks x z=>
  split at h
  .rename_i a b w A;split at h
   .rename_i p hp;exact Um d j w A hp h
   cases h
  cases h
 case un op x=>exact bd1 d j h
 case conv kd x=>
  split at h
  .rename_i n E;exact au9 d j E h
  cases h
 case mkFunc f a b=>exact XT d j h
 case makeSlice B bytes z l m=>exact aA0 d j h
 case slice B x lo hi=>exact ao0 d j h
 case sliceArr B n x lo hi=>exact Ti d j h
 case off n x=>exact aR2 d j h
 case idx B x i=>exact aO9 d j h
 case idxA ln B x i=>exact ay7 d j h
 case fieldV o n agg x=>
  split at h
  .rename_i cs D;exact Xy d j D h
  cases h
 case indexV ln B agg x i=>
  split at h
  .rename_i cs kd i w A;exact XJ d j w A h
  cases h
 case indexS x i=>
  split at h
  .rename_i l kd i w A;exact XI d j w A h
  cases h
 case extract x i=>
  split at h
  .rename_i vs D;exact Uo d j D h
  cases h
 case call f xs=>exact Lc d (J7 j xs) h
 case callv x xs=>
  have F:=bt j x;split at h
  .rename_i f a b K;rw[K]at F
   have: ∃H I,ea.ev x= .func (.func f) H I/\F2 (VRel c) a H.toList/\F2 (VRel c) b I.toList:=by
    generalize ea.ev x=xa at F;cases F
    grind
   obtain⟨H,I,w,A,V⟩:=this;obtain⟨U,h⟩:=am h;have:=Lc d ((A.append<|J7 j xs).append V) h;simp only[bp,w,CT,K];exact⟨U,this⟩
  cases h
 case rangeF f n x=>
  have F:=bt j x;split at h
  .rename_i g cs K;rw[K]at F
   have: ∃H I,ea.ev x= .func (.func g) H I/\F2 (VRel c) [] H.toList/\F2 (VRel c) cs I.toList:=by
    generalize ea.ev x=xa at F;cases F;exact⟨_,_,rfl,by assumption,by assumption⟩
   obtain⟨H,I,w,A,V⟩:=this;obtain⟨U,h⟩:=am h;have W:H.toList=[]:=aK.1 A.length.symm
   have J:F2 (VRel c) (Blk.cells 1 Zb<|.nilf::(aB n).map (iZ e)).vals<|Ii Za::(aB n).map ea:=
    .cons .nilf (j.range n)
   have hm:=Nc d (blk:= .cells 1 Zb<|.nilf::(aB n).map (iZ e)) (x:=⟨Ii Za::(aB n).map ea,Za,1⟩) rfl (Nat.le_refl _) rfl rfl J;have M:=hm.le d;have N:=hm.rel d
   have Y:VRel ⟨pR c<|O c.σ.n,mb c.S Z++[.cells 1 Zb<|.nilf::(aB n).map (iZ e)],c.σ.add ⟨Ii Za::(aB n).map ea,Za,1⟩,c.fb⟩ (.fn (QR f) [] [.ptr c.S.length 0])<|YB f c.σ.n:=
    .fn .nil (.cons (P6 (dm:=_) rfl) .nil)
   have D:=Lc N (.cons Y<|VRel.frames M V) h;simp only[bp,w,CT];refine⟨by simpa using U,W,ba tab _ _ _ _ _ (λv σ' K=> ?_) D⟩;obtain⟨vv,c',e1,e2,e3,e4,e5,P⟩:=K;subst e1;dsimp only at P;split at P
   case h_2=>cases P
   rename_i B r T;have X:c.S.length<(mb c.S Z++[Blk.cells 1 Zb<|.nilf::(aB n).map (iZ e)]).length:=by simp[mb]
   obtain⟨_,C⟩:=e2.al c.S.length _ X (by rw[T];rfl);have C:c'.μ c.S.length=O c.σ.n:=by rw[C];simp[pR]
   obtain⟨_,L⟩:=e3.blk c.S.length _ (by rw[T];rfl);obtain⟨b,y0,cs0,rest,Q,g2,g3,g4,g5,g6⟩:=L.resolve_left (λq=>by rw[C]at q;cases q.2);rw[C]at Q;injection Q with Q
   subst Q;rw[T]at g4 g6;obtain⟨k1,k2⟩:=az1 e3 T C;refine⟨⟨y0,g2,g4 rfl, ?_⟩, .undef,_,rfl,(M.trans e2).trans k1,k2,λq u E=>(E<|Cb u).elim, .undef _,P⟩;rw[g5];cases g6 with
   |cons r1 r2=>cases r1;rfl
  cases h
 case append B bytes s x=>exact TR d j (λq u=>Lm _ u) h λh=>W6 d j (λq u=>Lm _ u) h
 case stuck=>cases h
 case capN x=>
  split at h
  .rename_i F;exact au3 d j F h
  cases h
 case sliceX ti x hi mx=>exact Yi d j h
 case makeM kd=>exact af9 d h
 case lookM kd ok x i=>
  split at h
  .rename_i key hk;exact af2 d j hk h
  cases h
 case updM kd x i v=>
  split at h
  .rename_i key k' n hk E;exact aG3 d j hk E (λq u=>by simp only[CT,u,Qb];exact aI.2 rfl) h
  cases h
 case makeG ks vn=>exact af7 d h
 case lookG ks vz ok x i=>
  split at h
  .rename_i kc hk;exact af1 d j hk h
  cases h
 case updG ks vn x i v=>
  split at h
  .rename_i kc vc hk E;exact aG2 d j hk E (λq u=>by simp only[CT,u,Qb];exact aI.2 rfl) h
  cases h
 case strOf x=>exact ao6 d j h
 case appendZ B bytes z s x=>exact TT d j (λq u=>Lm _ u) h
 case copy B s x=>exact av0 d j (λq u=>Lm _ u) h
 case len x=>
  split at h
  .cases h
  rename_i hns;split at h
  .rename_i n E;exact aP7 d j hns E h
  cases h
 case lenS x=>
  split at h
  .rename_i l hl;exact az4 d j hl h
  cases h
 case most x z=>
  split at h
  .rename_i kd a kd' b w A;exact aA2 d j w A h
  cases h
 case least x z=>
  split at h
  .rename_i kd a kd' b w A;exact ae3 d j w A h
  cases h
end
section
open Bool renaming and_eq_true->aD,or_eq_true->cV,false_or->cW,not_true->cX
open List renaming mem_cons_of_mem->cB,mem_cons->cY,mem_cons_self->cZ,map_congr_left->dD
open Nat renaming beq->aB,eq_of_beq_eq_true->bB,lt_of_lt_of_le->bD,beq_refl->cD,le_of_ble_eq_true->dA,le_refl->dB,le_trans->dC
def mO {β:Type}(c:Ctx)(k:cn->ah->Option β)(y:β):bj->Hp->Prop:=λea d=> ∃b c',c'.σ=d/\Le c c'/\Rel c'/\ar c' b ea/\k b c'.S=O y
def mO.of {β:Type}{c1:Ctx}{k:cn->ah->Option β}{y:β}(h:Le c c1){σ':Hp}(i:mO c1 k y ea σ'):mO c k y ea σ':=by
 have⟨b,c',d,f,g⟩:=i;exact⟨b,c',d,h.trans f,g⟩
def mY {β:Type}(c:Ctx)(k:AExit->cn->ah->Option β)(y:β):AExit->bj->Hp->Prop:=λx=>mO c (k x) y
section
variable {β:Type} {tab:Tab} {y:β}
theorem GY : ∀{ops:List AOper} {c:Ctx} {e:cn} {ea:bj} {k:cn->ah->Option β},Rel c->ar c e ea->CX tab ops e c.S k=O y->Ab.kM (fQ tab) (mO c k y) ops ea c.σ
 |[],c,e,ea,k,q,j,h=>⟨e,c,rfl,Le.refl c,q,j,h⟩
 |o::r,c,e,ea,k,q,j,h=>by
  have n: ∀f,ar c f ea->Ig tab o.op f c.S (λv S'=>CX tab r (putO f o.dst v) S' k)=O y->bp (fQ tab) o.op ea c.σ λv A=>Ab.kM (fQ tab) (mO c k y) r (ea.putO o.dst v) A:=by
   intro f b l;refine kX (ba tab) (λv A H=> ?_)<|tC q b l;have⟨K,c',C,s,D,_,E,F⟩:=H;subst C;exact Ab.uK (ba tab) (λB J m=>m.of s) _ _ _ (GY D ((b.frame s).putO E) F)
  have skip: ∀f,ar c f ea->CX tab r (putO f o.dst<|.tup []) c.S k=O y->Ab.kM (fQ tab) (mO c k y) r (ea.putO o.dst undef) c.σ:=λf b l=>GY q (b.putO<|.tup .nil) l
  simp only[CX]at h;simp only[Ab.kM];split at h
  .rename_i hg;have:wanted o ea=Za:=by simp only[wanted,hg]
   rw[zE this];exact n e j h
  .rename_i t w hg;split at h
   .rename_i p m;have g:=j t;rw[m]at g;have g:=g.bool_inv;have I:wanted o ea=(p==w):=by simp only[wanted,hg,g]
    have z:ar c (oA e t<|.bool p) ea:=by
     have:=j.put (d:=t)<|VRel.bool (c:=c) p;intro i;have l:=this i;unfold bj.put at l
     grind
    grind
   .rename_i m;have g:=j t;rw[m]at g
    have I:wanted o ea=Zb:=by
     simp only[wanted,hg];generalize ea t=u at g;cases g;rfl
    grind
   .cases h
def NA :Value->Option Nat
 | .pointer (O a)=>O a.block
 | .slice (O a) _ _=>O a.block
 | .func _ _ c=>(match c.toList with
  |[.pointer<|O a]=>O a.block
  |_=>Z)
 |_=>Z
def AA :AOp->Operand
 | .load x| .loadN _ x| .sliceArr _ _ x _ _| .slice _ x _ _| .lookM _ _ x _=>x
 |_=> .global 0
theorem LS {σ q σ':Hp}(j:op.isLoad=Za)(h:op.run ea σ=O (v,q))(d: ∀b,NA (ea.ev<|AA op)=O b->σ'.m b=σ.m b):op.run ea σ'=O (v,σ'):=by
 cases op<;>try(cases j;done)
 case lookM kd ok x i=>
  simp only[AOp.run,AA]at h d⊢;split at h
  .rename_i b key k hk;have g:NA (ea.ev x)=O b:=by rw[Cp k];rfl
   rw[d b g];split at h
   .split at h
    .injection h with h
     injection h with p r
     subst p;rfl
    cases h
   cases h
  cases h
 case load x=>
  simp only[AOp.run,AA]at h d⊢;split at h
  .rename_i b o hx;rw[hx]at d;rw[d b rfl];split at h
   .rename_i blk g;cases f:blk.cells[o]? with
    |none=>rw[f]at h;cases h
    |some u=>
     grind
   cases h
  cases h
 case loadN n x=>
  simp only[AOp.run,AA]at h d⊢;split at h
  .rename_i b o hx;rw[hx]at d;rw[d b rfl];split at h
   .rename_i blk g;cases f:oB blk o n with
    |none=>rw[f]at h;cases h
    |some u=>
     grind
   cases h
  cases h
 case slice es x lo hi=>
  cases lo with
  |none=>cases j
  |some l=>
   simp only[AOp.run,AA]at h d⊢;split at h
   .rename_i a ln cap hx;rw[hx]at d
    have k:Cq σ' es a (O l)=Cq σ es a (O l):=by
     cases a with
     |none=>rfl
     |some a=>simp only[Cq];rw[d a.block rfl]
    grind
   cases h
 case sliceArr es n x lo hi=>
  simp only[AOp.run,AA]at h d⊢;split at h
  .rename_i b o hx;rw[hx]at d;rw[d b rfl];split at h
   .rename_i blk g;split at h
    .rename_i f;rw[zE f];split at h
     .split at h
      .split at h
       .rename_i hlt
        grind
       cases h
      cases h
     cases h
    cases h
   cases h
  cases h
def af4 {σ g:Hp}{q:Option Addr}(f:op.isLoad=Za)(b:ea.ev (AA op)= .slice q 0 0)(h:op.run ea σ=O (v,g))(σ':Hp):op.run ea σ'=O (v,σ'):=by
 cases op<;>try(cases f;done)
 case lookM kd ok x i=>
  simp only[AA]at b;simp only[AOp.run,b,Hd]at h;cases h
 case load x=>
  simp only[AA]at b;simp only[AOp.run,b]at h;cases h
 case loadN n x=>
  simp only[AA]at b;simp only[AOp.run,b]at h;cases h
 case slice es x lo hi=>
  simp only[AA]at b;simp only[AOp.run,b,beq_self_eq_true,Bool.true_or,if_true]at h⊢;split at h
  .split at h
   .injection h with h
    injection h with d j
    subst d;rfl
   cases h
  cases h
 case sliceArr es n x lo hi=>
  simp only[AA]at b;simp only[AOp.run,b]at h;cases h
structure LeV (c c':Ctx):Prop where
 len:b8 c.S<=b8 c'.S
 al: ∀k d,k<b8 c.S->(ae c'.S k).dim=O d->(ae c.S k).dim=O d/\c'.μ k=c.μ k
 ln: ∀k d b y,k<b8 c.S->(ae c'.S k).dim=O d->c.μ k=O b->c.σ.m b=O y->∃y',c'.σ.m b=O y'/\b8 y'.cells=b8 y.cells
 rd: ∀b y,c.σ.m b=O y->¬c.mut b->c'.σ.m b=O y/\¬c'.mut b
def LeV.trans {a b:Ctx}(h:LeV a b)(k:LeV b c):LeV a c:=by
 refine⟨dC h.len k.len,λq d f j=> ?_,λq d x y f j o m=> ?_,λx y m u=> ?_⟩
 .obtain⟨g,i⟩:=k.al q d (bD f h.len) j;have⟨n,l⟩:=h.al q d f g;exact⟨n,i.trans l⟩
 .obtain⟨g,i⟩:=k.al q d (bD f h.len) j;have⟨n,l⟩:=h.al q d f g;have⟨w,p,r⟩:=h.ln q d x y f g o m;have⟨z,s,t⟩:=k.ln q d x w (bD f h.len) j (l.trans o) p;exact⟨z,s,t.trans r⟩
 have⟨g,i⟩:=h.rd x y m u;exact k.rd x y g i
def Le.toV (h:Le c c'):LeV c c':=⟨h.len,h.al,h.ln,h.rd⟩
def LeV.refl (c:Ctx):LeV c c:=(Le.refl c).toV
def Gn.frameV (h:LeV c c'){k m n:Nat}{d:Nat×Nat}(l:k<b8 c.S)(j:(ae c'.S k).dim=O d)(t:Gn c k m n d a):Gn c' k m n d a:=by
 have⟨A,i⟩:=h.al k d l j;rcases t with⟨rfl,rfl,rfl,f,w⟩|⟨b,o,y,rfl,f,p,q,u,r⟩
 .exact .inl ⟨rfl,rfl,rfl,i.trans f,w⟩
 have⟨z,g,s⟩:=h.ln k d b y l j f u;exact .inr ⟨b,o,z,rfl,i.trans f,p,q,g,by rw[s];exact r⟩
theorem VRel.frameV {c c':Ctx}(h:LeV c c'): ∀{v:VV} {a:Value},VRel c v a->VRel c' v a
 |_,_, .undef a=> .undef a
 |_,_, .bool b=> .bool b
 |_,_, .int k n=> .int k n
 |_,_, .str w=> .str w
 |_,_, .nilp=> .nilp
 |_,_, .nils=> .nils
 |_,_, .nilf=> .nilf
 |_,_, .ptr i f o=> .ptr (bD i h.len) f λd g=>by
  have⟨f,j⟩:=h.al _ d i g
  grind
 |_,_, .it i f w o=> .it (bD i h.len) f w λd g=>by
  have⟨f,j⟩:=h.al _ d i g
  grind
 |_,_, .bld i f o=> .bld (bD i h.len) f λd g=>by
  have⟨f,j⟩:=h.al _ d i g
  grind
 |_,_, .pix i f A o=> .pix (bD i h.len) f A λd g=>by
  have⟨f,j⟩:=h.al _ d i g
  grind
 |_,_, .pel i f o=> .pel (bD i h.len) f λd g=>by
  have⟨f,j⟩:=h.al _ d i g
  grind
 |_,_, .pin p q B s=> .pin (h.rd _ _ q p).2 (h.rd _ _ q p).1 B (go s)
 |_,_, .lstn u=> .lstn u
 |_,_, .tgtn u=> .tgtn u
 |_,_, .tgt p q t r s=> .tgt (h.rd _ _ q p).2 (h.rd _ _ q p).1 t r (go s)
 |_,_, .lst p q t f j r s=> .lst (h.rd _ _ q p).2 (h.rd _ _ q p).1 t f j r (go s)
 |_,_, .full i f o=> .full (bD i h.len) f λd g=>by
  have⟨f,j⟩:=h.al _ d i g;have⟨n,r,z⟩:=o d f;exact⟨n,r,z.frameV h i g⟩
 |_,_, .part i f o=> .part (bD i h.len) f λd g=>by
  have⟨f,j⟩:=h.al _ d i g;exact(o d f).frameV h i g
 |_,_, .fn f j=> .fn (go f) (go j)
 |_,_, .bag f=> .bag (go f)
 |_,_, .agg f=> .agg (go f)
 |_,_, .tup f=> .tup<|go f
where
 go: ∀{l:List VV} {m:List Value},F2 (VRel c) l m->F2 (VRel c') l m
  |_,_, .nil=> .nil
  |_,_, .cons f j=> .cons (VRel.frameV h f)<|go j
def VRel.framesV (h:LeV c c'){l:List VV}{m:List Value}(b:F2 (VRel c) l m):F2 (VRel c') l m:=b.imp λ_ _ d=>d.frameV h
def ar.frameV (h:ar c e ea)(b:LeV c c'):ar c' e ea:=λt=>(h t).frameV b
def QS (c:Ctx)(p:Hp->Prop)(f:ah->Bool):Prop:= ∀c',LeV c c'->Rel c'->f c'.S=Za->p c'.σ
def QS.next {p:Hp->Prop}{f:ah->Bool}(h:QS c p f)(g:LeV c c'):QS c' p f:=λb d=>h b<|g.trans d
def Fb (c:Ctx)(p:Hp->Prop):Option (Option Nat)->Prop
 |none=>True
 |some Z=>p c.σ/\∀d,(∀b y,c.σ.m b=O y->¬c.mut b->d.m b=O y)->p d
 |some (O q)=>(ae c.S q).dim≠Z/\p c.σ/\∀d,(∀b,c.μ q=O b->d.m b=c.σ.m b)->p d
inductive ChkRel (c:Ctx):List (Nat×(Hp->Prop))->Fw->Prop where
 |nil:ChkRel c [] []
 |cons {i:Nat} {p:Hp->Prop} {s:Option<|Option Nat} {f:ah->Bool} {l:List<|Nat×(Hp->Prop)} {m:Fw}:Fb c p s->QS c p f->ChkRel c l m->ChkRel c ((i,p)::l) ((i,s,f)::m)
def Fb.now {p:Hp->Prop}{s:Option Nat}(h:Fb c p<|O s):p c.σ:=by
 cases s with
 |none=>exact h.1
 |some q=>exact h.2.1
def Fb.next {p:Hp->Prop}{d:List Nat}(j:Le c c')(B:vk d c c'): ∀{s:Option<|Option Nat},Fb c p s->Fb c' p (match s with
  |some (O q)=>cond (lB q d) Z (O<|O q)
  |s=>s)
 |none,_=>trivial
 |some Z,h=>by
  refine⟨h.2 _ λb y m l=>(j.rd b y m l).1,λo n=>h.2 o λb y m l=> ?_⟩;have⟨f,r⟩:=j.rd b y m l;exact n b y f r
 |some (O q),h=>by
  cases i:lB q d with
  |true=>
   show Fb c' p<|cond (lB q d) Z<|O<|O q;rw[i];exact trivial
  |false=>
   show Fb c' p<|cond (lB q d) Z<|O<|O q;rw[i];have⟨f,r,t⟩:=h;have C:q∉d:=λe=>by rw[kW.2 e]at i;cases i
   have⟨u,w⟩:=B q (kG f) C f
   have k:c'.μ q=c.μ q:=by
    cases g:(ae c'.S q).dim with
    |none=>exact(u g).elim
    |some A=>exact(j.al q A (kG f) g).2
   exact⟨u,t _ w,λo n=>t o λb z=>by rw[n b (by rw[k];exact z),w b z]⟩
def ChkRel.next {c c':Ctx}{d:List Nat}(h:Le c c')(i:vk d c c'): ∀{l:List<|Nat×(Hp->Prop)} {m:Fw},ChkRel c l m->ChkRel c' l (JV d m)
 |_,_, .nil=> .nil
 |_,_, .cons (s:=s) j b k=>by
  have f:=j.next h i
  have g:=ChkRel.next h i k
  have b:=b.next h.toV
  cases s with
  |none=>exact .cons f b g
  |some s=>
   cases s with
   |none=>exact .cons f b g
   |some q=>exact .cons f b g
def yJ : ∀m:Fw,JV [] m=m
 |[]=>rfl
 |(i,Z,_)::r=>by simp only[JV,yJ r]
 |(i,O Z,_)::r=>by simp only[JV,yJ r]
 |(i,O<|O q,_)::r=>by simp only[JV,yJ r,lB,zD]
def Cz {c:Ctx}{b:List Nat}(g:Rel c): ∀{l:List<|Nat×(Hp->Prop)} {m:Fw},ChkRel c l m->Bh c.S b m=Za->xl b c.σ l
 |_,_, .nil,_=>trivial
 |_,_, .cons (i:=i) (s:=s) (f:=f) n q j,h=>by
  simp only[Bh]at h;simp only[xl]
  have o:b.contains i=lB i b:=by
   cases d:lB i b with
   |true=>simpa using kW.1 d
   |false=>
    cases p:b.contains i with
    |false=>rfl
    |true=>
     have:i∈b:=by simpa using p
     rw[kW.2 this]at d;cases d
  rw[o];cases d:lB i b with
  |false=>
   rw[d,zD]at h;rw[zF V5];exact Cz g j h
  |true=>
   rw[d,zC]at h;rw[zE rfl];cases s with
   |none=>
    simp only at h;cases k:f c.S with
    |false=>rw[k]at h;cases h
    |true=>
     rw[k,zC]at h;exact⟨q c (LeV.refl c) g k,Cz g j h⟩
   |some s=>exact⟨n.now,Cz g j h⟩
def mU {T:Ab.gw}{e:bj}{σ:Hp}(b:op.still=Za){k:Value->Hp->Prop}:(match op.run e σ with
  |some (v,σ')=>k v σ'
  |none=>False)=bp T op e σ k:=by
 cases op<;>first|(cases b;done)|rfl
theorem yh {s t:ByteArray}(h:au s=au t):s=t:=by
 unfold au at h;have d:=List.map_inj_right (λa b (h:((a.toNat:Nat):Int)=(b.toNat:Int))=>UInt8.toNat_inj.1<|Int.ofNat.inj h)|>.1 h
 obtain⟨⟨s⟩⟩:=s
 simp_all
def aw5 {x y:VV}{b:Value}(d:VRel c x a)(f:VRel c' y b)(h:aN2 x y=Za):a=b:=by
 cases d<;>cases f<;>simp only[aN2,aD,decide_eq_true_eq,Bool.false_eq_true]at h
 case bool.bool=>rw[h]
 case int.int=>rw[h.1,h.2]
 case str.str h1 _ _ h2=>rw[yh<|h1.trans<|h.trans h2.symm]
 all_goals rfl
def Yb {tab:Tab}{j:VV}(m:ar c e ea)(i:op.still=Za)(o:VRel c0 j v):QS c (λσ'=>op.run ea σ'=O (v,σ'))<|Qf tab op e j:=by
 intro c' n l h;unfold Qf at h;split at h
 .rename_i b hb;subst h;have d:=tC l (m.frameV n) hb;rw[<-mU i]at d;show op.run ea c'.σ=O (v,c'.σ);cases g:op.run ea c'.σ with
  |none=>rw[g]at d;exact d.elim
  |some q=>
   have⟨z,A⟩:=q;rw[g]at d;have⟨p,r,s,t,u,w,k,f⟩:=d;injection f with f
   rw[uH i g,aw5 o k f]
 cases h
theorem XV {v:VV}{q b:Nat}(g:Hg v=O q)(t:VRel c v a)(f:NA a=O b)(j:(ae c.S q).dim≠Z):c.μ q=O b:=by
 unfold Hg at g;split at g
 .rename_i q0;injection g with g
  subst g;cases t with
  |fn w i=>
   rename_i u k;simp only[NA]at f;cases l:k.toList with
   |nil=>rw[l]at i;cases i
   |cons x r=>
    rw[l]at i f;cases i with
    |cons o p=>
     cases p;cases o with
     |ptr z A s=>
      cases h:(ae c.S q0).dim with
      |none=>exact(j h).elim
      |some d=>
       obtain⟨k,m,n⟩:=s d h;rw[n]at f;injection f with f
       exact f▸m
 cases g
theorem HY {W:Hp}(Y:Rel c)(T:ar c e ea)(B:op.isLoad=Za)(h:op.run ea c.σ=O (v,W)):Fb c (λσ'=>op.run ea σ'=O (v,σ'))<|W9 c.S op e:=by
 have w:=bt T<|AA op;have t:op.run ea c.σ=O (v,c.σ):=LS B h λ_ _=>rfl
 have f: ∀q,(∀b,NA (ea.ev<|AA op)=O b->(ae c.S q).dim≠Z->c.μ q=O b)->Fb c (λσ'=>op.run ea σ'=O (v,σ')) (cond (ae c.S q).live (O<|O q) Z):=by
  intro q g;cases H:(ae c.S q).live with
  |false=>trivial
  |true=>
   have⟨X,k⟩:=tG H;exact⟨by rw[k];simp,t,λσ' L=>LS B h λb C=>L b<|g b C (by rw[k];simp)⟩
 have M:Fb c (λσ'=>op.run ea σ'=O (v,σ'))<|YT c.S<|ev e<|AA op:=by
  generalize ev e (AA op)=U at*
  have p:(∀b,NA (ea.ev<|AA op)=O b->∃y,c.σ.m b=O y/\¬c.mut b)->Fb c (λσ'=>op.run ea σ'=O (v,σ')) (O Z):=by
   intro g;refine⟨t,λσ' L=>LS B h λb C=> ?_⟩
   grind
  cases U<;>simp only[YT,zp]<;>try exact trivial
  case ptr q o=>
   refine f q λb g k=> ?_
   cases w with
   |ptr D E u=>
    cases j:(ae c.S q).dim with
    |none=>exact(k j).elim
    |some d=>
     have⟨A,z,r⟩:=u d j;rw[r]at g;cases g;exact z
  case it q l=>
   refine f q λb g k=> ?_
   have⟨s,_,u⟩:=w.it_inv;cases j:(ae c.S q).dim with
   |none=>exact(k j).elim
   |some d=>
    have⟨A,z,r⟩:=u d j;rw[r]at g;cases g
  case bld q=>
   refine f q λb g k=> ?_
   cases w with
   |bld _ _ u=>
   cases j:(ae c.S q).dim with
   |none=>exact(k j).elim
   |some d=>
    have⟨A,z,r⟩:=u d j;rw[r]at g;cases g
  case pix q o n i=>
   refine f q λb g k=> ?_
   cases w with
   |pix D E hi u=>
    cases j:(ae c.S q).dim with
    |none=>exact(k j).elim
    |some d=>
     have⟨A,z,r⟩:=u d j;rw[r]at g;cases g;exact z
  case pel q i o=>
   refine f q λb g k=> ?_
   cases w with
   |pel D E u=>
    cases j:(ae c.S q).dim with
    |none=>exact(k j).elim
    |some d=>
     have⟨A,z,r⟩:=u d j;rw[r]at g;cases g;exact z
  case full q=>
   refine f q λb g k=> ?_
   cases w with
   |full D E u=>
    cases j:(ae c.S q).dim with
    |none=>exact(k j).elim
    |some d=>
     have⟨n,_,r⟩:=u d j;rcases r with⟨r,_⟩|⟨A,Q,V,r,F,_⟩
     .rw[r]at g;cases g
     rw[r]at g;cases g;exact F
  case part q lo n=>
   refine f q λb g k=> ?_
   cases w with
   |part D E u=>
    cases j:(ae c.S q).dim with
    |none=>exact(k j).elim
    |some d=>
     rcases u d j with⟨r,_⟩|⟨A,Q,V,r,F,_⟩
     .rw[r]at g;cases g
     rw[r]at g;cases g;exact F
  case pin s x o=>
   refine p λb g=> ?_
   generalize ea.ev (AA op)=P at*;cases w with
   |pin I K B hf=>
    cases g;exact⟨_,K,I⟩
  case lst s l=>
   generalize J:ea.ev (AA op)=P at*;cases w with
   |lstn N=>
    refine⟨t,λσ' L=> ?_⟩;have:=af4 B J h;exact this σ'
   |lst I K _ _ _ _ _=>
    refine p λb g=> ?_
    cases g;exact⟨_,K,I⟩
  case nils=>
   refine p λb g=> ?_
   generalize ea.ev (AA op)=P at*;cases w;cases g
 cases op<;>first|(cases B;done)|exact M|skip
 case lookM kd ok x i=>
  show Fb c _<|YS c.S<|ev e x;unfold YS;cases N:Hg (ev e x)with
  |none=>trivial
  |some q=>
   refine f q λb g k=> ?_
   simp only[AA]at w g;exact XV N w g k
def Xw {it:SItem}{ach:List<|Nat×(Hp->Prop)}{k:Fw->cn->ah->Option β}(C:Rel c)(n:ar c e ea)(D:ChkRel c ach chk)(h:If tab it chk e c.S k=O y){Q:List (Nat×(Hp->Prop))->bj->Hp->Prop}
  (B: ∀c' d g e' q,Le c c'->Rel c'->ChkRel c' d g->ar c' e' q->k g e' c'.S=O y->Q d q c'.σ):
  if it.mover then bp (fQ tab) it.o.op ea c.σ (λv σ'=>xl it.chks σ' ach/\Q ach (ea.putO it.o.dst v) σ')
  else match it.o.op.run ea c.σ with
   |some (v,_)=>Q (if it.keep then(it.idx,λσ'=>it.o.op.run ea σ'=O (v,σ'))::ach else ach) (ea.putO it.o.dst v) c.σ
   |none=>False:=by
 unfold If at h;cases L:it.mover with
 |true=>
  rw[L,zC]at h;rw[zE rfl];refine kX (ba tab) (λv σ' P=> ?_)<|tC C n h;have⟨M,c',l,r,b,u,w,m⟩:=P;subst l;obtain⟨j,m⟩:=am m;have s:=D.next r u
  exact⟨Cz b s j,B c' ach _ _ _ r b s ((n.frame r).putO w) m⟩
 |false=>
  rw[L,zD]at h;rw[zF V5];have⟨j,N⟩:=am h;rw[aD]at j;have l:=tC C n N;rw[<-mU j.1]at l;cases A:it.o.op.run ea c.σ with
  |none=>rw[A]at l;exact l
  |some p=>
   have⟨v,T⟩:=p;rw[A]at l;have⟨M,c',r,b,u,w,m,z⟩:=l;simp only
   have K:CT tab it.o.op e c.S=[]:=by
    have:=j.1;cases I:it.o.op<;>rw[I]at this<;>first|(cases this;done)|rfl
   have s:=D.next b w
   rw[K,yJ]at s;have J:T=c.σ:=uH j.1 A;rw[<-J,<-r];cases E:it.keep with
   |false=>
    simp only[E,zD]at z;rw[zF V5];exact B c' ach chk _ _ b u s ((n.frame b).putO m) z
   |true=>
    simp only[E,zC]at z;rw[zE rfl];have H:it.o.op.isLoad=Za:=by have:=j.2;rw[E]at this;simpa using this
    have F:=HY C n H A;have t:=(ChkRel.cons (i:=it.idx) (f:=Qf tab it.o.op e M) F (Yb n j.1 m) D).next b w
    rw[K,yJ]at t;exact B c' _ _ _ _ b u t ((n.frame b).putO m) z
end
def ph (op:AOp)(ea:bj)(x:Ab.Blk)(b:Nat->Value):Prop:= ∀σ:Hp,op.run ea σ=O (b σ.n,σ.add x)
def ph.unique {j:Ab.Blk}{i b:Nat->Value}(h:ph op ea x i)(k:ph op ea j b):x=j/\i=b:=by
 have f: ∀n,i n=b n/\x=j:=by
  intro n;have d:=h ⟨λ_=>Z,n⟩;rw[k ⟨λ_=>Z,n⟩]at d;injection d with d
  injection d with d l
  refine⟨d.symm, ?_⟩;have g:=congrArg (λs:Hp=>s.m n) l;simp only[Hp.add,if_true]at g;injection g with g
  exact g.symm
 exact⟨(f 0).2,funext λn=>(f n).1⟩
def PN {b:bj}{x:Operand}(h: ∀t∈Sz x,b t=ea t):b.ev x=ea.ev x:=by
 cases x with
 |tmp t=>exact h t (by simp[Sz])
 |_=>rfl
def ph.same {b:bj}{j:Nat->Value}(h:ph op ea x j)(n:pO op=Za)(i: ∀t∈tP op,b t=ea t):ph op b x j:=by
 intro σ;have d:=h σ;cases op<;>first|(cases n;done)|skip
 case alloc es z=>exact d
 case makeSlice es bytes z l m=>
  have g:b.ev l=ea.ev l:=PN λt f=>i t (by simp[tP,f])
  have k:b.ev m=ea.ev m:=PN λt f=>i t (by simp[tP,f])
  simp only[AOp.run]at d⊢;rw[g,k];exact d
 case buildSlice es ln z ps=>
  have g:(ps.map λ(o,s,x)=>(o,s,b.ev x))=ps.map λ(o,s,x)=>(o,s,ea.ev x):=by
   apply dD;rintro⟨o,s,x⟩ p;simp only;rw[PN λt f=>i t<|aL.2 ⟨_,p,f⟩]
  simp only[AOp.run]at d⊢;rw[g];exact d
def Mr {c c':Ctx}: ∀{l:List VV} {m:List Value},l.all WJ=Za->F2 (VRel c) l m->F2 (VRel c') l m
 |_,_,_, .nil=> .nil
 |v::l,_,h, .cons b d=>by
  rw[List.all_cons,aD]at h;refine .cons ?_ (Mr h.2 d);cases b<;>first|(cases h.1;done)|skip
  .exact .bool _
  .exact .int _ _
  .exact .str ZZ
structure FreshFact (op:AOp)(ea:bj)(blk:Blk)(w:Bool)(x:Ab.Blk)(vf:Nat->Value):Prop where
 run:ph op ea x vf
 fz:blk.frozen=Zb
 dm: ∃dm cs rest,blk.dim=O dm/\1<=dm.1/\x.es=dm.1/\x.own=Za/\x.cells=cs++rest/\∀c':Ctx,F2 (VRel c') blk.vals cs
 vv: ∀(c':Ctx) (k b:Nat),k<b8 c'.S->ae c'.S k=blk->c'.μ k=O b->c'.σ.m b=O x->VRel c' (vvF w k) (vf b)
theorem Cj {β:Type}{k:Blk->Bool->Option β}{y:β}(F:ar c e ea)(h:yr op e k=O y):pO op=Za/\∃blk w x Q,k blk w=O y/\FreshFact op ea blk w x Q:=by
 cases op<;>simp only[yr]at h<;>first|(cases h;done)|skip
 case alloc es z=>
  obtain⟨i,u⟩:=am h;have i:=dA i;refine⟨rfl,_,_,⟨z,Za,es⟩,λn=> .pointer<|O ⟨n,0,Z⟩,u,⟨λσ=>rfl,(xf es z).2.1,⟨(es,z.length),z,[],(xf es z).1,i,rfl,rfl,V2,λc'=>(xf es z).2.2 c'⟩,λc' k b j L C D=> ?_⟩⟩;refine .ptr j rfl λd f=>⟨b,C,rfl⟩
 case makeSlice es bytes z l m=>
  have K:=bt F l;have C:=bt F m;split at h
  .rename_i k1 a k2 b s i u L;rw[i]at K;rw[u]at C;obtain⟨J,j⟩:=am h;simp only[aD]at J;obtain⟨⟨⟨⟨t,g⟩,r⟩,A⟩,B⟩:=J;have t:=bB t;have g:=of_decide_eq_true g;have r:=of_decide_eq_true r;have A:=of_decide_eq_true A;have B:=dA B;have M: ∀c':Ctx,F2 (VRel c') (bn s<|tQ s) z:=λc'=>xA (c:=c') L
   have H:z.length=s.w:=by rw[<-(M c).length,cu]
   have S:b<=bytes*b:=by
    have:(1:Int)*b<=bytes*b:=Int.mul_le_mul_of_nonneg_right V1 V1;omega
   refine⟨rfl,_,_,⟨fp z b.toNat,Za,es⟩,λn=> .slice (O ⟨n,0,Z⟩) a.toNat b.toNat,j,⟨λσ=> ?_,rfl,⟨(s.w,(List.replicate a.toNat<|tQ s).length*s.w),fp z a.toNat,fp z<|b.toNat-a.toNat,rfl,mX s,t,rfl, ?_,λc'=> ?_⟩,λc' k q j p o D=> ?_⟩⟩
   .simp only[AOp.run,K.int_inv,C.int_inv]
    grind
   .show fp z b.toNat=_;rw[<-OX]
    congr 1
    omega
   .show F2 (VRel c') (fh s<|List.replicate a.toNat<|tQ s) (fp z a.toNat);rw[rh];generalize a.toNat=n;induction n with
    |zero=>exact .nil
    |succ n N=>
     simp only[fp,List.replicate_succ,List.flatten_cons]at N⊢;exact(M c').append N
   refine .full j rfl λd f=> ?_
   rw[p]at f;injection f with f
   subst f;refine⟨a.toNat,V2, .inr ⟨q,b.toNat,_,V2,o,V2,V1,D, ?_⟩⟩;rw[Nat.zero_add];show b.toNat*s.w<=(fp z b.toNat).length;rw[OY,H];exact dB _
  cases h
 case buildSlice es ln z ps=>
  split at h
  .rename_i cs hf;obtain⟨i,u⟩:=am h;simp only[aD]at i;obtain⟨⟨⟨⟨t,g⟩,r⟩,A⟩,B⟩:=i;have g:=bB g;have r:=dA r;obtain⟨I,P,E⟩:=xh F ps hf<|IP ln z;refine⟨B,_,_,⟨I,Za,es⟩,λn=> .slice (O ⟨n,0,Z⟩) ln ln,u,⟨λσ=> ?_,rfl,⟨(es,cs.length),I,[],rfl,r,rfl,rfl,V2,λc'=>Mr A E⟩,λc' k q j p o D=> ?_⟩⟩
   .simp only[AOp.run,P];rw[zE<|kj E t]
   refine .full j rfl λd f=> ?_
   rw[p]at f;injection f with f
   subst f;refine⟨ln,g, .inr ⟨q,ln,_,V2,o,aY,dB _,D, ?_⟩⟩;rw[Nat.zero_add];show ln*es<=I.length;rw[<-E.length];exact Nat.le_of_eq g
  cases h
theorem qm {i q:Nat}: ∀{l:List Nat},l.Nodup->(q∈AS i l↔q∈l/\q≠i)
 |[],_=>by simp[AS]
 |a::r,h=>by
  have⟨g,d⟩:=aJ.1 h;simp only[AS];cases b:aB a i with
  |true=>
   have:=bB b
   grind
  |false=>
   have f:a≠i:=λe=>by subst e;rw[cD]at b;cases b
   rw[zD,cY,cY,qm d]
   grind
def Jc {i:Nat}: ∀{l:List Nat},l.Nodup->(AS i l).Nodup
 |[],h=>h
 |a::r,h=>by
  have⟨d,b⟩:=aJ.1 h;simp only[AS];cases g:aB a i with
  |true=>exact b
  |false=>
   rw[zD,List.nodup_cons];exact⟨λf=>d ((qm b).1 f).1,Jc b⟩
def uv : ∀{ts:List Nat} {e:cn} {t:Nat},iZ (mv e ts) t= .undef∨(t∉ts/\iZ (mv e ts) t=iZ e t)
 |[],e,t=> .inr ⟨V2,rfl⟩
 |a::ts,e,t=>by
  simp only[mv,vN];by_cases h:t=a
  .rw[zE h];exact .inl rfl
  .rw[zF h];rcases uv (ts:=ts) (e:=e) (t:=t)with b|⟨b,d⟩
   .exact .inl b
   .exact .inr ⟨by simp[h,b],d⟩
section
variable {tab:Tab} {ops:List<|AOper×List Nat}
structure InvL (ops:List<|AOper×List Nat)(c0 c:Ctx)(e:cn)(ea:bj)(ach:List<|Nat×(Hp->Prop))(chk:Fw)(P ls nd:List Nat)(r:List LItem)(pd:Nat->Nat):Prop where
 le:Le c0 ⟨c.μ,c.S,c.σ,c0.fb⟩
 R:Rel c
 E:ar c e ea
 K:ChkRel c ach chk
 ks:ach.map (·.1)=ls
 nd:pU nd chk=Za
 fb: ∀b,c.fb b↔(c0.fb b∨∃q∈P,pd q=b)
 nod:P.Nodup
 inj: ∀q q',q∈P->q'∈P->pd q=pd q'->q=q'
 new: ∀q∈P,c0.σ.n<=pd q
 pend: ∀q∈P,pO (be ops q).op=Za/\∃x vf,ph (be ops q).op ea x vf/\c.σ.m (pd q)=O x/\∀t,(be ops q).dst=O t->ea t=vf (pd q)
 und: ∀it∈r,aB it.kind 2=Za->∀t,(be ops it.i).dst=O t->iZ e t= .undef
 ds:FC ops r=Za
theorem Fb.frameV {p:Hp->Prop}(w:Rel c)(A:LeV c c')(z: ∀q,q<b8 c.S->ae c'.S q=ae c.S q)(j: ∀q,q<b8 c.S->c'.μ q=c.μ q)(D: ∀b y,c.σ.m b=O y->c'.σ.m b=O y): ∀{s:Option<|Option Nat},Fb c p s->Fb c' p s
 |none,_=>trivial
 |some Z,h=>by
  refine⟨h.2 _ λb y k _=>D b y k,λn l=>h.2 n λb y k B=> ?_⟩;have⟨f,o⟩:=A.rd b y k B;exact l b y f o
 |some (O q),h=>by
  have⟨f,o,r⟩:=h;have u:=kG f
  have i: ∀b,c.μ q=O b->c'.σ.m b=c.σ.m b:=by
   intro b i;cases t:(ae c.S q).dim with
   |none=>exact(f t).elim
   |some d=>
    have⟨_,E⟩:=w.blk q d t
    grind
  exact⟨by rw[z q u];exact f,r _ i,λn C=>r n λb g=>(C b (by rw[j q u];exact g)).trans<|i b g⟩
def ChkRel.frameV (g:Rel c)(f:LeV c c')(h: ∀q,q<b8 c.S->ae c'.S q=ae c.S q)(d: ∀q,q<b8 c.S->c'.μ q=c.μ q)(i: ∀b y,c.σ.m b=O y->c'.σ.m b=O y): ∀{l:List<|Nat×(Hp->Prop)} {m:Fw},ChkRel c l m->ChkRel c' l m
 |_,_, .nil=> .nil
 |_,_, .cons j n k=> .cons (j.frameV g f h d i) (n.next f)<|k.frameV g f h d i
theorem pP {c:Ctx}{m:Nat}{f:List Nat}: ∀{l:List<|Nat×(Hp->Prop)} {chk:Fw},ChkRel c l chk->pU f chk=Za->(∀i∈l.map (·.1),tw ops i m=Za∨lB i f=Za)->A6 ops m c.σ l
 |_,_, .nil,_,_=>trivial
 |_,_, .cons (i:=i) (s:=s) k _ n,h,g=>by
  simp only[pU]at h;simp only[A6];have b:pU f _=Za->A6 ops m c.σ _:=λh3=>pP n h3 λj o=>g j (by simp only[List.map_cons];exact cB _ o)
  cases d:tw ops i m with
  |true=>
   grind
  |false=>
   rw[zF V5];rcases g i V2 with h3|h3
   .rw[d]at h3;cases h3
   .rw[h3,zC]at h;cases s with
    |none=>cases h
    |some s=>exact⟨k.now,b h⟩
theorem LP {β:Type}{ach:List<|Nat×(Hp->Prop)}{P ls nd:List Nat}{r:List LItem}{pd:Nat->Nat}{K:cn->ah->Option β}{y:β}(h0:Rel c0)
  (g:InvL ops c0 c e ea ach chk P ls nd (it::r) pd) (hk:aB it.kind 2=Za) (X:it.i∈P) (h:yr (be ops it.i).op e (λblk w=>K (putO e (be ops it.i).dst<|vvF w<|b8 c.S)<|c.S++[blk])=O y):
  ∃c' e',c'.σ=c.σ/\InvL ops c0 c' e' ea ach chk (AS it.i P) ls nd r pd/\K e' c'.S=O y/\c'.μ (b8 c.S)=O (pd it.i)/\b8 c.S<b8 c'.S/\∃vv,e'=putO e (be ops it.i).dst vv:=by
 have⟨hfb,blk,w,x',vf',h1,h2⟩:=Cj g.E h;have⟨_,x,vf,h3,h4,h5⟩:=g.pend _ X;have⟨ex,ef⟩:=h2.run.unique h3;subst ex;subst ef;obtain⟨dm,cs,rest,d1,d2,d3,d4,d5,d6⟩:=h2.dm;have o:b8 (c.S++[blk])=b8 c.S+1:=by simp
 have Q:=g.ds;simp only[FC,aD]at Q
 let b:=pd it.i
 let c':Ctx:=⟨λq=>if q=b8 c.S then O b else c.μ q,c.S++[blk],c.σ,λq=>c0.fb q∨∃j∈AS it.i P,pd j=q⟩
 have H:c.fb b:=(g.fb b).2<|.inr ⟨it.i,X,rfl⟩;have C: ∀q,q<b8 c.S->ae c'.S q=ae c.S q:=λq f=>mV f
 have p: ∀q,q<b8 c.S->c'.μ q=c.μ q:=λq f=>zF (Nat.ne_of_lt f)
 have U:ae c'.S (b8 c.S)=blk:=Tf;have m:c'.μ (b8 c.S)=O b:=zE rfl
 have F: ∀q,c'.fb q->c.fb q:=by
  rintro q (f|⟨j,M,rfl⟩)
  .exact(g.fb q).2 (.inl f)
  .exact(g.fb _).2 (.inr ⟨j,((qm g.nod).1 M).1,rfl⟩)
 have hbnot: ¬c'.fb b:=by
  rintro(f|⟨j,M,hjb⟩)
  .have:=h0.fbl _ f;have:=g.new _ X;omega
  .obtain⟨B,L⟩:=(qm g.nod).1 M;exact L (g.inj _ _ B X hjb)
 have N: ∀q,c'.own q->c.own q∨q=b:=by
  rintro q ⟨j,B,L⟩;by_cases M:j<b8 c.S
  .rw[C j M]at B;rw[p j M]at L;exact .inl ⟨j,B,L⟩
  .by_cases hj3:j=b8 c.S
   .subst hj3
    grind
   .rw[vV (by show b8 c'.S<=j;rw[o];omega)]at B;cases B
 have hV:LeV c c':=by
  refine⟨by rw[o];omega,λq d f l=> ?_,λq d z J f l hm D=>⟨J,D,rfl⟩,λz J D T=>⟨D,λhm=> ?_⟩⟩
  .rw[C q f]at l;exact⟨l,p q f⟩
  .rcases hm with hm|hm
   .rcases N z hm with hm|hm
    .exact T (.inl hm)
    .subst hm;exact T (.inr H)
   .exact T (.inr<|F _ hm)
 have hR':Rel c':=by
  refine⟨g.R.ok,λq I z f k hm A=> ?_,λq d l=> ?_,λq z l hm=> ?_,λz hb'=>g.R.fbl _<|F _ hb'⟩
  .have u: ∀j,(ae c'.S j).dim≠Z->j<(b8 c.S)∨j=b8 c.S:=by
    intro j M;have:=kG M;rw[o]at this;omega
   rcases u q (mw f)with h6|h6
   .rcases u I k with h7|h7
    .rw[C q h6]at f;rw[C I h7]at k;rw[p q h6]at hm;rw[p I h7]at A;exact g.R.inj q I z f k hm A
    .subst h7;rw[m]at A;cases A;rw[p q h6]at hm;rw[C q h6]at f;exact(g.R.fbk q _ (mw f) hm H).elim
   .rcases u I k with h7|h7
    .subst h6;rw[m]at hm;cases hm;rw[p I h7]at A;rw[C I h7]at k;exact(g.R.fbk I _ k A H).elim
    .rw[h6,h7]
  .by_cases f:q<b8 c.S
   .rw[C q f]at l⊢;have⟨h6,h7⟩:=g.R.blk q d l;refine⟨h6, ?_⟩;rcases h7 with⟨h7,h8⟩|⟨z,J,cs',V,h7,h8,h9,h10,h11,h12⟩
    .exact .inl ⟨h7,by rw[p q f];exact h8⟩
    .exact .inr ⟨z,J,cs',V,by rw[p q f];exact h7,h8,h9,h10,h11,VRel.framesV hV h12⟩
   .by_cases hq2:q=b8 c.S
    .subst hq2
     grind
    .rw[vV (by show b8 c'.S<=q;rw[o];omega)]at l;cases l
  .by_cases f:q<b8 c.S
   .rw[C q f]at l;rw[p q f]at hm;exact λhf=>g.R.fbk q z l hm (F _ hf)
   .have:=kG l
    grind
 have hvv:VRel c' (vvF w<|b8 c.S)<|vf' b:=h2.vv c' (b8 c.S) b (by rw[o];omega) U m h4
 have hE':ar c' (putO e (be ops it.i).dst<|vvF w<|b8 c.S) ea:=by
  have hE:=g.E.frameV hV;cases l:(be ops it.i).dst with
  |none=>exact hE
  |some t=>
   intro W;show VRel c' (iZ (oA e t _) W)<|ea W;rw[vN];by_cases Y:W=t
   .subst Y;rw[zE rfl,h5 _ l];exact hvv
   .rw[zF Y];exact hE W
 refine⟨c',_,rfl,⟨?_,hR',hE',g.K.frameV g.R hV C p (λ_ _ D=>D),g.ks,g.nd,λq=>Iff.rfl,Jc g.nod,λq I f k=>g.inj q I ((qm g.nod).1 f).1 ((qm g.nod).1 k).1,λq f=>g.new q ((qm g.nod).1 f).1,λq f=>g.pend q ((qm g.nod).1 f).1, ?_,Q.2⟩,h1,m,by rw[o];omega,_,rfl⟩
 .have s:=g.le;refine⟨dC s.len (by show b8 c.S<=b8 c'.S;rw[o];omega),λq d f l=> ?_,λq hf l=> ?_,λq d z J f l hm D=> ?_,λz J D T=>s.un z J D T,λz J D T ho=> ?_,s.n,rfl⟩
  .have k:q<b8 c.S:=bD f s.len;have:=C q k;rw[show(⟨c'.μ,c'.S,c'.σ,c0.fb⟩:Ctx).S=c'.S from rfl,this]at l;have⟨h6,h7⟩:=s.al q d f l;exact⟨h6,(p q k).trans h7⟩
  .have k:q<b8 c.S:=bD (kG l) s.len;exact(C q k).trans (s.fz q hf l)
  .have k:q<b8 c.S:=bD f s.len;have:=C q k;rw[show(⟨c'.μ,c'.S,c'.σ,c0.fb⟩:Ctx).S=c'.S from rfl,this]at l;exact s.ln q d z J f l hm D
  .have ho':c'.own z:=ho;rcases N z ho' with ho2|ho2
   .exact s.ow z J D T ho2
   .subst ho2;have:=h0.ok _ _ D;have:=g.new _ X;omega
 .intro it' hit' hk' t Y;have hu:=g.und it' (cB _ hit') hk' t Y;cases l:(be ops it.i).dst with
  |none=>exact hu
  |some W=>
   show iZ (oA e W _) t=_;rw[vN];by_cases htt:t=W
   .subst htt;have:=aG.1 Q.1 it' hit';rw[hk,hk']at this;simp only[cX,cW,Ws,l,Y,cD]at this;cases this
   .rw[zF htt];exact hu
def VZ {β:Type}{ach:List<|Nat×(Hp->Prop)}{P ls f:List Nat}{r:List LItem}{pd:Nat->Nat}{k:cn->ah->Option β}{y:β}(g:Rel c0)
  (n:InvL ops c0 c e ea ach chk P ls f (it::r) pd) (b:aB it.kind 2=Za) (o:it.i∈P) (h:CW tab ops (it::r) chk e c.S k=O y):
  ∃c' e',c'.σ=c.σ/\InvL ops c0 c' e' ea ach chk (AS it.i P) ls f r pd/\CW tab ops r chk e' c'.S k=O y:=by
 have d:aB it.kind 3=Zb:=by rw[bB b];rfl
 simp only[CW,b,d,zC,zD]at h;obtain⟨c',e',j,l,m,_⟩:=LP (K:=λe' S'=>CW tab ops r chk e' S' k) g n b o h;exact⟨c',e',j,l,m⟩
def SL {β:Type}{ach:List<|Nat×(Hp->Prop)}{P ls nd:List Nat}{r:List LItem}{pd:Nat->Nat}{k:cn->ah->Option β}{y:β}
  (b:InvL ops c0 c e ea ach chk P ls nd (it::r) pd) (f:aB it.kind 3=Za) (h:CW tab ops (it::r) chk e c.S k=O y):
  InvL ops c0 c e ea ach chk P ls nd r pd/\CW tab ops r chk e c.S k=O y:=by
 simp only[CW,f,zC]at h;have⟨_,_,_,_,_,g,_⟩:=Cj b.E h;have d:=b.ds;simp only[FC,aD]at d;exact⟨⟨b.le,b.R,b.E,b.K,b.ks,b.nd,b.fb,b.nod,b.inj,b.new,b.pend,λj i f t l=>b.und j (cB _ i) f t l,d.2⟩,g⟩
def HE {β:Type}{c0:Ctx}{ea:bj}{ach:List<|Nat×(Hp->Prop)}{chk:Fw}{ls u:List Nat}{pd:Nat->Nat}{k:cn->ah->Option β}{y:β}{i:Nat}(m:Rel c0): ∀(r:List LItem) {P P':List Nat} {it:LItem} {g:List LItem} {c:Ctx} {e:cn},CH r P i=O (P',it,g)->
  InvL ops c0 c e ea ach chk P ls u r pd->CW tab ops r chk e c.S k=O y->
  ∃c' e',c'.σ=c.σ/\InvL ops c0 c' e' ea ach chk P' ls u (it::g) pd/\CW tab ops (it::g) chk e' c'.S k=O y/\aB it.kind 2=Zb/\it.i=i/\∀q∈P',q∈P
 |[],P,P',it,g,c,e,h,_,_=>by cases h
 |a::r,P,P',it,g,c,e,h,j,t=>by
  simp only[CH]at h;cases b:aB a.kind 3 with
  |true=>
   rw[b,zC]at h;have⟨d,f⟩:=SL j b t;exact HE m r h d f
  |false=>
  rw[b,zD]at h;cases l:aB a.kind 2 with
  |false=>
   rw[l,zD]at h;cases o:aB a.i i with
   |false=>rw[o]at h;cases h
   |true=>
    rw[o,zC]at h;injection h with h
    injection h with d h
    injection h with f n
    subst d;subst f;subst n;exact⟨c,e,rfl,j,t,l,bB o,λq s=>s⟩
  |true=>
   rw[l,zC]at h;cases p:lB a.i P with
   |false=>rw[p]at h;cases h
   |true=>
    rw[p,zC]at h;have⟨H,I,d,f,n⟩:=VZ m j l (kW.1 p) t;have⟨w,z,A,B,C,D,E,F⟩:=HE m r h f n;exact⟨w,z,A.trans d,B,C,D,E,λq s=>((qm j.nod).1<|F q s).1⟩
theorem PP {β:Type}{c0:Ctx}{ea:bj}{ach:List<|Nat×(Hp->Prop)}{chk:Fw}{ls p:List Nat}{pd:Nat->Nat}{k:cn->ah->Option β}{y:β}(i:Rel c0): ∀(r:List LItem) {P:List Nat} {c:Ctx} {e:cn},Up r P=Za->
  InvL ops c0 c e ea ach chk P ls p r pd->CW tab ops r chk e c.S k=O y->mO c0 k y ea c.σ
 |[],P,c,e,h,d,g=>by
  have o:P=[]:=by
   cases P with
   |nil=>rfl
   |cons a r=>simp[Up]at h
  subst o
  have m:c.fb=c0.fb:=by
   funext b
   refine propext ((d.fb b).trans ⟨λh=> ?_, .inl⟩)
   grind
  refine⟨e,c,rfl, ?_,d.R,d.E,g⟩;have:=d.le;rw[<-m]at this;exact this
 |a::r,P,c,e,h,d,g=>by
  simp only[Up]at h;cases f:aB a.kind 3 with
  |true=>
   rw[f,zC]at h;have⟨j,l⟩:=SL d f g;exact PP i r h j l
  |false=>
  rw[f,zD]at h;simp only[aD]at h;have⟨q,s,j,l,n⟩:=VZ i d h.1.1 (kW.1 h.1.2) g;rw[<-j];exact PP i r h.2 l n
def J9 {β:Type}{c:Ctx}{ea:bj}{chk:Fw}{k:cn->ah->Option β}{y:β}{m:Nat}: ∀(r:List LItem) {e e':cn} {S:ah},LC ops r m=Za->ar c e ea->(∀t∈tP (be ops m).op,iZ e' t=iZ e t)->CW tab ops r chk e' S k=O y->∃x F,pO (be ops m).op=Za/\ph (be ops m).op ea x F
 |[],e,e',S,h,_,_,_=>by cases h
 |a::r,e,e',S,h,H,A,b=>by
  have p: ∀(V:VV),rW (be ops a.i).dst (tP (be ops m).op)=Za->∀t∈tP (be ops m).op,iZ (putO e' (be ops a.i).dst V) t=iZ e t:=by
   intro V n t T;rw[<-A t T];cases X:(be ops a.i).dst with
   |none=>rfl
   |some U=>
    show iZ (oA e' U _) t=_;rw[vN];by_cases E:t=U
    .subst E;rw[X]at n;simp only[rW]at n;rw[kW.2 T]at n;cases n
    .rw[zF E]
  have d: ∀{γ:Type} {P:Blk->Bool->Option γ} {z:γ},yr (be ops m).op e' P=O z->∃x F,pO (be ops m).op=Za/\ph (be ops m).op ea x F:=by
   intro γ P z b
   have M:yr (be ops m).op e P=O z:=by
    cases f:(be ops m).op<;>rw[f]at b A<;>simp only[yr]at b<;>first|(cases b;done)|skip
    case alloc es z=>exact b
    case makeSlice es bytes z l q=>
     have I:ev e' l=ev e l:=by
      cases l with
      |tmp t=>exact A t (by simp[tP,Sz])
      |_=>rfl
     have W:ev e' q=ev e q:=by
      cases q with
      |tmp t=>exact A t (by simp[tP,Sz])
      |_=>rfl
     rw[I,W]at b;exact b
    case buildSlice es ln z ps=>
     have I:AB e' ps=AB e ps:=by
      unfold AB;apply dD;rintro⟨o,s,x⟩ hx;simp only
      have:ev e' x=ev e x:=by
       cases x with
       |tmp t=>exact A t (aL.2 ⟨_,hx,by simp[Sz]⟩)
       |_=>rfl
      rw[this]
     rw[I]at b;exact b
   have⟨Y,u,w,x,F,_,B⟩:=Cj H M;exact⟨x,F,Y,B.run⟩
  simp only[LC]at h;cases j:aB a.kind 3 with
  |true=>
   rw[j,zC,cV]at h;simp only[CW,j,zC]at b;rcases h with h|h
   .rw[bB h]at b;exact d b
   .have g:CW tab ops r chk e' S k=O y:=by
     cases f:(be ops a.i).op<;>rw[f]at b<;>simp only[yr]at b<;>first|(cases b;done)|skip
     case alloc es z=>exact(am b).2
     case makeSlice es bytes z l q=>
      split at b
      .exact(am b).2
      .cases b
     case buildSlice es ln z ps=>
      split at b
      .exact(am b).2
      .cases b
    exact J9 r h H A g
  |false=>
  rw[j,zD]at h;simp only[cV,aD]at h;rcases h with⟨C,h⟩|⟨⟨⟨C,D⟩,n⟩,B⟩
  .simp only[CW,C,j,zC,zD]at b;by_cases Q:a.i=m
   .rw[Q]at b;exact d b
   .rcases h with h|⟨n,B⟩
    .exact(Q<|bB h).elim
    .have g: ∃u w,CW tab ops r chk (putO e' (be ops a.i).dst<|vvF w<|b8 S) (S++[u]) k=O y:=by
      cases f:(be ops a.i).op<;>rw[f]at b<;>simp only[yr]at b<;>first|(cases b;done)|skip
      case alloc es z=>exact⟨_,_,(am b).2⟩
      case makeSlice es bytes z l q=>
       split at b
       .exact⟨_,_,(am b).2⟩
       .cases b
      case buildSlice es ln z ps=>
       split at b
       .exact⟨_,_,(am b).2⟩
       .cases b
     have⟨u,w,N⟩:=g;exact J9 r B H (p _ n) N
  .have K:aB a.kind 2=Zb:=by rw[bB C];rfl
   have J:aB a.kind 1=Zb:=by rw[bB C];rfl
   have L:aB a.kind 5=Zb:=by rw[bB C];rfl
   simp only[CW,K,J,j,L,zD]at b;obtain⟨_,b⟩:=am b;cases f:(be ops a.i).op<;>rw[f]at D<;>first|(cases D;done)|skip
   case move x=>
    rw[f]at b;simp only[Ig,AOp.isLoad,zD]at b;obtain⟨_,b⟩:=am b;exact J9 r B H (p _ n) b
def Pv {F:Nat->Prop}: ∀{l:List Nat},(∀m∈l,F m)->KV F l
 |[],_=>trivial
 |[m],h=>h m V2
 |m::d::r,h=>⟨h m V2,Pv λq b=>h q<|cB _ b⟩
theorem P7 {D:List Nat}{i:Nat}(h:fG ops D=O i): ∃p,ops[i]?=O (be ops i,p)/\(be ops i).op.still=Za:=by
 unfold fG at h;have b:=List.find?_some h;simp only[aD]at b;have d:=b.2;unfold CG at d;unfold be
 grind
theorem LZ {D:List Nat}{m:Nat}(h:m∈br ops D): ∃p,ops[m]?=O (be ops m,p)/\(be ops m).op.still=Zb:=by
 unfold br at h;have⟨b,d⟩:=List.mem_filter.1 h;have b:=aH.1 b;simp only[aD]at d;have f:=d.2;unfold CG at f;unfold be
 grind
def Wv {b:Nat}{g:Bool}{P:List Nat}{r:List LItem}(h:tJ ops b g P r=Za){q:Nat}(i:q∈P):(∀t,(be ops b).dst=O t->(be ops q).dst≠O t)/\∀t,(be ops b).dst=O t->t∉tP (be ops q).op:=by
 simp only[tJ,aD]at h;have d:=aG.1 h.1 q i;rw[aD]at d;refine⟨λt f e=> ?_,λt f j=> ?_⟩
 .have:=d.1;rw[f,e]at this;simp only[Ws,cD]at this;cases this
 have:=d.2;rw[f]at this;simp only[rW]at this;rw[kW.2 j]at this;cases this
def aB2 {b:Nat}{d:Bool}{P:List Nat}{r:List LItem}(h:tJ ops b d P r=Za)(g:it∈r)(l:aB it.kind 2=Za)(j:d=Za->it.i≠b){t:Nat}(m:(be ops b).dst=O t):(be ops it.i).dst≠O t:=by
 simp only[tJ,aD]at h;have f:=aG.1 h.2 it g
 have k:(d&&aB it.i b)=Zb:=by
  cases d with
  |false=>rfl
  |true=>exact Bool.eq_false_iff.2 λe=>j rfl (bB e)
 rw[l,k]at f;intro e;rw[m,e]at f;simp only[cX,cW,Ws,cD]at f;cases f
def zO {d:Option Nat}{t:Nat}(h: ∀b,d=O b->t≠b):(ea.putO d v) t=ea t:=by
 cases d with
 |none=>rfl
 |some b=>exact zF<|h b rfl
def al1 {d:Option Nat}{v:VV}{t:Nat}(h: ∀b,d=O b->t≠b):iZ (putO e d v) t=iZ e t:=by
 cases d with
 |none=>rfl
 |some b=>
  show iZ (oA e b v) t=_;rw[vN,zF<|h b rfl]
def InvL.on {ach d:List<|Nat×(Hp->Prop)}{f:Fw}{P ls p X s:List Nat}{r:List LItem}{pd:Nat->Nat}{i:Nat}{L:VV}
  (g:InvL ops c0 c e ea ach chk P ls X (it::r) pd) (H:tJ ops i Zb P r=Za) (l:Le c c') (Q:Rel c') (U:VRel c' L v) (N:ChkRel c' d f) (C:d.map (·.1)=p) (D:pU s f=Za):
  InvL ops c0 c' (putO e (be ops i).dst L) (ea.putO (be ops i).dst v) d f P p s r pd:=by
 have o:=g.ds;simp only[FC,aD]at o;refine⟨?_,Q,(g.E.frame l).putO U,N,C,D,λb=>by rw[l.fb];exact g.fb b,g.nod,g.inj,g.new,λq F=> ?_,λj J K t m=> ?_,o.2⟩
 .have w:=g.le;have z:Le ⟨c.μ,c.S,c.σ,c0.fb⟩ ⟨c'.μ,c'.S,c'.σ,c0.fb⟩:=⟨l.len,l.al,l.fz,l.ln,l.un,l.ow,l.n,rfl⟩;exact w.trans z
 .obtain⟨I,x,Y,w,z,M⟩:=g.pend q F;have⟨V,W⟩:=Wv H F;refine⟨I,x,Y,w.same I λt m=>zO λu k e=>W u k<|e▸m,l.un _ _ z λT=> ?_,λt m=> ?_⟩
  .obtain⟨j,A,B⟩:=T;exact g.R.fbk j _ (mw A) B ((g.fb _).2<|.inr ⟨q,F,rfl⟩)
  .rw[zO λu k e=>V u k<|e▸m];exact M t m
 .rw[al1 λu k e=>aB2 H J K (λh=>by cases h) k<|e▸m];exact g.und j (cB _ J) K t m
theorem Ik {ach:List<|Nat×(Hp->Prop)}{P ls nd:List Nat}{r:List LItem}{pd:Nat->Nat}{m:Nat}{U:Nat->Value}
  (f:InvL ops c0 c e ea ach chk P ls nd r pd) (p:m∉P) (L:pO (be ops m).op=Za) (hF:ph (be ops m).op ea x U) (hd:tJ ops m Za P r=Za) (j:rW (be ops m).dst (tP (be ops m).op)=Za)
  (D:r.any (λit=>aB it.kind 2&&aB it.i m)=Za):
  InvL ops c0 ⟨c.μ,c.S,c.σ.add x,λb=>c.fb b∨b=c.σ.n⟩ e (ea.putO (be ops m).dst<|U c.σ.n) ach chk (m::P) ls nd r (λq=>if q=m then c.σ.n else pd q):=by
 let c':Ctx:=⟨c.μ,c.S,c.σ.add x,λb=>c.fb b∨b=c.σ.n⟩
 have g: ∀b y,c.σ.m b=O y->(c.σ.add x).m b=O y:=by
  intro b y o;have:=f.R.ok b y o;simp only[Hp.add];rw[Zh];exact o
 have hV:LeV c c':=by
  refine⟨dB _,λq d hq h=>⟨h,rfl⟩,λq d b y hq h hm o=>⟨y,g b y o,rfl⟩,λb y o W=>⟨g b y o,λhm=> ?_⟩⟩;rcases hm with hm|hm|hm
  .exact W (.inl hm)
  .exact W (.inr hm)
  .have:=f.R.ok b y o;omega
 have hR':Rel c':=by
  refine⟨λb y o=> ?_,f.R.inj,λq d h=> ?_,λq b h hm hf=> ?_,λb hb=> ?_⟩
  .simp only[c',Hp.add]at o⊢;split at o
   .omega
   .have:=f.R.ok b y o;omega
  .obtain⟨h6,k⟩:=f.R.blk q d h;refine⟨h6, ?_⟩;rcases k with k|⟨b',Y,C,w,k,h8,h9,h10,h11,h12⟩
   .exact .inl k
   .exact .inr ⟨b',Y,C,w,k,g _ _ h8,h9,h10,h11,VRel.framesV hV h12⟩
  .rcases hf with hf|hf
   .exact f.R.fbk q b h hm hf
   .subst hf;have H:(ae c.S q).dim≠Z:=h;cases F:(ae c.S q).dim with
    |none=>exact H F
    |some d=>
     have⟨_,k⟩:=f.R.blk q d F;have N:c.μ q=O c.σ.n:=hm;rcases k with⟨_,k⟩|⟨b',Y,C,w,k,h8,_⟩
     .rw[N]at k;cases k
     .rw[N]at k;cases k;have:=f.R.ok _ _ h8;omega
  .show b<c.σ.n+1;rcases hb with hb|hb
   .have:=f.R.fbl b hb;omega
   .omega
 have hK':=f.K.frameV f.R hV (λ_ _=>rfl) (λ_ _=>rfl) g;refine⟨?_,hR', ?_,hK',f.ks,f.nd,λb=> ?_,aJ.2 ⟨p,f.nod⟩,λq X hq Q B=> ?_,λq hq=> ?_,λq hq=> ?_,f.und,f.ds⟩
 .have l:=f.le;refine⟨l.len,l.al,l.fz,λq d b y hq h hm o=> ?_,λb y o W=>g _ _<|l.un b y o W,l.ow,dC l.n<|Nat.le_succ _,rfl⟩;have⟨Y,q1,q2⟩:=l.ln q d b y hq h hm o;exact⟨Y,g _ _ q1,q2⟩
 .have hE:=f.E.frameV hV;intro t;cases I:(be ops m).dst with
  |none=>exact hE t
  |some A=>
   show VRel c' (iZ e t) (if t=A then _ else ea t);by_cases T:t=A
   .subst T;rw[zE rfl];have⟨it,hit,s⟩:=List.any_eq_true.1 D;rw[aD]at s;have M:=bB s.2;subst M;rw[f.und it hit s.1 _ I];exact .undef _
   .rw[zF T];exact hE t
 .constructor
  .rintro(hb|hb)
   .rcases(f.fb b).1 hb with hb|⟨q,hq,hb⟩
    .exact .inl hb
    grind
   simp_all
  .rintro(hb|⟨q,hq,hb⟩)
   .exact .inl ((f.fb b).2<|.inl hb)
   .rcases aA.1 hq with rfl|hq
    .simp only[if_true]at hb;exact .inr hb.symm
    .have hb:(if q=m then c.σ.n else pd q)=b:=hb;rw[zF (λe:q=m=>p<|e▸hq)]at hb;exact .inl ((f.fb b).2<|.inr ⟨q,hq,hb⟩)
 .have hlt: ∀q∈P,pd q<c.σ.n:=λq hq=>f.R.fbl _ ((f.fb _).2<|.inr ⟨q,hq,rfl⟩)
  have B:(if q=m then c.σ.n else pd q)=if X=m then c.σ.n else pd X:=B
  rcases aA.1 hq with rfl|hq1
  .rcases aA.1 Q with rfl|hq2
   .rfl
   grind
  .rw[zF (λe:q=m=>p<|e▸hq1)]at B;rcases aA.1 Q with rfl|hq2
   .rw[zE rfl]at B;have:=hlt _ hq1;omega
   .rw[zF (λe:X=m=>p<|e▸hq2)]at B;exact f.inj q X hq1 hq2 B
 .show c0.σ.n<=(if q=m then c.σ.n else pd q);rcases aA.1 hq with rfl|hq
  .rw[zE rfl];exact f.le.n
  .rw[zF (λe:q=m=>p<|e▸hq)];exact f.new q hq
 .show pO (be ops q).op=Za/\∃x1 V,ph (be ops q).op (ea.putO (be ops m).dst<|U c.σ.n) x1 V/\c'.σ.m (if q=m then c.σ.n else pd q)=O x1/\∀t,(be ops q).dst=O t->ea.putO (be ops m).dst (U c.σ.n) t=V (if q=m then c.σ.n else pd q)
  rcases aA.1 hq with rfl|hq
  .rw[zE rfl];refine⟨L,x,U,hF.same L λt z=>zO λA u e=> ?_,zE rfl,λt z=> ?_⟩
   .subst e;rw[u]at j;simp only[rW]at j;rw[kW.2 z]at j;cases j
   .rw[z];exact zE rfl
  .rw[zF (λe:q=m=>p<|e▸hq)];have⟨J,x',vf',q1,q2,q3⟩:=f.pend q hq;have⟨k1,k2⟩:=Wv hd hq;refine⟨J,x',vf',q1.same J λt z=>zO λA u e=>k2 A u<|e▸z,g _ _ q2,λt z=> ?_⟩;rw[zO λA u e=>k1 A u<|e▸z];exact q3 t z
def vO (ops:List<|AOper×List Nat)(j:Nat)(ea:bj):Value:=match(be ops j).dst with
 |some t=>ea t
 |none=>undef
def FL (ops:List<|AOper×List Nat)(b:Nat)(x:Ab.Blk)(l:List Nat)(ea:bj):Prop:= ∀j∈l,∀d:Hp,d.m b=O x->(be ops j).op.run ea d=O (vO ops j ea,d)
def Vn (ops:List<|AOper×List Nat)(b:Nat)(x:Ab.Blk):List Nat->bj->Prop
 |[],_=>True
 |i::g,ea=> ∃v,(∀d:Hp,d.m b=O x->(be ops i).op.run ea d=O (v,d))/\Vn ops b x g (ea.putO (be ops i).dst v)
def NW {o:Option Nat}{i:Nat}(h:aw4 o i=Za):o=O i:=by
 cases o with
 |none=>cases h
 |some a=>rw[bB (h:aB a i=Za)]
theorem we {o:AOper}(h:o.guard.isNone=Za):wanted o ea=Za:=by
 unfold wanted
 grind
def IA {d:Option Nat}{l:List Nat}(h:rW d l=Za): ∀t,d=O t->t∉l:=by
 intro t f b;rw[f]at h;simp only[rW]at h;rw[kW.2 b]at h;cases h
def Wt {d b:Option Nat}(h:Ws d b=Za): ∀t,d=O t->b≠O t:=by
 intro t f e;rw[f,e]at h;simp only[Ws,cD]at h;cases h
def NZ {b:Nat}{l:List Nat}{d:Option Nat}(h:FL ops b x l ea)(o: ∀j∈l,rW d (be ops j).op.reads=Za)(p: ∀j∈l,Ws d (be ops j).dst=Za):FL ops b x l<|ea.putO d v:=by
 intro j g k s;have m:(be ops j).op.run (ea.putO d v) k=(be ops j).op.run ea k:=Bm λt r=>zO λi f e=>IA (o j g) i f (e▸r)
 have n:vO ops j (ea.putO d v)=vO ops j ea:=by
  unfold vO;cases q:(be ops j).dst with
  |none=>rfl
  |some t=>exact zO λi f e=>Wt (p j g) i f (e▸q)
 rw[m,n];exact h j g k s
theorem ac0 {β:Type}{n b:Nat}{x:Ab.Blk}{y:β}{z:Option β}{c1:Ctx}(U:c1.μ n=O b)(F:n<b8 c1.S)(T:c1.σ.m b=O x): ∀(g:List Nat) {c:Ctx} {e:cn} {ea:bj},Le c1 c->c.σ=c1.σ->Rel c->ar c e ea->evG tab ops n g e c.S z=O y->Vn ops b x g ea/\z=O y
 |[],_,_,_,_,_,_,_,h=>⟨trivial,h⟩
 |i::g,c,e,ea,E,V,C,r,h=>by
  simp only[evG]at h;have⟨B,L⟩:=am h;rw[aD]at B;have⟨k,f⟩:=B;have o:=tC C r L;rw[<-mU k]at o;cases l:(be ops i).op.run ea c.σ with
  |none=>rw[l]at o;exact o.elim
  |some q=>
   have⟨v,Y⟩:=q;rw[l]at o;have⟨vv,c2,w,A,I,g4,J,K⟩:=o;have u:Y=c.σ:=uH k l;rw[u]at w l;have⟨W,X⟩:=ac0 U F T g (E.trans A) (w.trans V) I ((r.frame A).putO J) K;refine⟨⟨v,λH hs=> ?_,W⟩,X⟩;cases j:(be ops i).op.isLoad with
   |false=>exact OR k j l H
   |true=>
    rw[j]at f;have D:=HY C r j l;cases t:W9 c.S (be ops i).op e with
    |none=>rw[t]at f;cases f
    |some s=>
     cases s with
     |none=>rw[t]at f;cases f
     |some q=>
      rw[t]at f D
      have Q:q=n:=by
       simp only[cX,cW,aI7]at f;exact bB f
      subst Q;have⟨N,_,P⟩:=D;refine P H λb' M=> ?_
      cases p:(ae c.S q).dim with
      |none=>exact(N p).elim
      |some d=>
       have⟨_,q2⟩:=E.al q d F p
       grind
theorem Rv {T:Ab.gw}{Q:bj->Hp->Prop}{ach:List<|Nat×(Hp->Prop)}{b m M:Nat}{x:Ab.Blk}{σ:Hp}(L:σ.m b=O x): ∀(g pre:List Nat) {f o:Nat} {D D2:List Nat} {ea:bj} {gl:List<|Nat×(Hp->Prop)},Xk ops g f D=O (o,D2)->Vn ops b x g ea->okG ops m M pre g=Za->FL ops b x pre ea->(∀p∈gl,∀σ':Hp,σ'.m b=O x->p.2 σ')->
  (∀d h,FL ops b x (g.reverse++pre) d->(∀p∈h,∀σ':Hp,σ'.m b=O x->p.2 σ')->(∀t,t∉tE ops g->d t=ea t)->CK T Q ops o D2 (h++ach) d σ)->CK T Q ops f D (gl++ach) ea σ
 |[],pre,f,o,D,D2,ea,gl,k,E,A,B,r,H=>by
  simp only[Xk]at k
  grind
 |i::g,pre,0,o,D,D2,ea,gl,k,E,A,B,r,H=>by cases k
 |i::g,pre,f+1,o,D,D2,ea,gl,k,E,A,B,r,H=>by
  simp only[Xk]at k;cases q:aw4 (fG ops D) i&&(be ops i).guard.isNone with
  |false=>rw[q]at k;cases k
  |true=>
   rw[q,zC]at k;rw[aD]at q;have u:=NW q.1;have⟨p,S,U⟩:=P7 u;have⟨v,K,F⟩:=E;simp only[okG,aD]at A;have⟨⟨⟨⟨⟨⟨⟨Y,o2⟩,o3⟩,o4⟩,o5⟩,o6⟩,o7⟩,o8⟩:=A;simp only[CK];rw[u];simp only[S,we q.2,if_true,K σ L];have⟨t0,n⟩:=aN.1 Y;have z:=aG.1 o6
   have C:FL ops b x (i::pre)<|ea.putO (be ops i).dst v:=by
    intro j hj;rcases aA.1 hj with rfl|hj
    .intro σ' hσ;have N:(be ops j).op.run (ea.putO (be ops j).dst v) σ'=(be ops j).op.run ea σ':=Bm λt w=>zO λt' I e=>IA (z j cZ) t' I (e▸w)
     have P:vO ops j (ea.putO (be ops j).dst v)=v:=by
      unfold vO;rw[n];exact zE rfl
     rw[N,P];exact K σ' hσ
    .exact NZ B (λj hj=>z j<|cB _ hj) (aG.1 o7) j hj
   have J: ∀l:List<|Nat×(Hp->Prop),(∀p∈l,∀σ':Hp,σ'.m b=O x->p.2 σ')->CK T Q ops f (i::D) (l++ach) (ea.putO (be ops i).dst v) σ:=by
    intro l s;refine Rv L g (i::pre) k F o8 C s λd h V W X=>H d h (by rw[List.reverse_cons,List.append_assoc];exact V) W λt w=> ?_
    simp only[tE,n,List.mem_append,List.mem_singleton,not_or]at w;rw[X t w.2,n];exact zF w.1
   grind
theorem Sd {β:Type}{b:Nat}{x:Ab.Blk}{k:cn->ah->Option β}{y:β}{ea:bj}: ∀(g:List Nat) {r p:List LItem} {c:Ctx} {e:cn} {chk:Fw},Sc g r=O p->FL ops b x g ea->c.σ.m b=O x->(∀j∈g,(be ops j).dst.isSome=Za)->Rel c->ar c e ea->CW tab ops r chk e c.S k=O y->
  ∃c' e' l,c'.σ=c.σ/\Le c c'/\Rel c'/\ar c' e' ea/\CW tab ops p l e' c'.S k=O y
 |[],r,p,c,e,chk,h,_,_,_,u,q,f=>by
  cases h;exact⟨c,e,chk,rfl,Le.refl c,u,q,f⟩
 |i::g,[],p,c,e,chk,h,_,_,_,_,_,_=>by cases h
 |i::g,it::r,p,c,e,chk,h,F,I,H,u,q,f=>by
  simp only[Sc]at h;cases o:aB it.kind 0&&aB it.i i with
  |false=>rw[o]at h;cases h
  |true=>
   rw[o,zC]at h;rw[aD]at o;have T:=bB o.2;subst T;have U:=bB o.1;simp only[CW,U,show aB 0 3=Zb from rfl,show aB 0 2=Zb from rfl,show aB 0 1=Zb from rfl,show aB 0 5=Zb from rfl,zD]at f;obtain⟨z,f⟩:=am f;have D:=tC u q f;rw[<-mU z,F it.i cZ c.σ I]at D;have⟨vv,J,B,C,M,g4,N,P⟩:=D;have⟨_,Q⟩:=am P
   have s:ar J (putO e (be ops it.i).dst vv) ea:=by
    have E:=(q.frame C).putO (d:=(be ops it.i).dst) N;have⟨t,V⟩:=aN.1 (H it.i cZ)
    have:ea.putO (be ops it.i).dst (vO ops it.i ea)=ea:=by
     funext A
     unfold vO;rw[V];show(if A=t then ea t else ea A)=ea A
     grind
    rw[this]at E;exact E
   have⟨K,L,n,W,X,Y,k4,k5⟩:=Sd g h (λj w=>F j<|cB _ w) (by rw[B];exact I) (λj w=>H j<|cB _ w) M s Q;exact⟨K,L,n,W.trans B,C.trans X,Y,k4,k5⟩
def SZ {β:Type}{k:cn->ah->Option β}{y:β}{c0:Ctx}: ∀(r:List LItem) {f:Nat} {D:List Nat} {c:Ctx} {e:cn} {ea:bj} {chk:Fw} {ach:List<|Nat×(Hp->Prop)},Xl ops r f D=Za->Le c0 c->Rel c->ar c e ea->CW tab ops r chk e c.S k=O y->CK (fQ tab) (mO c0 k y) ops f D ach ea c.σ
 |[],0,D,c,e,ea,chk,ach,h,m,j,g,d=>⟨e,c,rfl,m,j,g,d⟩
 |[],f+1,D,c,e,ea,chk,ach,h,m,j,g,d=>by
  simp only[Xl,aD]at h;simp only[CK];cases b:fG ops D with
  |some i=>rw[b]at h;cases h.1
  |none=>
   cases t:br ops D with
   |cons a l=>rw[t]at h;cases h.2
   |nil=>exact⟨e,c,rfl,m,j,g,d⟩
 |it::r,0,D,c,e,ea,chk,ach,h,m,j,g,d=>by cases h
 |it::r,f+1,D,c,e,ea,chk,ach,h,m,j,g,d=>by
  simp only[Xl,aD]at h;have⟨⟨⟨H,I⟩,J⟩,K⟩:=h;have b:=NW I;have⟨p,M,o⟩:=P7 b;have L:=bB H;simp only[CW,L,show aB 0 3=Zb from rfl,show aB 0 2=Zb from rfl,show aB 0 1=Zb from rfl,show aB 0 5=Zb from rfl,zD]at d;obtain⟨_,d⟩:=am d;have n:=tC j g d;rw[<-mU o]at n;simp only[CK];rw[b];simp only[M,we J,if_true];cases s:(be ops it.i).op.run ea c.σ with
  |none=>rw[s]at n;exact n.elim
  |some q=>
   have⟨v,N⟩:=q;rw[s]at n;have⟨T,P,A,w,B,Q,C,E⟩:=n;have⟨_,F⟩:=am E;have u:N=c.σ:=uH o s;have:=SZ r (ach:=if(be ops it.i).op.isLoad=Za then(it.i,λz=>(be ops it.i).op.run ea z=O (v,z))::ach else ach) K (m.trans w) B ((g.frame w).putO C) F;rw[A,u]at this;exact this
def EV {m c:Nat}: ∀{g pre:List Nat},okG ops m c pre g=Za->∀i∈g,(be ops i).dst.isSome=Za/\rW (be ops i).dst (tP (be ops m).op)=Za/\Ws (be ops i).dst (be ops m).dst=Za/\rW (be ops c).dst (be ops i).op.reads=Za/\Ws (be ops c).dst (be ops i).dst=Za
 |[],_,_,_,h=>by cases h
 |j::g,pre,b,i,h=>by
  simp only[okG,aD]at b;have⟨⟨⟨⟨⟨⟨⟨d,f⟩,k⟩,l⟩,n⟩,_⟩,_⟩,o⟩:=b;rcases aA.1 h with rfl|h
  .exact⟨d,f,k,l,n⟩
  .exact EV o i h
theorem Il {t:Nat}: ∀{g:List Nat},t∈tE ops g->∃i∈g,(be ops i).dst=O t
 |[],h=>by cases h
 |i::g,h=>by
  simp only[tE]at h;rcases aF.1 h with h|h
  .cases b:(be ops i).dst with
   |none=>rw[b]at h;cases h
   |some k=>
    grind
  .obtain⟨j,d,f⟩:=Il h
   grind
theorem XH {β:Type}{k:cn->ah->Option β}{y:β}{ach:List<|Nat×(Hp->Prop)}{ls nd D D1 g:List Nat}{d r:LItem}{r2 r3:List LItem}{pd:Nat->Nat}{f f1 m:Nat}{vf:Nat->Value}(h0:Rel c0)
  (F:d.kind=1) (w:r.kind=2) (u:r.i=m) (hfr:pO (be ops m).op=Za) (hF:ph (be ops m).op ea x vf) (H:rW (be ops m).dst (tP (be ops m).op)=Za) (hgc:(be ops d.i).guard.isNone=Za)
  (hls1:ls.all (λi=>tw ops i m||lB i nd)=Za) (hls2:ls.all (λi=>tw ops i d.i||lB i d.chks)=Za) (L:tJ ops d.i Zb [m] [r]=Za) (I:okG ops m d.i [] g=Za) (hS:Xk ops g f (m::D)=O (f1+1,D1)) (hns:fG ops D1=Z) (N:br ops D1=[d.i]) (hL:Sc g r2=O r3) (hZ:Xl ops r3 f1 (d.i::D1)=Za)
  (W:InvL ops c0 c e ea ach chk [] ls nd [d,r] pd) (hcl: ∀t∈tE ops g,iZ e t= .undef) (J:Vn ops c.σ.n x g<|ea.putO (be ops m).dst<|vf c.σ.n) (hz:CW tab ops (d::r::r2) chk e c.S k=O y):
  A6 ops m (c.σ.add x) ach/\CK (fQ tab) (mO c0 k y) ops f (m::D) ach (ea.putO (be ops m).dst<|vf c.σ.n) (c.σ.add x):=by
 have s:=Ik W V2 hfr hF (by simp[tJ,F,w,u,show aB 1 2=Zb from rfl,show aB 2 2=Za from rfl]) H (by simp[F,w,u,show aB 1 2=Zb from rfl,show aB 2 2=Za from rfl]);have hx:(c.σ.add x).m c.σ.n=O x:=zE rfl;refine⟨pP s.K W.nd λi B=> ?_,Rv (ach:=ach) (gl:=[]) hx g [] hS J I (λ_ h=>by cases h) (λ_ h=>by cases h) λA gl hf2 hgl o=> ?_⟩
 .rw[W.ks]at B
  grind
 .obtain⟨p,hp,hst⟩:=LZ (show d.i∈br ops D1 by rw[N];simp);simp only[CK];rw[hns];simp only[N,KV,hp,we hgc,if_true]
  have V:ar ⟨c.μ,c.S,c.σ.add x,λb=>c.fb b∨b=c.σ.n⟩ e A:=by
   intro t;by_cases z:t∈tE ops g
   .rw[hcl t z];exact .undef _
   .rw[o t z];exact s.E t
  have l:InvL ops c0 ⟨c.μ,c.S,c.σ.add x,λb=>c.fb b∨b=c.σ.n⟩ e A ach chk [m] ls nd [d,r] (λq=>if q=m then c.σ.n else pd q):=by
   refine⟨s.le,s.R,V,s.K,s.ks,s.nd,s.fb,s.nod,s.inj,s.new,λq hq=> ?_,s.und,s.ds⟩;have⟨q1,x',vf',q2,q3,q4⟩:=s.pend q hq;have M:=aI.1 hq;refine⟨q1,x',vf',q2.same q1 λt z=>o t λhm=> ?_,q3,λt z=>(o t λhm=> ?_).trans<|q4 t z⟩
   .obtain⟨i,B,hd⟩:=Il hm;rw[M]at z;exact IA (EV I i B).2.1 t hd z
   .obtain⟨i,B,hd⟩:=Il hm;rw[M]at z;exact Wt (EV I i B).2.2.1 t hd z
  simp only[CW,F,show aB 1 3=Zb from rfl,show aB 1 2=Zb from rfl,show aB 1 1=Za from rfl,zD,zC]at hz;refine kX (ba tab) (λv σ' hx'=> ?_)<|tC l.R l.E hz;have⟨vv,c4,g1,T,g3,g4,g5,g6⟩:=hx';have⟨U,g8⟩:=am g6;rw[aD]at U;have hn:=l.K.next T g4
  subst g1;have X:=l.on L T g3 g5 hn l.ks U.2
  have P:c4.σ.m c.σ.n=O x:=by
   refine T.un _ _ hx λho=> ?_
   have⟨j,hj1,hj2⟩:=ho;exact l.R.fbk j _ (mw hj1) hj2 (.inr rfl)
  refine⟨Ab.pP λi p hip Y=> ?_, ?_⟩
  .rcases aF.1 hip with h|h
   .exact hgl _ h _ P
   .refine Ab.ER (pP hn U.1 λi B=> ?_) i p h Y;rw[l.ks]at B
    grind
  .simp only[CW,w,show aB 2 3=Zb from rfl,show aB 2 2=Za from rfl,zD,zC]at g8;have⟨c5,e5,l1,Q,l3,_⟩:=LP (K:=λe' S'=>CW tab ops r2 _ e' S' k) h0 X (by rw[w];rfl) (by rw[u];simp) g8;have hP:AS r.i [m]=[]:=by rw[u];simp[AS]
   rw[hP]at Q
   have hfb:c5.fb=c0.fb:=by
    funext b
    refine propext ((Q.fb b).trans ⟨λh=> ?_, .inl⟩)
    simp_all
   have hle:Le c0 c5:=by
    have:=Q.le;rw[<-hfb]at this;exact this
   have hf4:FL ops c.σ.n x g<|A.putO (be ops d.i).dst v:=by
    refine NZ (λj C=>hf2 j (by simp[C])) (λj C=>(EV I j C).2.2.2.1) λj C=>(EV I j C).2.2.2.2
   have⟨c6,e6,chk6,k1,k2,k3,k4,k5⟩:=Sd g hL hf4 (by rw[l1];exact P) (λj C=>(EV I j C).1) Q.R Q.E l3;have:=SZ r3 (ach:=gl++ach) hZ (hle.trans k2) k3 k4 k5;rw[k1,l1]at this;exact this
theorem Lt {β:Type}{c0:Ctx}{k:cn->ah->Option β}{y:β}(U:Rel c0): ∀(f:Nat) {D P ls nd:List Nat} {r:List LItem} {c:Ctx} {e:cn} {ea:bj} {ach:List<|Nat×(Hp->Prop)} {chk:Fw} {pd:Nat->Nat},Nh ops f D P ls nd r=Za->InvL ops c0 c e ea ach chk P ls nd r pd->CW tab ops r chk e c.S k=O y->
  CK (fQ tab) (mO c0 k y) ops f D ach ea c.σ
 |0,D,P,ls,nd,r,c,e,ea,ach,chk,pd,h,s,T=>PP U r h s T
 |f+1,D,P,ls,nd,r,c,e,ea,ach,chk,pd,h,s,T=>by
  simp only[Nh]at h;simp only[CK];cases hns:fG ops D with
  |some i=>
   rw[hns]at h;simp only[aD]at h⊢;obtain⟨hg,h⟩:=h;have⟨p,ho,J⟩:=P7 hns;rw[ho]
   have hw:wanted (be ops i) ea=Za:=by
    unfold wanted
    grind
   simp only[hw,if_true];cases hs:CH r P i with
   |none=>rw[hs]at h;cases h
   |some q=>
    have⟨P',it,r'⟩:=q;rw[hs]at h;simp only[aD]at h;have⟨⟨hk0,hd⟩,hc⟩:=h;have⟨c1,e1,A,B,h3,h4,h5,h6⟩:=HE U r hs s T;subst h5;have u:aB it.kind 1=Zb:=by rw[bB hk0];rfl
    have hk3:aB it.kind 3=Zb:=by rw[bB hk0];rfl
    have hk5:aB it.kind 5=Zb:=by rw[bB hk0];rfl
    simp only[CW,h4,u,hk3,hk5,zD]at h3;obtain⟨_,h3⟩:=am h3;have h7:=tC B.R B.E h3;rw[<-mU J,A]at h7;cases hr:(be ops it.i).op.run ea c.σ with
    |none=>rw[hr]at h7;exact h7.elim
    |some q=>
     have⟨v,σ1⟩:=q;rw[hr]at h7;have⟨vv,c2,g1,W,g3,g4,g5,g6⟩:=h7;simp only
     have hdd:CT tab (be ops it.i).op e1 c1.S=[]:=by
      cases hop:(be ops it.i).op<;>rw[hop]at J<;>first|(cases J;done)|rfl
     have hσ1:σ1=c.σ:=uH J hr;have⟨L,g8⟩:=am g6;have hn:=B.K.next W g4
     rw[hdd,yJ]at hn
     have Q: ∀{C:List<|Nat×(Hp->Prop)} {F:Fw} {ls':List Nat},ChkRel c2 C F->C.map (·.1)=ls'->pU it.need F=Za->CW tab ops r' F (putO e1 (be ops it.i).dst vv) c2.S k=O y->Nh ops f (it.i::D) P' ls' it.need r'=Za->
       CK (fQ tab) (mO c0 k y) ops f (it.i::D) C (ea.putO (be ops it.i).dst v) c.σ:=by
      intro C F ls' q1 q2 q3 q4 q5;have:=Lt U f q5 (B.on hd W g3 g5 q1 q2 q3) q4;rw[g1,hσ1]at this;exact this
     cases hld:(be ops it.i).op.isLoad with
     |false=>
      rw[hld]at L g8 hc;rw[zF V5];exact Q hn B.ks L g8 hc
     |true=>
      rw[hld]at L g8 hc;rw[zE rfl];have hkp:=HY B.R B.E hld (by rw[A];exact hr);have hn2:=(ChkRel.cons (i:=it.i) (f:=λ_=>Zb) hkp (λ_ _ _ h=>by cases h) B.K).next W g4
      rw[hdd,yJ]at hn2;exact Q hn2 (by rw[List.map_cons,B.ks];rfl) L g8 hc
  |none=>
   rw[hns]at h;simp only at h⊢;cases hgp:aJ2 r with
   |true=>
    rw[hgp,zC,aD]at h;have⟨X,hB⟩:=h
    obtain⟨it,w,g,r2,rfl⟩: ∃it w g r2,r=it::w::g::r2:=by
     match r,X with
     |it::w::g::r2,_=>exact⟨it,w,g,r2,rfl⟩
     |[],X=>cases X
     |[_],X=>cases X
     |[_,_],X=>cases X
    simp only[Y9,aD]at X;have⟨⟨⟨⟨⟨⟨⟨⟨⟨⟨⟨⟨⟨⟨⟨a1,a2⟩,a3⟩,a4⟩,a5⟩,a6⟩,a7⟩,a8⟩,a9⟩,a10⟩,a11⟩,a12⟩,a13⟩,M⟩,a15⟩,V⟩:=X
    have hP:P=[]:=by
     grind
    subst hP;have hk5:it.kind=5:=bB hgp;have u:=bB a2;have Y:=bB a3;have N:=bB a4;simp only[CW,hk5,show aB 5 3=Zb from rfl,show aB 5 2=Zb from rfl,show aB 5 1=Zb from rfl,show aB 5 5=Za from rfl,zD,zC]at T;have hds:=s.ds;simp only[FC,aD]at hds
    have d:InvL ops c0 c (mv e<|tE ops it.chks) ea ach chk [] ls nd (w::g::r2) pd:=by
     refine⟨s.le,s.R,λt=> ?_,s.K,s.ks,s.nd,s.fb,s.nod,s.inj,s.new,s.pend,λj hj hk t ht=> ?_,by simp only[FC,aD];exact hds.2⟩
     .rcases @uv (tE ops it.chks) e t with A|⟨_,A⟩
      .rw[A];exact .undef _
      .rw[A];exact s.E t
     .rcases @uv (tE ops it.chks) e t with A|⟨_,A⟩
      .exact A
      .rw[A];exact s.und j (cB _ hj) hk t ht
    have hI2:InvL ops c0 c (mv e<|tE ops it.chks) ea ach chk [] ls nd [w,g] pd:=by
     refine⟨d.le,d.R,d.E,d.K,d.ks,d.nd,d.fb,d.nod,d.inj,d.new,d.pend,λj hj hk t ht=>d.und j (by simp only[cY,List.not_mem_nil,or_false]at hj⊢;rcases hj with h|h<;>simp[h]) hk t ht,by simp[FC,u,show aB 1 2=Zb from rfl]⟩
    have hcl: ∀t∈tE ops it.chks,iZ (mv e<|tE ops it.chks) t= .undef:=by
     intro t ht;rcases @uv (tE ops it.chks) e t with A|⟨A,_⟩
     .exact A
     .exact(A ht).elim
    have⟨_,_,_,x,vf,_,hFF⟩:=Cj d.E T;have hF:=hFF.run;have H:=Ik hI2 V2 a5 hF (by simp[tJ,u,Y,N,show aB 1 2=Zb from rfl,show aB 2 2=Za from rfl]) a9 (by simp[u,Y,N,show aB 1 2=Zb from rfl,show aB 2 2=Za from rfl]);rw[<-N]at T H
    have hN3:InvL ops c0 ⟨c.μ,c.S,c.σ.add x,λb=>c.fb b∨b=c.σ.n⟩ (mv e<|tE ops it.chks) (ea.putO (be ops g.i).dst<|vf c.σ.n) ach chk [g.i] ls nd [g] (λq=>if q=g.i then c.σ.n else pd q):=
     ⟨H.le,H.R,H.E,H.K,H.ks,H.nd,H.fb,H.nod,H.inj,H.new,H.pend,λj hj hk t ht=>H.und j (cB _ hj) hk t ht,by simp[FC]⟩
    have⟨c3,e3,l1,l2,l3,l4,l5,_⟩:=LP (K:=λe2 S2=>evG tab ops (b8 c.S) it.chks e2 S2<|CW tab ops (w::g::r2) chk (mv e<|tE ops it.chks) c.S k) U hN3 (by rw[Y];rfl) V2 T;have⟨hGrp,hz⟩:=ac0 (b:=c.σ.n) (x:=x) (by rw[l4];simp) l5 (by rw[l1];exact zE rfl) it.chks (Le.refl c3) rfl l2.R l2.E l3;rw[N]at hGrp
    have hdst:tJ ops w.i Zb [it.i] [g]=Za:=by
     simp only[tJ,aD,List.all_cons]at M⊢;exact⟨M.1,M.2.1,rfl⟩
    cases I:br ops D with
    |nil=>rw[I]at a10;cases a10
    |cons a l=>
     refine Pv λm hm=> ?_
     have hmem:m∈br ops D:=by rw[I];exact hm
     have⟨p,ho,J⟩:=LZ hmem;have hor:=aG.1 a11 m hmem;rw[cV]at hor;rw[ho];rcases hor with hor|hor
     .have:=bB hor;subst this;simp only[we a7,if_true];split at V
      .rename_i f1 D1 r3 hS hL;simp only[aD]at V;have⟨⟨b1,b2⟩,b3⟩:=V
       have hns1:fG ops D1=Z:=by
        cases h:fG ops D1 with
        |none=>rfl
        |some i=>rw[h]at b1;cases b1
       have hrm1:br ops D1=[w.i]:=by
        split at b2
        .rename_i x hx;rw[hx,bB b2]
        .cases b2
       exact cm (hF c.σ) (XH U u Y N a5 hF a9 a8 a12 a13 hdst a15 hS hns1 hrm1 hL b3 hI2 hcl hGrp hz)
      .cases V
     .have:=bB hor;subst this;simp only[we a8,if_true];simp only[CW,u,show aB 1 3=Zb from rfl,show aB 1 2=Zb from rfl,show aB 1 1=Za from rfl,zD,zC]at hz;refine kX (ba tab) (λv σ' hx'=> ?_)<|tC d.R d.E hz;have⟨vv,c2,g1,W,g3,g4,g5,g6⟩:=hx';have⟨L,g8⟩:=am g6;rw[aD]at L;have hn:=d.K.next W g4
      subst g1
      have hd0:tJ ops w.i Zb [] (g::r2)=Za:=by
       simp only[tJ,aD]at M⊢;exact⟨rfl,M.2⟩
      refine⟨pP hn L.1 λi hi=> ?_,Lt U f hB (d.on hd0 W g3 g5 hn d.ks L.2) g8⟩;rw[d.ks]at hi;have:=aG.1 a13 i hi
      grind
   |false=>
   rw[hgp,zD]at h
   have each: ∀{ms:List Nat},(∀m∈ms,m∈br ops D)->(ms.all λm=>(be ops m).guard.isNone&&cond (pO (be ops m).op)
    (!lB m P&&r.any (λit=>aB it.kind 2&&aB it.i m)&&(LH (be ops m).op||LC ops r m)&&tJ ops m Za P r&&rW (be ops m).dst (tP (be ops m).op)&&ls.all (λi=>tw ops i m||lB i nd)&&Nh ops f (m::D) (m::P) ls nd r)
    (match CH r P m with
    |some (P',it,r')=>aB it.kind 1&&tJ ops m Zb P' r'&&ls.all (λi=>tw ops i m||lB i it.chks)&&Nh ops f (m::D) P' ls it.need r'
    |none=>Zb))=Za->KV (λm=>match ops[m]? with
     |some (o,_)=>if wanted o ea then bp (fQ tab) o.op ea c.σ λv σ'=>A6 ops m σ' ach/\CK (fQ tab) (mO c0 k y) ops f (m::D) ach (ea.putO o.dst v) σ'
      else CK (fQ tab) (mO c0 k y) ops f (m::D) ach (ea.putO o.dst undef) c.σ
     |none=>False) ms:=by
    intro ms hms hall;refine Pv λm hm=> ?_
    have h:=aG.1 hall m hm;simp only[aD]at h;obtain⟨hg,h⟩:=h;have⟨p,ho,J⟩:=LZ<|hms m hm;rw[ho]
    have hw:wanted (be ops m) ea=Za:=by
     unfold wanted
     grind
    simp only[hw,if_true];cases hfr:pO (be ops m).op with
    |false=>
     rw[hfr,zD]at h;cases hs:CH r P m with
     |none=>rw[hs]at h;cases h
     |some q=>
      have⟨P',it,r'⟩:=q;rw[hs]at h;simp only[aD]at h;have⟨⟨⟨u,hd⟩,hls⟩,hc⟩:=h;have⟨c1,e1,A,B,h3,h4,h5,h6⟩:=HE U r hs s T;subst h5;have hk3:aB it.kind 3=Zb:=by rw[bB u];rfl
      simp only[CW,h4,u,hk3,zD,zC]at h3;have h7:=tC B.R B.E h3;rw[A]at h7;refine kX (ba tab) (λv σ' hx=> ?_) h7;have⟨vv,c2,g1,W,g3,g4,g5,g6⟩:=hx;have⟨L,g8⟩:=am g6;rw[aD]at L;have hn:=B.K.next W g4
      subst g1;refine⟨pP hn L.1 λi hi=> ?_,Lt U f hc (B.on hd W g3 g5 hn B.ks L.2) g8⟩;rw[B.ks]at hi
      simp_all
    |true=>
     rw[hfr,zC]at h;simp only[aD]at h;have⟨⟨⟨⟨⟨⟨hnm,hany⟩,hor⟩,hd⟩,hself⟩,hls⟩,hc⟩:=h;have hmP:m∉P:=λe=>by rw[kW.2 e]at hnm;cases hnm
     obtain⟨x,vf,hF⟩: ∃x vf,ph (be ops m).op ea x vf:=by
      rw[cV]at hor;rcases hor with hor|hor
      .cases hop:(be ops m).op<;>rw[hop]at hor<;>first|(cases hor;done)|skip
       case alloc es z=>exact⟨⟨z,Za,es⟩,λn=> .pointer<|O ⟨n,0,Z⟩,λσ=>rfl⟩
      .obtain⟨x,vf,_,A⟩:=J9 r hor s.E (λt _=>rfl) T;exact⟨x,vf,A⟩
     have d:=Ik s hmP hfr hF hd hself hany;refine cm (hF c.σ) ⟨pP d.K s.nd λi hi=> ?_, ?_⟩
     .rw[s.ks]at hi
      grind
     .exact Lt U f hc d T
   cases I:br ops D with
   |nil=>rw[I]at h;exact PP U r h s T
   |cons a l=>
    rw[I]at h;exact each (λm hm=>by rw[I];exact hm) h
end
end
end Go.V
