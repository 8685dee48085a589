/- A part of the proof. No condition. -/
import Derived.Test.YtekbakifagogaaaGreatDoorL6
import Derived.KernelRfl
set_option linter.unusedVariables false
set_option linter.unusedSimpArgs false
set_option linter.unusedSectionVars false
namespace Go.V
open Go.Ab
open Option renaming some->O,none->Y
open Bool renaming true->Za,false->Zb
open Decidable renaming decide->Zc
variable {cs w:Zd}{bs:List Bool}{s:Dy}{en:Bool}{f i l:Nat}{es:List Ev}
set_option maxRecDepth 100000
section
open Go.IntKind renaming wrap -> zH, i64 -> zI, u64 -> zJ
open List renaming length_drop -> aB
theorem Yv {h:Hd}(e:OpsOk h.l)(g:OpsOk h.k)(a:h.pl=0):0<=h.n/\h.n<=65535:=by
 have d:rb h.m h.x.length h.t.length h.R h.l h.Q h.k h.n h.b=0:=by
  unfold Hd.pl fi at a;split at a
  .exact a
  .rename_i c;exact Decidable.not_not.1 c
 exact(Ce e g d).len
theorem S6 (Z:jx w)(hl:w.length<=1500):xe w=O (match CT w with
  | .inl e=>(0,[],[],0,0,0,0,[],0,e,[],[])
  | .inr (h,c,b)=>(h.m,h.x,h.t,h.R,h.Q,h.n,h.b,c,if h.m≠2 then h.n else(b.length:Int),0,h.l,h.k)):=by
 unfold xe CT Sx;by_cases h5:w.length<5
 .rw[Zf,zC,zE h5]
 rw[Ze,zD,zF h5,Zk,bz];have H:lC w 5 (w.length:Int)=w.drop 5:=vN (n:=5);rw[H];have J:jx (w.drop 5):=Z.drop 5;have hs:=G9 (K:=5) (by omega) J (by rw[aB];omega);refine cl hs ?_;cases e:S 5 (w.drop 5) []with
 |none=>rfl
 |some p=>
  obtain⟨l,M⟩:=p;obtain⟨e1,e2,e3⟩:=Oe J e;rw[aB]at e3;show cond (Zc ((0:Int)≠0)) _ _=_;rw[zA (by simp),zD];have C:rd w 0=O (w.getD 0 0):=qk (l:=w) (i:=0) (by omega)
  have tail: ∀(b:List Bool),b.length<=100000->(w.getD 0 0≠2->b=[])->bc (Sum.inr (α:=Unit) ((b.takeWhile id).length:Int)) (λu'12=>
    O ((0,[],[],0,0,0,0,[],0,4,[],[])))
    (λw13=>
    (pq w).bind λ⟨d,o,u,v,y,g,z,r14_7,A,B,j⟩=>
    cond (Zc (A≠0))
     (O ((0,[],[],0,0,0,0,[],0,A,[],[])))
     ((qc d o u v B y j g z).bind λL=>
     cond (Zc (L.2.2.2.2≠0))
     (O ((0,[],[],0,0,0,0,[],0,L.2.2.2.2,[],[])))
     ((((cond (Zc (d≠2))
      (O g)
      (O w13)):Option (Int))).bind λN=>
     cond (Zc (65535<N))
      (O ((0,[],[],0,0,0,0,[],0,14,[],[])))
      ((ix 4 (l.length)).bind λj17=>
      (l[j17]?).bind λx18=>
      O ((d,o,u,v,y,g,z,x18,N,0,B,j))))))=O (match(match O (l.getD 4 [],b)with
     |none=>(.inl 4:Int⊕(Hd×Zd×List Bool))
     |some (c,b)=>match D4 w with
      | .inl e=> .inl e
      | .inr (h,_)=>if h.pl≠0 then .inl h.pl else if h.m=2/\65536<=(b.takeWhile id).length then .inl 14 else .inr (h,c,b.takeWhile id))with
    | .inl e=>(0,[],[],0,0,0,0,[],0,e,[],[])
    | .inr (h,c,b)=>(h.m,h.x,h.t,h.R,h.Q,h.n,h.b,c,if h.m≠2 then h.n else(b.length:Int),0,h.l,h.k)):=by
   intro b hb hb2;rw[cb];refine cl (Pd Z (by omega)) ?_;cases V:D4 w with
   |inl er=>
    show cond (Zc (er≠0)) _ _=_;rw[zB (KH V),zC]
   |inr q=>
    obtain⟨h,r⟩:=q;obtain⟨o4,o6,g4,g6⟩:=JG Z hl V;obtain⟨hm,hc⟩:=Xt V;show cond (Zc ((0:Int)≠0)) _ ((qc h.m h.x h.t h.R h.l h.Q h.k h.n h.b).bind _)=_;rw[zA (by simp),zD];refine cl (SZ o4 o6 g4 g6) ?_;show cond (Zc (h.pl≠0)) _ _=_;simp only;by_cases I:h.pl≠0
    .rw[zB I,zC,zE I];rfl
    have hn:=Yv o4 o6 (Decidable.not_not.1 I);rw[zA I,zD,zF I];have hle:=JL b;refine cl (a:=if h.m≠2 then h.n else((b.takeWhile id).length:Int)) ?_ ?_
    .show cond (Zc (h.m≠2)) (O h.n) (O ((b.takeWhile id).length:Int))=_;by_cases k:h.m≠2
     .rw[zB k,zC,zE k]
     .rw[zA k,zD,zF k]
    have F: ∃T:4<l.length,l[4]=l.getD 4 []:=⟨by omega,by simp[List.getD,show 4<l.length by omega]⟩
    obtain⟨T,F⟩:=F;have X:ix 4 l.length=O 4:=bp (k:=4) (by omega);have W:l[4]?=O (l.getD 4 []):=by rw[List.getElem?_eq_getElem T,F]
    by_cases k:h.m=2/\65536<=(b.takeWhile id).length
    .rw[zE k,zF (λc=>c k.1),Zf,zC]
    .rw[zF k,zA (by split<;>omega),zD];refine cl X ?_;exact cl W rfl
  by_cases D:w.getD 0 0=2
  .simp only[zE D];cases M with
   |nil=>
    refine cl (a:= .inl ()) ?_ ?_
    .refine cl C ?_;rw[zB D,zC];rfl
    .rfl
   |cons n b=>
    have hlb:b.length+1<=1500:=by simp at e3;omega
    have hn:=e2 n (by simp)
    have hw:zH zJ (zH zI (64*(zH zI ((((b.length+1:Nat):Int))-1))))=64*(b.length:Int):=by
     rw[show(((b.length+1:Nat):Int))-1=(b.length:Int)by omega,ad (n:=(b.length:Int)) (by omega),ad (n:=64*(b.length:Int)) (by omega)];exact cd (by omega)
    have E:rd (n::b) 0=O n:=cn (l:=n::b) (i:=0) (by simp);by_cases c:64*(b.length:Int)<n
    .refine cl (a:= .inl ()) ?_ ?_
     .refine cl C ?_;rw[zB D,zC];show cond (Zc (((b.length+1:Nat):Int)=0)) _ ((rd (n::b) 0).bind _)=_;rw[Ze,zD];refine cl E ?_;show cond (Zc (zH zJ (zH zI (64*(zH zI ((((b.length+1:Nat):Int))-1))))<n)) _ _=_;rw[hw,zB c,zC]
     .simp only[zE c];rfl
    .refine cl (a:= .inr (((tI b n.toNat).takeWhile id).length:Int)) ?_ ?_
     .refine cl C ?_;rw[zB D,zC];show cond (Zc (((b.length+1:Nat):Int)=0)) _ ((rd (n::b) 0).bind _)=_;rw[Ze,zD];refine cl E ?_;show cond (Zc (zH zJ (zH zI (64*(zH zI ((((b.length+1:Nat):Int))-1))))<n)) _ ((rd (n::b) 0).bind _)=_;rw[hw,zA c,zD];refine cl E ?_;show gd (ej 1 ((b.length+1:Nat):Int) (b.length+1)) ((sY (zH zI n) (lC (n::b) 1 ((b.length+1:Nat):Int))).bind _)=_;rw[Zk,bz,ad (n:=n) (by omega)]
      have hb:sY n (lC (n::b) 1 ((b.length+1:Nat):Int))=O (0,tI b n.toNat):=by
       have ht:lC (n::b) 1 ((b.length+1:Nat):Int)=b:=vN (w:=n::b) (n:=1);rw[ht];unfold sY;rw[Ze,zD,ad (n:=64*(b.length:Int)) (by omega),Ze,zD];have hk:=az0 (w:=b) (λx T=>e2 x (by simp[T])) (n:=n.toNat) (by omega) (by omega);rw[show((n.toNat:Nat):Int)=n by omega]at hk;exact cl hk rfl
      refine cl hb ?_;exact cl (Wo 0 (by rw[A0];omega)) rfl
     .simp only[zF c];exact tail (tI b n.toNat) (by rw[A0];omega) (λk=>(k D).elim)
  .simp only[zF D];refine cl (a:= .inr (((([]:List Bool)).takeWhile id).length:Int)) ?_ ?_
   .refine cl C ?_;rw[zA D,zD];rfl
   .exact tail [] (by simp) (λ_=>rfl)
end
section
open Bool renaming and_false -> bD, not_true -> cB
open List renaming length_append -> aD, length_singleton -> bB, length_cons -> cD, length_nil -> cK, nil_append -> cL
open Nat renaming zero_add -> aB
open Option renaming isNone -> cM
theorem xO {α γ:Type}{c:Cx}(h:c.Ok){f:α->Option (α⊕γ)}{st:Nat->Nat->Bool->Dy->List (Int×Int)->α}
  (B: ∀(i o:Nat) (en:Bool) (s:Dy) (j:List (Int×Int)) (a:Int×Int),i<20000->j.length<=100000->co c i s->QE c en s->qI c en s=O a->vC c a s->f (st i o en s j)=O (.inl (st (i+1) o en (sj c a s) (j++[a]))))
  (C: ∀(i o:Nat) (s:Dy) (j:List (Int×Int)),i<20000->co c i s->c.mode=2->qI c Zb s=Y->s.q= -1->s.L<65535->o<l->f (st i o Zb s j)=O (.inl (st (i+1) (o+1) Zb (Fq s) j)))
  (D: ∀(i o:Nat) (s:Dy) (j:List (Int×Int)),i<20000->co c i s->c.mode=2->qI c Zb s=Y->s.q= -1->o=l->f (st i o Zb s j)=O (.inl (st (i+1) (o+1) Za s j)))
  {o:Nat}    {u:Nat} {p:Bool} {t:Dy} (H:Way c l o en s es u p t): ∀(i:Nat) (j:List (Int×Int)),co c i s->QE c en s->i+es.length<=20000->j.length+es.length<=100000->
   Reach f es.length (st i o en s j) (st (i+es.length) u p t (j++nW es))/\QE c p t:=by
 induction H with
 |nil=>
  intro i j w q _ _;refine⟨?_,q⟩;rw[show nW []=([]:List (Int×Int))from rfl,List.append_nil];exact Reach.refl
 | @act o en s a es u p t e m _ y=>
  intro i j w q v x;rw[cD]at v x;obtain⟨r,z⟩:=y (i+1) (j++[a]) (lh h w e m) (F6 h w q e m) (by omega) (by rw[aD,bB];omega);refine⟨?_,z⟩;have:=(Reach.one (B i o en s j a (by omega) (by omega) w q e m)).trans r;rw[List.append_assoc]at this;rw[cD,show es.length+1=1+es.length by omega,show i+(1+es.length)=i+1+es.length by omega];exact this
 | @more o s es u p t a b d e g _ y=>
  intro i j w q v x;rw[cD]at v x;obtain⟨r,z⟩:=y (i+1) j (Gf h w a d e) ⟨q.1,λA _=>by have A:0<=s.q:=A;omega⟩ (by omega) (by omega);refine⟨?_,z⟩;have:=(Reach.one (C i o s j (by omega) w a b d e g)).trans r;rw[cD,show es.length+1=1+es.length by omega,show i+(1+es.length)=i+1+es.length by omega];exact this
 | @stop o s es u p t a b d e _ y=>
  intro i j w q v x;rw[cD]at v x;obtain⟨r,z⟩:=y (i+1) j (RG h (Nat.le_succ i) w) ⟨λk=>(k a).elim,λ_ _=>rfl⟩ (by omega) (by omega);refine⟨?_,z⟩;have:=(Reach.one (D i o s j (by omega) w a b d e)).trans r;rw[cD,show es.length+1=1+es.length by omega,show i+(1+es.length)=i+1+es.length by omega];exact this
section
variable {c:Cx} (h:c.Ok)
include h
theorem CA (w:co c i s):Wd c s.W/\s.W.length<=1048576:=by
 have a:Wd c s.W:=by
  unfold co at w;split at w
  .exact w.inv.w
  .exact w.inv.w
 exact⟨a,(a.tk h).2⟩
theorem as7 (a:c.mode=3)(e:fi c.mode c.X.length c.T.length c.R c.l c.Q c.k c.len c.words=(c.fixed,c.tp,c.sl,c.ns,0)):iY c.mode c.X c.T c.R c.l c.Q c.k c.len c.words=O (.inr (.inl (c.mode,Zb,Zb,c.fixed,c.tp,c.sl,c.ns,c.mode,c.R,c.Q,c.len,c.words,c.len,c.X,c.T,c.l,c.k,c.P,c.tk,c.fixed,c.fixed,c.words,(new1 c).W))):=by
 unfold iY;refine cl (aS7 h a e) ?_
 refine cl (show lI _ _ _ _ _ _ _ _ _ _ _ _ _ _ _ _ _ _ _ _ _ _ _ _ _ _ _ _ _ _ _ _ _ _ _ _=O (c.mode,Zb,Zb)from by
  unfold lI;rw[show ix c.mode 4=O 3 from by rw[a];rfl]
  rfl) ?_
 rfl
theorem OC (e:c.mode=3)(e0:fi c.mode c.X.length c.T.length c.R c.l c.Q c.k c.len c.words=(c.fixed,c.tp,c.sl,c.ns,0))(m:cs.length<=1000000)(bs:List Bool)(n:Int)(hi:i<=1000000)(w:co c i s)(q:QE c en s):
  fG c.mode c.X c.T c.R c.l c.Q c.k c.len c.words cs bs n c.mode en Zb c.fixed c.tp c.sl c.ns c.mode c.R c.Q c.len c.words s.L s.p s.q s.c0 s.c1 s.c2 s.c3 s.z c.X c.T c.l c.k c.P c.tk s.lv s.pk c.words s.W=O (c.mode,en,Zb,c.fixed,c.tp,c.sl,c.ns,c.mode,c.R,c.Q,c.len,c.words,s.L,s.p,s.q,s.c0,s.c1,s.c2,s.c3,s.z,c.X,c.T,c.l,c.k,c.P,c.tk,s.lv,s.pk,c.words,s.W):=by
 have a:=w;unfold co at a;rw[zE e]at a;have d:=CA h w;have o:en=Zb:=q.1 (by omega);subst o;have b:=fP (f:=qQ c.mode c.X c.T c.R c.l c.Q c.k c.len c.words cs n) (n:=cs.length) (F:=λ_=>(c.mode,Zb,Zb,c.fixed,c.tp,c.sl,c.ns,c.mode,c.R,c.Q,c.len,c.words,s.L,s.p,s.q,s.c0,s.c1,s.c2,s.c3,s.z,c.X,c.T,c.l,c.k,c.P,c.tk,s.lv,s.pk,c.words,s.W)) (c:=(c.mode,Zb,Zb,c.fixed,c.tp,c.sl,c.ns,c.mode,c.R,c.Q,c.len,c.words,s.L,s.p,s.q,s.c0,s.c1,s.c2,s.c3,s.z,c.X,c.T,c.l,c.k,c.P,c.tk,s.lv,s.pk,c.words,s.W)) (by omega) (λj r=> ?_) ?_
 .unfold fG;exact cl b rfl
 .show cond (Zc ((j:Int)<((cs.length:Nat):Int))) ((rd cs (j:Int)).bind _) _=_;rw[Zf,zC];refine cl (cn r) ?_;by_cases g:cs[j]=IntKind.u64.wrap n
  .rw[zB g,zC];refine cl (aI9 h d.1 d.2 c.mode Zb Zb) ?_;refine cl (WD h e e0 a.inv a.cnt (by omega) d.2) ?_;simp only[cb,gH];rw[Zi];rfl
  .rw[zA g,zD,Zi];rfl
 .show cond (Zc ((cs.length:Int)<((cs.length:Nat):Int))) _ _=_;rw[Ze,zD]
def Gb (c:Cx)(i b:Nat)(en:Bool)(s:Dy)(a:List (Int×Int)):=((a.length:Int),(b:Int),(a.length:Int),c.mode,en,Zb,c.fixed,c.tp,c.sl,c.ns,c.mode,c.R,c.Q,c.len,c.words,s.L,s.p,s.q,s.c0,s.c1,s.c2,s.c3,s.z,c.X,c.T,c.l,c.k,c.P,c.tk,s.lv,s.pk,c.words,s.W)
theorem ad0 (j:c.mode=3)(e0:fi c.mode c.X.length c.T.length c.R c.l c.Q c.k c.len c.words=(c.fixed,c.tp,c.sl,c.ns,0))(g:cs.length<=1000000)(bs:List Bool)(i d:Nat)(en:Bool)(s:Dy)(b:List (Int×Int))(a:Int×Int)(hi:i<20000)(o:b.length<=100000)(w:co c i s)(q:QE c en s)(e:qI c en s=O a)(m:vC c a s):
  jt c.mode c.R c.l c.Q c.k c.len c.words cs c.X c.T bs (Gb c i d en s b)=O (.inl (Gb c (i+1) d en (sj c a s) (b++[a]))):=by
 unfold Gb jt;refine cl (aK7 h j (by omega) w e m) ?_;show cond Za _ _=_;rw[zC];refine cl (OC h j e0 g bs _ (by omega) (lh h w e m) (F6 h w q e m)) ?_;rw[aD,bB,Zi,show((b.length+1:Nat):Int)=(b.length:Int)+1 by omega]
theorem ag6 (g:c.mode=3)(i b:Nat)(en:Bool)(s:Dy)(a:List (Int×Int))(w:co c i s)(e:qI c en s=Y)(j:c.mode=2->en=Za):
  jt c.mode c.R c.l c.Q c.k c.len c.words cs c.X c.T bs (Gb c i b en s a)=O (.inr ((a.length:Int),c.mode,en,Zb,c.fixed,c.tp,c.sl,c.ns,c.mode,c.R,c.Q,c.len,c.words,s.L,s.p,s.q,s.c0,s.c1,s.c2,s.c3,s.z,c.X,c.T,c.l,c.k,c.P,c.tk,s.lv,s.pk,c.words,s.W)):=by
 unfold Gb jt;refine cl (aK5 h g w e) ?_;show cond Zb _ _=_;rw[zD];refine cl (aL4 h g w) ?_
 rw[e,show(cM (Y:Option (Int×Int))&&(Zc (c.mode=2)&& !en))=Zb from by
  by_cases d:c.mode=2
  .rw[j d,cB,bD];rfl
  .rw[zA d];rfl,zD]
theorem ad6 (t:c.mode=3)(e0:fi c.mode c.X.length c.T.length c.R c.l c.Q c.k c.len c.words=(c.fixed,c.tp,c.sl,c.ns,0))(g:cs.length<=1000000)(y:l<=40)(A:c.mode=2->bs.length=l)(H:Way c l 0 Zb (qF c) es f en s)(F:LZ c l f en s es):
  aq (jt c.mode c.R c.l c.Q c.k c.len c.words cs c.X c.T bs) cx (Gb c 0 0 Zb (qF c) [])=O (((nW es).length:Int),c.mode,en,Zb,c.fixed,c.tp,c.sl,c.ns,c.mode,c.R,c.Q,c.len,c.words,s.L,s.p,s.q,s.c0,s.c1,s.c2,s.c3,s.z,c.X,c.T,c.l,c.k,c.P,c.tk,s.lv,s.pk,c.words,s.W):=by
 have u:=jZ h;have v:=H.well h u;have o:=F.le y;obtain⟨r,q⟩:=xO h (f:=jt c.mode c.R c.l c.Q c.k c.len c.words cs c.X c.T bs) (st:=Gb c) (λi b en s d a hi x w q e m=>ad0 h t e0 g bs i b en s d a hi x w q e m) (λi b s d hi w j=>by omega) (λi b s d hi w j=>by omega) H 0 [] u Cm (by omega) (by simp only[cK];omega);rw[aB,cL]at r;rw[aB]at v;exact xK r (by omega) (ag6 h t es.length f en s (nW es) v F.no F.en)
def yK (c:Cx)(i b:Nat)(en:Bool)(s:Dy)(a:List (Int×Int)):=((a.length:Int),(b:Int),c.mode,en,Zb,a,c.fixed,c.tp,c.sl,c.ns,c.mode,c.R,c.Q,c.len,c.words,s.L,s.p,s.q,s.c0,s.c1,s.c2,s.c3,s.z,c.X,c.T,c.l,c.k,c.P,c.tk,s.lv,s.pk,c.words,s.W)
theorem UZ (j:c.mode=3)(e0:fi c.mode c.X.length c.T.length c.R c.l c.Q c.k c.len c.words=(c.fixed,c.tp,c.sl,c.ns,0))(g:cs.length<=1000000)(bs:List Bool)(i d:Nat)(en:Bool)(s:Dy)(b:List (Int×Int))(a:Int×Int)(hi:i<20000)(r:b.length<=100000)(w:co c i s)(q:QE c en s)(e:qI c en s=O a)(m:vC c a s):
  iu c.mode c.R c.l c.Q c.k c.len c.words cs c.X c.T bs (yK c i d en s b)=O (.inl (yK c (i+1) d en (sj c a s) (b++[a]))):=by
 have p:a=(a.1,0):=by
  have o:=e;rw[al1 j]at o;exact Prod.ext rfl (at4 o)
 unfold yK iu;refine cl (aK7 h j (by omega) w e m) ?_;show cond Za _ _=_;rw[zC];rw[bt (by omega) (by omega)];refine cl (OC h j e0 g bs _ (by omega) (lh h w e m) (F6 h w q e m)) ?_;rw[aD,bB,Zi,show((b.length+1:Nat):Int)=(b.length:Int)+1 by omega];rw[p]
theorem VA (g:c.mode=3)(i b:Nat)(en:Bool)(s:Dy)(a:List (Int×Int))(w:co c i s)(e:qI c en s=Y)(j:c.mode=2->en=Za):
  iu c.mode c.R c.l c.Q c.k c.len c.words cs c.X c.T bs (yK c i b en s a)=O (.inr (c.mode,en,Zb,a,c.fixed,c.tp,c.sl,c.ns,c.mode,c.R,c.Q,c.len,c.words,s.L,s.p,s.q,s.c0,s.c1,s.c2,s.c3,s.z,c.X,c.T,c.l,c.k,c.P,c.tk,s.lv,s.pk,c.words,s.W)):=by
 unfold yK iu;refine cl (aK5 h g w e) ?_;show cond Zb _ _=_;rw[zD];refine cl (aL4 h g w) ?_
 rw[e,show(cM (Y:Option (Int×Int))&&(Zc (c.mode=2)&& !en))=Zb from by
  by_cases d:c.mode=2
  .rw[j d,cB,bD];rfl
  .rw[zA d];rfl,zD]
theorem U2 (t:c.mode=3)(e0:fi c.mode c.X.length c.T.length c.R c.l c.Q c.k c.len c.words=(c.fixed,c.tp,c.sl,c.ns,0))(g:cs.length<=1000000)(y:l<=40)(A:c.mode=2->bs.length=l)(H:Way c l 0 Zb (qF c) es f en s)(F:LZ c l f en s es):
  aq (iu c.mode c.R c.l c.Q c.k c.len c.words cs c.X c.T bs) cx (yK c 0 0 Zb (qF c) [])=O (c.mode,en,Zb,(nW es),c.fixed,c.tp,c.sl,c.ns,c.mode,c.R,c.Q,c.len,c.words,s.L,s.p,s.q,s.c0,s.c1,s.c2,s.c3,s.z,c.X,c.T,c.l,c.k,c.P,c.tk,s.lv,s.pk,c.words,s.W):=by
 have u:=jZ h;have v:=H.well h u;have o:=F.le y;obtain⟨r,q⟩:=xO h (f:=iu c.mode c.R c.l c.Q c.k c.len c.words cs c.X c.T bs) (st:=yK c) (λi b en s d a hi x w q e m=>UZ h t e0 g bs i b en s d a hi x w q e m) (λi b s d hi w j=>by omega) (λi b s d hi w j=>by omega) H 0 [] u Cm (by omega) (by simp only[cK];omega);rw[aB,cL]at r;rw[aB]at v;exact xK r (by omega) (VA h t es.length f en s (nW es) v F.no F.en)
theorem OD (o:c.mode=1)(e0:fi c.mode c.X.length c.T.length c.R c.l c.Q c.k c.len c.words=(c.fixed,c.tp,c.sl,c.ns,0))(g:cs.length<=1000000)(bs:List Bool)(n:Int)(hi:i<=1000000)(w:co c i s)(q:QE c en s):
  fH c.mode c.X c.T c.R c.l c.Q c.k c.len c.words cs bs n c.mode en Zb c.fixed c.tp c.sl c.ns c.mode c.R c.Q c.len c.words s.L s.p s.q s.c0 s.c1 s.c2 s.c3 s.z c.X c.T c.l c.k c.P c.tk (c.off 8:Int) c.ns (c.X.length:Int) s.lv s.pk c.words s.W=O (c.mode,en,Zb,c.fixed,c.tp,c.sl,c.ns,c.mode,c.R,c.Q,c.len,c.words,s.L,s.p,s.q,s.c0,s.c1,s.c2,s.c3,s.z,c.X,c.T,c.l,c.k,c.P,c.tk,(c.off 8:Int),c.ns,(c.X.length:Int),s.lv,s.pk,c.words,s.W):=by
 have a:=w;unfold co at a;rw[Zh]at a;have d:=CA h w;have b:=fP (f:=qR c.mode c.X c.T c.R c.l c.Q c.k c.len c.words cs n) (n:=cs.length) (F:=λ_=>(c.mode,en,Zb,c.fixed,c.tp,c.sl,c.ns,c.mode,c.R,c.Q,c.len,c.words,s.L,s.p,s.q,s.c0,s.c1,s.c2,s.c3,s.z,c.X,c.T,c.l,c.k,c.P,c.tk,(c.off 8:Int),c.ns,(c.X.length:Int),s.lv,s.pk,c.words,s.W)) (c:=(c.mode,en,Zb,c.fixed,c.tp,c.sl,c.ns,c.mode,c.R,c.Q,c.len,c.words,s.L,s.p,s.q,s.c0,s.c1,s.c2,s.c3,s.z,c.X,c.T,c.l,c.k,c.P,c.tk,(c.off 8:Int),c.ns,(c.X.length:Int),s.lv,s.pk,c.words,s.W)) (by omega) (λj m=> ?_) ?_
 .unfold fH;exact cl b rfl
 .show cond (Zc ((j:Int)<((cs.length:Nat):Int))) ((rd cs (j:Int)).bind _) _=_;rw[Zf,zC];refine cl (cn m) ?_;by_cases e:cs[j]=IntKind.u64.wrap n
  .rw[zB e,zC];refine cl (aJ0 h d.1 d.2 c.mode en Zb) ?_;refine cl (WE h o e0 a.inv a.len a.cnt (by omega) d.2 q.1 q.2) ?_;simp only[cb,gH];rw[Zi];rfl
  .rw[zA e,zD,Zi];rfl
 .show cond (Zc ((cs.length:Int)<((cs.length:Nat):Int))) _ _=_;rw[Ze,zD]
def Gc (c:Cx)(i b:Nat)(en:Bool)(s:Dy)(a:List (Int×Int)):=((a.length:Int),(b:Int),(a.length:Int),c.mode,en,Zb,c.fixed,c.tp,c.sl,c.ns,c.mode,c.R,c.Q,c.len,c.words,s.L,s.p,s.q,s.c0,s.c1,s.c2,s.c3,s.z,c.X,c.T,c.l,c.k,c.P,c.tk,(c.off 8:Int),c.ns,(c.X.length:Int),s.lv,s.pk,c.words,s.W)
theorem ad1 (j:c.mode=1)(o:1<=c.ns)(e0:fi c.mode c.X.length c.T.length c.R c.l c.Q c.k c.len c.words=(c.fixed,c.tp,c.sl,c.ns,0))(g:cs.length<=1000000)(bs:List Bool)(i d:Nat)(en:Bool)(s:Dy)(b:List (Int×Int))(a:Int×Int)(hi:i<20000)(p:b.length<=100000)(w:co c i s)(q:QE c en s)(e:qI c en s=O a)(m:vC c a s):
  ju c.mode c.R c.l c.Q c.k c.len c.words cs c.X c.T bs (Gc c i d en s b)=O (.inl (Gc c (i+1) d en (sj c a s) (b++[a]))):=by
 unfold Gc ju;refine cl (aK8 h j o (by omega) w e m) ?_;show cond Za _ _=_;rw[zC];refine cl (OD h j e0 g bs _ (by omega) (lh h w e m) (F6 h w q e m)) ?_;rw[aD,bB,Zi,show((b.length+1:Nat):Int)=(b.length:Int)+1 by omega]
theorem ag7 (g:c.mode=1)(j:1<=c.ns)(i b:Nat)(en:Bool)(s:Dy)(a:List (Int×Int))(w:co c i s)(e:qI c en s=Y)(m:c.mode=2->en=Za):
  ju c.mode c.R c.l c.Q c.k c.len c.words cs c.X c.T bs (Gc c i b en s a)=O (.inr ((a.length:Int),c.mode,en,Zb,c.fixed,c.tp,c.sl,c.ns,c.mode,c.R,c.Q,c.len,c.words,s.L,s.p,s.q,s.c0,s.c1,s.c2,s.c3,s.z,c.X,c.T,c.l,c.k,c.P,c.tk,(c.off 8:Int),c.ns,(c.X.length:Int),s.lv,s.pk,c.words,s.W)):=by
 unfold Gc ju;refine cl (aK6 h g j w e) ?_;show cond Zb _ _=_;rw[zD];refine cl (aL5 h g j w) ?_
 rw[e,show(cM (Y:Option (Int×Int))&&(Zc (c.mode=2)&& !en))=Zb from by
  by_cases d:c.mode=2
  .rw[m d,cB,bD];rfl
  .rw[zA d];rfl,zD]
theorem ad7 (t:c.mode=1)(u:1<=c.ns)(e0:fi c.mode c.X.length c.T.length c.R c.l c.Q c.k c.len c.words=(c.fixed,c.tp,c.sl,c.ns,0))(g:cs.length<=1000000)(A:l<=40)(B:c.mode=2->bs.length=l)(H:Way c l 0 Zb (qF c) es f en s)(F:LZ c l f en s es):
  aq (ju c.mode c.R c.l c.Q c.k c.len c.words cs c.X c.T bs) cx (Gc c 0 0 Zb (qF c) [])=O (((nW es).length:Int),c.mode,en,Zb,c.fixed,c.tp,c.sl,c.ns,c.mode,c.R,c.Q,c.len,c.words,s.L,s.p,s.q,s.c0,s.c1,s.c2,s.c3,s.z,c.X,c.T,c.l,c.k,c.P,c.tk,(c.off 8:Int),c.ns,(c.X.length:Int),s.lv,s.pk,c.words,s.W):=by
 have v:=jZ h;have x:=H.well h v;have o:=F.le A;obtain⟨r,q⟩:=xO h (f:=ju c.mode c.R c.l c.Q c.k c.len c.words cs c.X c.T bs) (st:=Gc c) (λi b en s d a hi y w q e m=>ad1 h t u e0 g bs i b en s d a hi y w q e m) (λi b s d hi w j=>by omega) (λi b s d hi w j=>by omega) H 0 [] v Cm (by omega) (by simp only[cK];omega);rw[aB,cL]at r;rw[aB]at x;exact xK r (by omega) (ag7 h t u es.length f en s (nW es) x F.no F.en)
def yL (c:Cx)(i b:Nat)(en:Bool)(s:Dy)(a:List (Int×Int)):=((a.length:Int),(b:Int),c.mode,en,Zb,a,c.fixed,c.tp,c.sl,c.ns,c.mode,c.R,c.Q,c.len,c.words,s.L,s.p,s.q,s.c0,s.c1,s.c2,s.c3,s.z,c.X,c.T,c.l,c.k,c.P,c.tk,(c.off 8:Int),c.ns,(c.X.length:Int),s.lv,s.pk,c.words,s.W)
theorem U0 (j:c.mode=1)(o:1<=c.ns)(e0:fi c.mode c.X.length c.T.length c.R c.l c.Q c.k c.len c.words=(c.fixed,c.tp,c.sl,c.ns,0))(g:cs.length<=1000000)(bs:List Bool)(i d:Nat)(en:Bool)(s:Dy)(b:List (Int×Int))(a:Int×Int)(hi:i<20000)(p:b.length<=100000)(w:co c i s)(q:QE c en s)(e:qI c en s=O a)(m:vC c a s):
  iv c.mode c.R c.l c.Q c.k c.len c.words cs c.X c.T bs (yL c i d en s b)=O (.inl (yL c (i+1) d en (sj c a s) (b++[a]))):=by
 unfold yL iv;refine cl (aK8 h j o (by omega) w e m) ?_;show cond Za _ _=_;rw[zC];rw[bt (by omega) (by omega)];refine cl (OD h j e0 g bs _ (by omega) (lh h w e m) (F6 h w q e m)) ?_;rw[aD,bB,Zi,show((b.length+1:Nat):Int)=(b.length:Int)+1 by omega]
theorem VB (g:c.mode=1)(j:1<=c.ns)(i b:Nat)(en:Bool)(s:Dy)(a:List (Int×Int))(w:co c i s)(e:qI c en s=Y)(m:c.mode=2->en=Za):
  iv c.mode c.R c.l c.Q c.k c.len c.words cs c.X c.T bs (yL c i b en s a)=O (.inr (c.mode,en,Zb,a,c.fixed,c.tp,c.sl,c.ns,c.mode,c.R,c.Q,c.len,c.words,s.L,s.p,s.q,s.c0,s.c1,s.c2,s.c3,s.z,c.X,c.T,c.l,c.k,c.P,c.tk,(c.off 8:Int),c.ns,(c.X.length:Int),s.lv,s.pk,c.words,s.W)):=by
 unfold yL iv;refine cl (aK6 h g j w e) ?_;show cond Zb _ _=_;rw[zD];refine cl (aL5 h g j w) ?_
 rw[e,show(cM (Y:Option (Int×Int))&&(Zc (c.mode=2)&& !en))=Zb from by
  by_cases d:c.mode=2
  .rw[m d,cB,bD];rfl
  .rw[zA d];rfl,zD]
theorem U3 (t:c.mode=1)(u:1<=c.ns)(e0:fi c.mode c.X.length c.T.length c.R c.l c.Q c.k c.len c.words=(c.fixed,c.tp,c.sl,c.ns,0))(g:cs.length<=1000000)(A:l<=40)(B:c.mode=2->bs.length=l)(H:Way c l 0 Zb (qF c) es f en s)(F:LZ c l f en s es):
  aq (iv c.mode c.R c.l c.Q c.k c.len c.words cs c.X c.T bs) cx (yL c 0 0 Zb (qF c) [])=O (c.mode,en,Zb,(nW es),c.fixed,c.tp,c.sl,c.ns,c.mode,c.R,c.Q,c.len,c.words,s.L,s.p,s.q,s.c0,s.c1,s.c2,s.c3,s.z,c.X,c.T,c.l,c.k,c.P,c.tk,(c.off 8:Int),c.ns,(c.X.length:Int),s.lv,s.pk,c.words,s.W):=by
 have v:=jZ h;have x:=H.well h v;have o:=F.le A;obtain⟨r,q⟩:=xO h (f:=iv c.mode c.R c.l c.Q c.k c.len c.words cs c.X c.T bs) (st:=yL c) (λi b en s d a hi y w q e m=>U0 h t u e0 g bs i b en s d a hi y w q e m) (λi b s d hi w j=>by omega) (λi b s d hi w j=>by omega) H 0 [] v Cm (by omega) (by simp only[cK];omega);rw[aB,cL]at r;rw[aB]at x;exact xK r (by omega) (VB h t u es.length f en s (nW es) x F.no F.en)
theorem OE (o:c.mode=2)(e0:fi c.mode c.X.length c.T.length c.R c.l c.Q c.k c.len c.words=(c.fixed,c.tp,c.sl,c.ns,0))(g:cs.length<=1000000)(bs:List Bool)(n:Int)(hi:i<=1000000)(w:co c i s)(q:QE c en s):
  fI c.mode c.X c.T c.R c.l c.Q c.k c.len c.words cs bs n c.mode en Zb c.fixed c.tp c.sl c.ns c.mode c.R c.Q c.len c.words s.L s.p s.q s.c0 s.c1 s.c2 s.c3 s.z c.X c.T c.l c.k c.P c.tk (c.off 8:Int) c.ns (c.X.length:Int) s.lv s.pk c.words s.W=O (c.mode,en,Zb,c.fixed,c.tp,c.sl,c.ns,c.mode,c.R,c.Q,c.len,c.words,s.L,s.p,s.q,s.c0,s.c1,s.c2,s.c3,s.z,c.X,c.T,c.l,c.k,c.P,c.tk,(c.off 8:Int),c.ns,(c.X.length:Int),s.lv,s.pk,c.words,s.W):=by
 have a:=w;unfold co at a;rw[Zh]at a;have d:=CA h w;have b:=fP (f:=qS c.mode c.X c.T c.R c.l c.Q c.k c.len c.words cs n) (n:=cs.length) (F:=λ_=>(c.mode,en,Zb,c.fixed,c.tp,c.sl,c.ns,c.mode,c.R,c.Q,c.len,c.words,s.L,s.p,s.q,s.c0,s.c1,s.c2,s.c3,s.z,c.X,c.T,c.l,c.k,c.P,c.tk,(c.off 8:Int),c.ns,(c.X.length:Int),s.lv,s.pk,c.words,s.W)) (c:=(c.mode,en,Zb,c.fixed,c.tp,c.sl,c.ns,c.mode,c.R,c.Q,c.len,c.words,s.L,s.p,s.q,s.c0,s.c1,s.c2,s.c3,s.z,c.X,c.T,c.l,c.k,c.P,c.tk,(c.off 8:Int),c.ns,(c.X.length:Int),s.lv,s.pk,c.words,s.W)) (by omega) (λj m=> ?_) ?_
 .unfold fI;exact cl b rfl
 .show cond (Zc ((j:Int)<((cs.length:Nat):Int))) ((rd cs (j:Int)).bind _) _=_;rw[Zf,zC];refine cl (cn m) ?_;by_cases e:cs[j]=IntKind.u64.wrap n
  .rw[zB e,zC];refine cl (aJ1 h d.1 d.2 c.mode en Zb) ?_;refine cl (WF h o e0 a.inv a.len a.cnt (by omega) d.2 q.1 q.2) ?_;simp only[cb,gH];rw[Zi];rfl
  .rw[zA e,zD,Zi];rfl
 .show cond (Zc ((cs.length:Int)<((cs.length:Nat):Int))) _ _=_;rw[Ze,zD]
def uP (c:Cx)(i b:Nat)(en:Bool)(s:Dy)(a:List (Int×Int)):=((a.length:Int),(b:Int),(a.length:Int),c.mode,en,Zb,c.fixed,c.tp,c.sl,c.ns,c.mode,c.R,c.Q,c.len,c.words,s.L,s.p,s.q,s.c0,s.c1,s.c2,s.c3,s.z,c.X,c.T,c.l,c.k,c.P,c.tk,(c.off 8:Int),c.ns,(c.X.length:Int),s.lv,s.pk,c.words,s.W)
theorem ad2 (j:c.mode=2)(o:1<=c.ns)(e0:fi c.mode c.X.length c.T.length c.R c.l c.Q c.k c.len c.words=(c.fixed,c.tp,c.sl,c.ns,0))(g:cs.length<=1000000)(bs:List Bool)(i d:Nat)(en:Bool)(s:Dy)(b:List (Int×Int))(a:Int×Int)(hi:i<20000)(p:b.length<=100000)(w:co c i s)(q:QE c en s)(e:qI c en s=O a)(m:vC c a s):
  fy c.mode c.R c.l c.Q c.k c.len c.words cs c.X c.T bs (uP c i d en s b)=O (.inl (uP c (i+1) d en (sj c a s) (b++[a]))):=by
 unfold uP fy;refine cl (aK9 h j o (by omega) w e m) ?_;show cond Za _ _=_;rw[zC];refine cl (OE h j e0 g bs _ (by omega) (lh h w e m) (F6 h w q e m)) ?_;rw[aD,bB,Zi,show((b.length+1:Nat):Int)=(b.length:Int)+1 by omega]
theorem ag8 (g:c.mode=2)(j:1<=c.ns)(i b:Nat)(en:Bool)(s:Dy)(a:List (Int×Int))(w:co c i s)(e:qI c en s=Y)(m:c.mode=2->en=Za):
  fy c.mode c.R c.l c.Q c.k c.len c.words cs c.X c.T bs (uP c i b en s a)=O (.inr ((a.length:Int),c.mode,en,Zb,c.fixed,c.tp,c.sl,c.ns,c.mode,c.R,c.Q,c.len,c.words,s.L,s.p,s.q,s.c0,s.c1,s.c2,s.c3,s.z,c.X,c.T,c.l,c.k,c.P,c.tk,(c.off 8:Int),c.ns,(c.X.length:Int),s.lv,s.pk,c.words,s.W)):=by
 unfold uP fy;refine cl (Wx h g j w e) ?_;show cond Zb _ _=_;rw[zD];refine cl (RJ h g j w) ?_
 rw[e,show(cM (Y:Option (Int×Int))&&(Zc (c.mode=2)&& !en))=Zb from by
  by_cases d:c.mode=2
  .rw[m d,cB,bD];rfl
  .rw[zA d];rfl,zD]
theorem aj3 (d:c.mode=2)(g:1<=c.ns)(o:bs.length<=1000000)(i a:Nat)(s:Dy)(b:List (Int×Int))(w:co c i s)(e:qI c Zb s=Y)(m:s.q= -1)(j:s.L<65535)(p:a<bs.length):
  fy c.mode c.R c.l c.Q c.k c.len c.words cs c.X c.T bs (uP c i a Zb s b)=O (.inl (uP c (i+1) (a+1) Zb (Fq s) b)):=by
 unfold uP fy;refine cl (Wx h d g w e) ?_;show cond Zb _ _=_;rw[zD];refine cl (RJ h d g w) ?_;rw[e,zB d];show cond Za _ _=_;rw[zC,zB (show(a:Int)<((bs.length:Nat):Int)by omega)];refine cl (fdm h d g w e m j) ?_;rw[Zi,show(a:Int)+1=((a+1:Nat):Int)by omega];rfl
theorem ap8 (d:c.mode=2)(g:1<=c.ns)(j:bs.length<=1000000)(i a:Nat)(s:Dy)(b:List (Int×Int))(w:co c i s)(e:qI c Zb s=Y)(o:s.q= -1)(m:a=bs.length):
  fy c.mode c.R c.l c.Q c.k c.len c.words cs c.X c.T bs (uP c i a Zb s b)=O (.inl (uP c (i+1) (a+1) Za s b)):=by
 unfold uP fy;refine cl (Wx h d g w e) ?_;show cond Zb _ _=_;rw[zD];refine cl (RJ h d g w) ?_;rw[e,zB d];show cond Za _ _=_;rw[zC,zA (show¬(a:Int)<((bs.length:Nat):Int)by omega)];refine cl (fds h d g w e) ?_;rw[Zi,show(a:Int)+1=((a+1:Nat):Int)by omega]
theorem ad8 (g:c.mode=2)(o:1<=c.ns)(e0:fi c.mode c.X.length c.T.length c.R c.l c.Q c.k c.len c.words=(c.fixed,c.tp,c.sl,c.ns,0))(t:cs.length<=1000000)(D:l<=40)(j:c.mode=2->bs.length=l)(H:Way c l 0 Zb (qF c) es f en s)(F:LZ c l f en s es):
  aq (fy c.mode c.R c.l c.Q c.k c.len c.words cs c.X c.T bs) cx (uP c 0 0 Zb (qF c) [])=O (((nW es).length:Int),c.mode,en,Zb,c.fixed,c.tp,c.sl,c.ns,c.mode,c.R,c.Q,c.len,c.words,s.L,s.p,s.q,s.c0,s.c1,s.c2,s.c3,s.z,c.X,c.T,c.l,c.k,c.P,c.tk,(c.off 8:Int),c.ns,(c.X.length:Int),s.lv,s.pk,c.words,s.W):=by
 have x:=jZ h;have y:=H.well h x;have v:=F.le D;obtain⟨r,q⟩:=xO h (f:=fy c.mode c.R c.l c.Q c.k c.len c.words cs c.X c.T bs) (st:=uP c) (λi b en s d a hi C w q e m=>ad2 h g o e0 t bs i b en s d a hi C w q e m) (λi b s d hi w _ e u A B=>aj3 h g o (by have:=j g;omega) i b s d w e u A (by have:=j g;omega)) (λi b s d hi w _ e u B=>ap8 h g o (by have:=j g;omega) i b s d w e u (by have:=j g;omega)) H 0 [] x Cm (by omega) (by simp only[cK];omega);rw[aB,cL]at r;rw[aB]at y;exact xK r (by omega) (ag8 h g o es.length f en s (nW es) y F.no F.en)
def mM (c:Cx)(i b:Nat)(en:Bool)(s:Dy)(a:List (Int×Int)):=((a.length:Int),(b:Int),c.mode,en,Zb,a,c.fixed,c.tp,c.sl,c.ns,c.mode,c.R,c.Q,c.len,c.words,s.L,s.p,s.q,s.c0,s.c1,s.c2,s.c3,s.z,c.X,c.T,c.l,c.k,c.P,c.tk,(c.off 8:Int),c.ns,(c.X.length:Int),s.lv,s.pk,c.words,s.W)
theorem U1 (j:c.mode=2)(o:1<=c.ns)(e0:fi c.mode c.X.length c.T.length c.R c.l c.Q c.k c.len c.words=(c.fixed,c.tp,c.sl,c.ns,0))(g:cs.length<=1000000)(bs:List Bool)(i d:Nat)(en:Bool)(s:Dy)(b:List (Int×Int))(a:Int×Int)(hi:i<20000)(p:b.length<=100000)(w:co c i s)(q:QE c en s)(e:qI c en s=O a)(m:vC c a s):
  dw c.mode c.R c.l c.Q c.k c.len c.words cs c.X c.T bs (mM c i d en s b)=O (.inl (mM c (i+1) d en (sj c a s) (b++[a]))):=by
 unfold mM dw;refine cl (aK9 h j o (by omega) w e m) ?_;show cond Za _ _=_;rw[zC];rw[bt (by omega) (by omega)];refine cl (OE h j e0 g bs _ (by omega) (lh h w e m) (F6 h w q e m)) ?_;rw[aD,bB,Zi,show((b.length+1:Nat):Int)=(b.length:Int)+1 by omega]
theorem VC (g:c.mode=2)(j:1<=c.ns)(i b:Nat)(en:Bool)(s:Dy)(a:List (Int×Int))(w:co c i s)(e:qI c en s=Y)(m:c.mode=2->en=Za):
  dw c.mode c.R c.l c.Q c.k c.len c.words cs c.X c.T bs (mM c i b en s a)=O (.inr (c.mode,en,Zb,a,c.fixed,c.tp,c.sl,c.ns,c.mode,c.R,c.Q,c.len,c.words,s.L,s.p,s.q,s.c0,s.c1,s.c2,s.c3,s.z,c.X,c.T,c.l,c.k,c.P,c.tk,(c.off 8:Int),c.ns,(c.X.length:Int),s.lv,s.pk,c.words,s.W)):=by
 unfold mM dw;refine cl (Wx h g j w e) ?_;show cond Zb _ _=_;rw[zD];refine cl (RJ h g j w) ?_
 rw[e,show(cM (Y:Option (Int×Int))&&(Zc (c.mode=2)&& !en))=Zb from by
  by_cases d:c.mode=2
  .rw[m d,cB,bD];rfl
  .rw[zA d];rfl,zD]
theorem VZ (d:c.mode=2)(g:1<=c.ns)(o:bs.length<=1000000)(i a:Nat)(s:Dy)(b:List (Int×Int))(w:co c i s)(e:qI c Zb s=Y)(m:s.q= -1)(j:s.L<65535)(p:a<bs.length):
  dw c.mode c.R c.l c.Q c.k c.len c.words cs c.X c.T bs (mM c i a Zb s b)=O (.inl (mM c (i+1) (a+1) Zb (Fq s) b)):=by
 unfold mM dw;refine cl (Wx h d g w e) ?_;show cond Zb _ _=_;rw[zD];refine cl (RJ h d g w) ?_;rw[e,zB d];show cond Za _ _=_;rw[zC,zB (show(a:Int)<((bs.length:Nat):Int)by omega)];refine cl (fdm h d g w e m j) ?_;rw[Zi,show(a:Int)+1=((a+1:Nat):Int)by omega];rfl
theorem Wy (d:c.mode=2)(g:1<=c.ns)(j:bs.length<=1000000)(i a:Nat)(s:Dy)(b:List (Int×Int))(w:co c i s)(e:qI c Zb s=Y)(o:s.q= -1)(m:a=bs.length):
  dw c.mode c.R c.l c.Q c.k c.len c.words cs c.X c.T bs (mM c i a Zb s b)=O (.inl (mM c (i+1) (a+1) Za s b)):=by
 unfold mM dw;refine cl (Wx h d g w e) ?_;show cond Zb _ _=_;rw[zD];refine cl (RJ h d g w) ?_;rw[e,zB d];show cond Za _ _=_;rw[zC,zA (show¬(a:Int)<((bs.length:Nat):Int)by omega)];refine cl (fds h d g w e) ?_;rw[Zi,show(a:Int)+1=((a+1:Nat):Int)by omega]
theorem U4 (g:c.mode=2)(o:1<=c.ns)(e0:fi c.mode c.X.length c.T.length c.R c.l c.Q c.k c.len c.words=(c.fixed,c.tp,c.sl,c.ns,0))(t:cs.length<=1000000)(D:l<=40)(j:c.mode=2->bs.length=l)(H:Way c l 0 Zb (qF c) es f en s)(F:LZ c l f en s es):
  aq (dw c.mode c.R c.l c.Q c.k c.len c.words cs c.X c.T bs) cx (mM c 0 0 Zb (qF c) [])=O (c.mode,en,Zb,(nW es),c.fixed,c.tp,c.sl,c.ns,c.mode,c.R,c.Q,c.len,c.words,s.L,s.p,s.q,s.c0,s.c1,s.c2,s.c3,s.z,c.X,c.T,c.l,c.k,c.P,c.tk,(c.off 8:Int),c.ns,(c.X.length:Int),s.lv,s.pk,c.words,s.W):=by
 have x:=jZ h;have y:=H.well h x;have v:=F.le D;obtain⟨r,q⟩:=xO h (f:=dw c.mode c.R c.l c.Q c.k c.len c.words cs c.X c.T bs) (st:=mM c) (λi b en s d a hi C w q e m=>U1 h g o e0 t bs i b en s d a hi C w q e m) (λi b s d hi w _ e u A B=>VZ h g o (by have:=j g;omega) i b s d w e u A (by have:=j g;omega)) (λi b s d hi w _ e u B=>Wy h g o (by have:=j g;omega) i b s d w e u (by have:=j g;omega)) H 0 [] x Cm (by omega) (by simp only[cK];omega);rw[aB,cL]at r;rw[aB]at y;exact xK r (by omega) (VC h g o es.length f en s (nW es) y F.no F.en)
end
end
section
open Go.IntKind renaming wrap -> zH, i64 -> zI, u64 -> zJ
open List renaming length_take -> aB, length_append -> aD, length_cons -> bD, range -> cB, length_nil -> cD
open Nat renaming le_trans -> bB, zero_add -> cK
def nX (l:List (Zd)):Zd:=l.flatMap λx=>(x.length:Int)::x
theorem Sv {l:List (Zd)}(hi:i<l.length):nX (l.take (i+1))=nX (l.take i)++[(l[i].length:Int)]++l[i]:=by
 unfold nX;rw[List.take_succ_eq_append_getElem hi,List.flatMap_append];simp
theorem VF {l:List (Zd)}{M:Nat}(h: ∀x∈l,x.length<=M):(nX l).length<=(M+1)*l.length:=by
 unfold nX;induction l with
 |nil=>simp
 |cons x l b=>
  have d:=b (λy a=>h y (by simp[a]));have e:=h x (by simp);simp only[List.flatMap_cons,aD,bD];rw[Nat.mul_add];omega
theorem ED {l:List (Zd)}(g:l.length<=10)(h: ∀x∈l,x.length<=100000):ot l=O (nX l):=by
 unfold ot
 have a:aq (mz l) cx (0,nX (l.take 0))=O (nX l):=by
  refine fP (n:=l.length) (λi=>nX (l.take i)) (by omega) (λi hi=> ?_) ?_
  .have b:=VF (l:=l.take i) (M:=100000) (λx d=>h x (List.mem_of_mem_take d));have e:=h _ (List.getElem_mem hi);rw[aB]at b;unfold mz;rw[ag,Zg,cn hi];simp only[zG];rw[bt (by omega) (by omega),bt (by rw[aD];simp;omega) (by omega),xP (by omega),ad (n:=(i:Int)+1) (by omega),Sv hi];rfl
  .unfold mz;rw[ag,Zh,List.take_length]
 have a:aq (mz l) cx (0,[])=_:=a;rw[a];rfl
theorem LA {f:(Int×Zd)->Option ((Int×Zd)⊕(Zd))}{v:Zd}(e: ∀(i:Nat) (o:Zd),i<8->o.length<=10000->f ((i:Int),o)=O (.inl (((i+1:Nat):Int),o++[zH zJ (v.getD i 0)])))(d: ∀o,f (8,o)=O (.inr o)){a:Zd}(g:a.length<=9000):
  aq f cx (0,a)=O (a++(cB 8).map λi=>IntKind.u64.wrap (v.getD i 0)):=by
 have b:=fP (f:=f) (n:=8) (F:=λi=>a++(cB i).map λi=>IntKind.u64.wrap (v.getD i 0)) (c:=a++(cB 8).map λi=>IntKind.u64.wrap (v.getD i 0)) (by omega) (λi hi=> ?_) (d _)
 .have:a++(cB 0).map (λi=>IntKind.u64.wrap (v.getD i 0))=a:=by simp
  rw[this]at b;exact b
 .rw[e i _ hi (by rw[aD,List.length_map,List.length_range];omega),List.range_succ,List.map_append,List.append_assoc];rfl
def Ys (c:Cx)(s:Dy)(n:Nat):Zd:=([0,s.z]++nX [seg s.W (c.off 5) c.X.length,seg s.W (c.off 6) c.T.length])++[zH zJ s.L,zH zJ c.ns,zH zJ s.c0,zH zJ s.c1,zH zJ s.c2,zH zJ s.c3,zH zJ s.pk,zH zJ (n:Int)]
section
variable {c:Cx} (h:c.Ok)
include h
theorem ao1 (g:c.mode=3)(e0:fi c.mode c.X.length c.T.length c.R c.l c.Q c.k c.len c.words=(c.fixed,c.tp,c.sl,c.ns,0))(e:cs.length<=1000000)(m:ie w=O (c.mode,c.R,c.l,c.Q,c.k,c.len,c.words,cs,0,c.X,c.T,bs))(hl:l<=40)(r:c.mode=2->bs.length=l)(H:Way c l 0 Zb (qF c) es f en s)(F:LZ c l f en s es):
  iq w=O (Ys c s (nW es).length)/\fY w=O (0,nW es):=by
 have u:=jZ h;have y:=H.well h u;rw[cK]at y;have A:qF c=new1 c:=by unfold qF;rw[zE g]
 have b:=OC h g e0 e bs 0 (i:=0) (by omega) u Cm;have d:=ad6 h g e0 e hl r H F;have p:=U2 h g e0 e hl r H F;rw[A]at b d p;have E:=h.num.x;have I:=h.num.t;have j:gm c.mode c.X c.T c.R c.l c.Q c.k c.len c.words=O (fi c.mode c.X.length c.T.length c.R c.l c.Q c.k c.len c.words):=Be h.hl h.hk;rw[e0]at j;refine⟨?_, ?_⟩
 .unfold iq;refine cl m ?_;show cond (Zc ((0:Int)≠0)) _ _=_;rw[zA (by simp),zD];refine cl (as7 h g e0) ?_;simp only[cb,gH];refine cl b ?_;refine cl d ?_;have J:=CA h y;refine cl (a:=(s.z,0,seg s.W (c.off 5) c.X.length,seg s.W (c.off 6) c.T.length)) ?_ ?_
  .show ij _ _ _ _ _ _ _ _ _ _ _ _ _ _ _ _ _ _ _ _ _ _ _ _ _ _ _ _ _ _=_;unfold ij;rw[an7 h J.1];unfold F9;rw[zF (by rw[F.q];simp)];rfl
  refine cl j ?_;have C:(seg s.W (c.off 5) c.X.length).length<=64:=bB (by unfold seg;rw[aB];omega) (show c.X.length<=64 by omega);have D:(seg s.W (c.off 6) c.T.length).length<=64:=bB (by unfold seg;rw[aB];omega) (show c.T.length<=64 by omega);refine cl (ED (l:=[seg s.W (c.off 5) c.X.length,seg s.W (c.off 6) c.T.length]) (by simp) (by simp;omega)) ?_
  have B:(nX [seg s.W (c.off 5) c.X.length,seg s.W (c.off 6) c.T.length]).length<=200:=by
   unfold nX;simp;omega
  rw[bt (by omega) (by omega)];refine cl (show oE _ _ _ _ _ _ _ _ _ _ _ _ _ _ _ _ _ _ _ _ _ _ _ _ _ _ _ _ _ _=O (s.c0,s.c1,s.c2,s.c3)from rfl) ?_;refine cl (show gi _ _ _ _ _ _ _ _ _ _ _ _ _ _ _ _ _ _ _ _ _ _ _ _ _ _ _ _ _ _=O s.L from rfl) ?_;refine cl (show pj _ _ _ _ _ _ _ _ _ _ _ _ _ _ _ _ _ _ _ _ _ _ _ _ _ _ _ _ _ _=O s.pk from rfl) ?_;refine cl (LA (v:=[s.L,c.ns,s.c0,s.c1,s.c2,s.c3,s.pk,((nW es).length:Int)]) (λi o hi K=> ?_) (λo=> ?_) (by rw[aD];simp only[bD,cD];omega)) ?_
  .show cond (Zc ((i:Int)<8)) ((ix (i:Int) 8).bind _) _=_;rw[Zf,zC];refine cl (bp hi) ?_;show gd (fV (o.length+1) 8) _=_;rw[bt (by omega) (by omega)];show O (Sum.inl (zH zI ((i:Int)+1),_))=_;rw[Zi];rfl
  .rfl
  .rfl
 .unfold fY;refine cl m ?_;show cond (Zc ((0:Int)≠0)) _ _=_;rw[zA (by simp),zD];refine cl (as7 h g e0) ?_;simp only[cb,gH];refine cl b ?_;refine cl p ?_;rfl
theorem ao2 (g:c.mode=1)(u:1<=c.ns)(e0:fi c.mode c.X.length c.T.length c.R c.l c.Q c.k c.len c.words=(c.fixed,c.tp,c.sl,c.ns,0))(e:cs.length<=1000000)(m:ie w=O (c.mode,c.R,c.l,c.Q,c.k,c.len,c.words,cs,0,c.X,c.T,bs))(hl:l<=40)(r:c.mode=2->bs.length=l)(H:Way c l 0 Zb (qF c) es f en s)(F:LZ c l f en s es):
  iq w=O (Ys c s (nW es).length)/\fY w=O (0,nW es):=by
 have y:=jZ h;have A:=H.well h y;rw[cK]at A;have B:qF c=new2 c:=by unfold qF;rw[Zh]
 have b:=OD h g e0 e bs 0 (i:=0) (by omega) y Cm;have d:=ad7 h g u e0 e hl r H F;have p:=U3 h g u e0 e hl r H F;rw[B]at b d p;have I:=h.num.x;have J:=h.num.t;have j:gm c.mode c.X c.T c.R c.l c.Q c.k c.len c.words=O (fi c.mode c.X.length c.T.length c.R c.l c.Q c.k c.len c.words):=Be h.hl h.hk;rw[e0]at j;refine⟨?_, ?_⟩
 .unfold iq;refine cl m ?_;show cond (Zc ((0:Int)≠0)) _ _=_;rw[zA (by simp),zD];refine cl (as8 h g e0) ?_;simp only[cb,gH];refine cl b ?_;refine cl d ?_;have K:=CA h A;refine cl (a:=(s.z,0,seg s.W (c.off 5) c.X.length,seg s.W (c.off 6) c.T.length)) ?_ ?_
  .show gz _ _ _ _ _ _ _ _ _ _ _ _ _ _ _ _ _ _ _ _ _ _ _ _ _ _ _ _ _ _ _ _ _=_;unfold gz;rw[Uv h K.1];unfold F9;rw[zF (by rw[F.q];simp)];rfl
  refine cl j ?_;have D:(seg s.W (c.off 5) c.X.length).length<=64:=bB (by unfold seg;rw[aB];omega) (show c.X.length<=64 by omega);have E:(seg s.W (c.off 6) c.T.length).length<=64:=bB (by unfold seg;rw[aB];omega) (show c.T.length<=64 by omega);refine cl (ED (l:=[seg s.W (c.off 5) c.X.length,seg s.W (c.off 6) c.T.length]) (by simp) (by simp;omega)) ?_
  have C:(nX [seg s.W (c.off 5) c.X.length,seg s.W (c.off 6) c.T.length]).length<=200:=by
   unfold nX;simp;omega
  rw[bt (by omega) (by omega)];refine cl (show md _ _ _ _ _ _ _ _ _ _ _ _ _ _ _ _ _ _ _ _ _ _ _ _ _ _ _ _ _ _ _ _ _=O (s.c0,s.c1,s.c2,s.c3)from rfl) ?_;refine cl (show fE _ _ _ _ _ _ _ _ _ _ _ _ _ _ _ _ _ _ _ _ _ _ _ _ _ _ _ _ _ _ _ _ _=O s.L from rfl) ?_;refine cl (show na _ _ _ _ _ _ _ _ _ _ _ _ _ _ _ _ _ _ _ _ _ _ _ _ _ _ _ _ _ _ _ _ _=O s.pk from rfl) ?_;refine cl (LA (v:=[s.L,c.ns,s.c0,s.c1,s.c2,s.c3,s.pk,((nW es).length:Int)]) (λi o hi M=> ?_) (λo=> ?_) (by rw[aD];simp only[bD,cD];omega)) ?_
  .show cond (Zc ((i:Int)<8)) ((ix (i:Int) 8).bind _) _=_;rw[Zf,zC];refine cl (bp hi) ?_;show gd (fV (o.length+1) 8) _=_;rw[bt (by omega) (by omega)];show O (Sum.inl (zH zI ((i:Int)+1),_))=_;rw[Zi];rfl
  .rfl
  .rfl
 .unfold fY;refine cl m ?_;show cond (Zc ((0:Int)≠0)) _ _=_;rw[zA (by simp),zD];refine cl (as8 h g e0) ?_;simp only[cb,gH];refine cl b ?_;refine cl p ?_;rfl
theorem ao3 (g:c.mode=2)(u:1<=c.ns)(e0:fi c.mode c.X.length c.T.length c.R c.l c.Q c.k c.len c.words=(c.fixed,c.tp,c.sl,c.ns,0))(e:cs.length<=1000000)(m:ie w=O (c.mode,c.R,c.l,c.Q,c.k,c.len,c.words,cs,0,c.X,c.T,bs))(hl:l<=40)(r:c.mode=2->bs.length=l)(H:Way c l 0 Zb (qF c) es f en s)(F:LZ c l f en s es):
  iq w=O (Ys c s (nW es).length)/\fY w=O (0,nW es):=by
 have y:=jZ h;have A:=H.well h y;rw[cK]at A;have B:qF c=new2 c:=by unfold qF;rw[Zh]
 have b:=OE h g e0 e bs 0 (i:=0) (by omega) y Cm;have d:=ad8 h g u e0 e hl r H F;have p:=U4 h g u e0 e hl r H F;rw[B]at b d p;have I:=h.num.x;have J:=h.num.t;have j:gm c.mode c.X c.T c.R c.l c.Q c.k c.len c.words=O (fi c.mode c.X.length c.T.length c.R c.l c.Q c.k c.len c.words):=Be h.hl h.hk;rw[e0]at j;refine⟨?_, ?_⟩
 .unfold iq;refine cl m ?_;show cond (Zc ((0:Int)≠0)) _ _=_;rw[zA (by simp),zD];refine cl (as9 h g e0) ?_;simp only[cb,gH];refine cl b ?_;refine cl d ?_;have K:=CA h A;refine cl (a:=(s.z,0,seg s.W (c.off 5) c.X.length,seg s.W (c.off 6) c.T.length)) ?_ ?_
  .show gA _ _ _ _ _ _ _ _ _ _ _ _ _ _ _ _ _ _ _ _ _ _ _ _ _ _ _ _ _ _ _ _ _=_;unfold gA;rw[Uv h K.1];unfold F9;rw[zF (by rw[F.q];simp)];rfl
  refine cl j ?_;have D:(seg s.W (c.off 5) c.X.length).length<=64:=bB (by unfold seg;rw[aB];omega) (show c.X.length<=64 by omega);have E:(seg s.W (c.off 6) c.T.length).length<=64:=bB (by unfold seg;rw[aB];omega) (show c.T.length<=64 by omega);refine cl (ED (l:=[seg s.W (c.off 5) c.X.length,seg s.W (c.off 6) c.T.length]) (by simp) (by simp;omega)) ?_
  have C:(nX [seg s.W (c.off 5) c.X.length,seg s.W (c.off 6) c.T.length]).length<=200:=by
   unfold nX;simp;omega
  rw[bt (by omega) (by omega)];refine cl (show me _ _ _ _ _ _ _ _ _ _ _ _ _ _ _ _ _ _ _ _ _ _ _ _ _ _ _ _ _ _ _ _ _=O (s.c0,s.c1,s.c2,s.c3)from rfl) ?_;refine cl (show fF _ _ _ _ _ _ _ _ _ _ _ _ _ _ _ _ _ _ _ _ _ _ _ _ _ _ _ _ _ _ _ _ _=O s.L from rfl) ?_;refine cl (show nb _ _ _ _ _ _ _ _ _ _ _ _ _ _ _ _ _ _ _ _ _ _ _ _ _ _ _ _ _ _ _ _ _=O s.pk from rfl) ?_;refine cl (LA (v:=[s.L,c.ns,s.c0,s.c1,s.c2,s.c3,s.pk,((nW es).length:Int)]) (λi o hi M=> ?_) (λo=> ?_) (by rw[aD];simp only[bD,cD];omega)) ?_
  .show cond (Zc ((i:Int)<8)) ((ix (i:Int) 8).bind _) _=_;rw[Zf,zC];refine cl (bp hi) ?_;show gd (fV (o.length+1) 8) _=_;rw[bt (by omega) (by omega)];show O (Sum.inl (zH zI ((i:Int)+1),_))=_;rw[Zi];rfl
  .rfl
  .rfl
 .unfold fY;refine cl m ?_;show cond (Zc ((0:Int)≠0)) _ _=_;rw[zA (by simp),zD];refine cl (as9 h g e0) ?_;simp only[cb,gH];refine cl b ?_;refine cl p ?_;rfl
end
theorem Rg (N:jx w)(M:w.length<=1500){q:Hd}(d:CT w= .inr (q,cs,bs))(p:(if q.m≠2 then q.n else(bs.length:Int))<=40)(o:cs.length<=1000000):
  ∃(c:Cx) (s:Dy) (l:List (Int×Int)),c.Ok/\Wd c s.W/\iq w=O (Ys c s l.length)/\fY w=O (0,l)/\1<=l.length/\l.length<=6000:=by
 have j:=IV N M;rw[d]at j
 have u:q.pl=0/\∃r,D4 w= .inr (q,r):=by
  unfold CT at d;split at d
  .cases d
  .split at d
   .cases d
   .rename_i hd' r e;split at d
    .cases d
    .rename_i u;split at d
     .cases d
     .injection d with d
      injection d with y z
      subst y;exact⟨Decidable.not_not.1 u,_,e⟩
 obtain⟨u,r,ed⟩:=u;obtain⟨J,K,g4,g6⟩:=JG N M ed;have hn:=Yv J K u;obtain⟨m,x,t,R,l4,Q,l6,n,b⟩:=q;simp only at j p J K hn;obtain⟨c,g,e0,T,V,X,Z,e5,e6,e7,e8,v⟩:=aU3 J K (show(fi m x.length t.length R l4 Q l6 n b).2.2.2.2=0 from u);subst e0 T V X Z e5 e6 e7 e8;have hmm:=g.num.mode
 obtain⟨l,a,I,A⟩: ∃l:Nat,l<=40/\(c.mode=2->bs.length=l)/\(c.mode≠2->c.len=l):=by
  by_cases z:c.mode=2
  .rw[zF (λk=>k z)]at p;exact⟨bs.length,by omega,λ_=>rfl,λk=>(k z).elim⟩
  .rw[zE z]at p;exact⟨c.len.toNat,by omega,λk=>(z k).elim,λ_=>by omega⟩
 obtain⟨es,f,en,s,H,F⟩:=aq7 g v (show l<=400 by omega) A;have y:=F.one;have h6:=F.le a;have h7:=GA es;have E:=(CA g (H.well g (jZ g))).1;by_cases L:c.mode=3
 .obtain⟨C,D⟩:=ao1 g L v o j a I H F;exact⟨c,s,nW es,g,E,C,D,y,by omega⟩
 have B:=Ye g L v;by_cases hk:c.mode=1
 .obtain⟨C,D⟩:=ao2 g hk B v o j a I H F;exact⟨c,s,nW es,g,E,C,D,y,by omega⟩
 .obtain⟨C,D⟩:=ao3 g (by omega) B v o j a I H F;exact⟨c,s,nW es,g,E,C,D,y,by omega⟩
end
section
open Go.IntKind renaming wrap -> zH, i64 -> zI, u64 -> zJ
open List renaming length_cons -> aB, length_nil -> aD
open Nat renaming ble_eq_true_of_le -> bB
theorem Ip :vw=O Za:=by kernel_rfl
theorem XX (l:List ci):0<=H6 l/\H6 l<=30:=by
 unfold H6 da
 repeat' split
 all_goals simp
theorem TV (m:Int)(x t:Nat)(R:Int)(l:List ci)(Q:Int)(k:List ci)(n b:Int):0<=rb m x t R l Q k n b/\rb m x t R l Q k n b<=30:=by
 have p:0<=lS R l Q k/\lS R l Q k<=30:=by
  have a:=XU l;have e:=XU k;have g:=XV R l;have j:=XV Q k;have o:=XW l;have q:=XW k;have r:=XX l;have u:=XX k;unfold lS
  repeat' split
  all_goals omega
 have d:0<=vQ R Q x t/\vQ R Q x t<=30:=by
  unfold vQ
  repeat' split
  all_goals omega
 unfold rb hk0 hk3 hk4
 repeat' split
 all_goals omega
theorem No {e:Int}(h:CT w= .inl e):1<=e/\e<=30:=by
 unfold CT at h;split at h
 .injection h with h;omega
 .split at h
  .rename_i b a;injection h with h
   have g:=KH a
   have:0<=b/\b<=30:=by
    unfold D4 at a;split at a
    .injection a with a;omega
    .split at a
     .split at a
      .injection a with a;omega
      split at a
      .injection a with a;omega
      split at a
      .injection a with a
       rw[<-a];exact TV _ _ _ _ _ _ _ _ _
      .cases a
     .injection a with a;omega
   omega
  .split at h
   .rename_i d r a j;injection h with h
    rw[<-h]
    have:0<=d.pl/\d.pl<=30:=by
     unfold Hd.pl fi;split
     .exact TV _ _ _ _ _ _ _ _ _
     split<;>simp
    omega
   split at h
   .injection h with h;omega
   .cases h
theorem ap5 (A:jx w): ∃b,uV w=O b/\(b=Za->w.length<=1500/\∀a cs bs,CT w= .inr (a,cs,bs)->(if a.m≠2 then a.n else(bs.length:Int))<=40/\cs.length<=1000000):=by
 unfold uV;by_cases z:(1500:Int)<((w.length:Nat):Int)
 .rw[zB z,zC];exact⟨Zb,rfl,λk=>by cases k⟩
 rw[zA z,zD];have g:=S6 A (by omega);cases e:CT w with
 |inl E=>
  rw[e]at g;have T:=No e;refine⟨Za, ?_,λ_=>⟨by omega,λa cs bs k=>by cases k⟩⟩;refine cl g ?_;show cond (Zc (E≠0)) _ _=_;rw[Zf,zC]
 |inr p=>
  obtain⟨a,cs,bs⟩:=p;rw[e]at g
  obtain⟨r,o⟩: ∃r,D4 w= .inr (a,r):=by
   unfold CT at e;split at e
   .cases e
   .split at e
    .cases e
    .rename_i q r o;split at e
     .cases e
     split at e
     .cases e
     .injection e with e
      injection e with D L
      subst D;exact⟨_,o⟩
  obtain⟨J,K,M,N⟩:=JG A (by omega) o;obtain⟨j,F,_⟩:=ap4 (a0:=a.m) (a1:=a.x) (a2:=a.t) (a3:=a.R) (a5:=a.Q) (a7:=a.n) (a8:=a.b) J.v K.v;by_cases d:(if a.m≠2 then a.n else(bs.length:Int))<=40
  .refine⟨if j then Zc (((cs.length:Nat):Int)<=200)else Zb, ?_,λy=>⟨by omega,λq C B k=> ?_⟩⟩
   .refine cl g ?_;show cond (Zc ((0:Int)≠0)) _ (cond (Zc ((if a.m≠2 then a.n else(bs.length:Int))<=40)) _ _)=_;rw[zA (by simp),zD,zB d,zC];refine cl F ?_;cases j<;>rfl
   .injection k with k
    injection k with H u
    injection u with u I
    subst H u I;refine⟨d, ?_⟩;cases j with
    |false=>cases y
    |true=>have:=of_decide_eq_true y;omega
  .refine⟨Zb, ?_,λk=>by cases k⟩;refine cl g ?_;show cond (Zc ((0:Int)≠0)) _ (cond (Zc ((if a.m≠2 then a.n else(bs.length:Int))<=40)) _ _)=_;rw[zA (by simp),zD,zA d,zD]
def Rr (e:Int):Zd:=if e<10 then [48+e]else [48+e / 10,48+e % 10]
theorem Y5 {e:Int}(a:1<=e/\e<=30)(h:ie w=O (0,0,[],0,[],0,0,[],e,[],[],[])):
  Bq (zH zJ e)=O (Rr e)/\(Rr e).length<=2/\vb w=O (([101,114,114,111,114,32]++Rr e)++[10]):=by
 have:e=1∨e=2∨e=3∨e=4∨e=5∨e=6∨e=7∨e=8∨e=9∨e=10∨e=11∨e=12∨e=13∨e=14∨e=15∨e=16∨e=17∨e=18∨e=19∨e=20∨e=21∨e=22∨e=23∨e=24∨e=25∨e=26∨e=27∨e=28∨e=29∨e=30:=by omega
 rcases this with rfl|rfl|rfl|rfl|rfl|rfl|rfl|rfl|rfl|rfl|rfl|rfl|rfl|rfl|rfl|rfl|rfl|rfl|rfl|rfl|rfl|rfl|rfl|rfl|rfl|rfl|rfl|rfl|rfl|rfl
 all_goals
  unfold vb;rw[h];exact⟨by kernel_rfl,by decide,by kernel_rfl⟩
theorem Y8 (B:jx w):Ah w=O Za:=by
 unfold Ah;obtain⟨b,hs,E⟩:=ap5 B;refine cl hs ?_;cases b with
 |false=>exact cl Ip rfl
 |true=>
  obtain⟨F,A⟩:=E rfl;rw[Bool.not_true,zD];have g:=IV B F;cases e:CT w with
  |inl d=>
   rw[e]at g;have he:=No e;obtain⟨t1,t2,t3⟩:=Y5 he g
   have r:iq w=O [zH zJ d]:=by
    unfold iq;refine cl g ?_;show cond (Zc (d≠0)) _ _=_;rw[Zf,zC]
   have u:fY w=O (d,[]):=by
    unfold fY;refine cl g ?_;show cond (Zc (d≠0)) _ _=_;rw[Zf,zC]
   refine cl r ?_;refine cl u ?_;show cond (Zc (d≠0)) _ _=_;rw[Zf,zC];show cond (Zc ((([zH zJ d].length:Nat):Int)=1)) ((ix 0 1).bind _) _=_;rw[zB (show(([zH zJ d].length:Nat):Int)=1 from rfl),zC];refine cl (a:=0) rfl ?_;refine cl (a:=zH zJ d) rfl ?_;show cond (Zc (zH zJ d=zH zJ d)) (cond (Zc (((([]:List (Int×Int)).length:Nat):Int)=0)) _ _) _=_;rw[zB rfl,zC,zB (show((([]:List (Int×Int)).length:Nat):Int)=0 from rfl),zC];refine cl t3 ?_;refine cl t1 ?_
   have Z:Bj ([101,114,114,111,114,32]:Zd).length (Rr d).length=Za:=by
    unfold Bj;simp only[aB,aD];exact bB (by omega)
   have f2:Bj (([101,114,114,111,114,32]:Zd)++Rr d).length ([10]:Zd).length=Za:=by
    unfold Bj;rw[List.length_append];simp only[aB,aD];exact bB (by omega)
   rw[Z,bz,f2,bz,zB rfl,zC];exact cl Ip rfl
  |inr p=>
   obtain⟨hd,cs,bs⟩:=p;obtain⟨q,v⟩:=A hd cs bs e;obtain⟨c,s,l,m,D,r,u,h1,h6⟩:=Rg B F e q v;refine cl r ?_;refine cl u ?_;show cond (Zc ((0:Int)≠0)) _ _=_;rw[zA (by simp),zD];have hx1:=m.num.x;have hx2:=m.num.t;have l5:(seg s.W (c.off 5) c.X.length).length=c.X.length:=fg (D.in' m (i:=5) (by omega));have l6:(seg s.W (c.off 6) c.T.length).length=c.T.length:=fg (D.in' m (i:=6) (by omega))
   have C: ∀(a:Zd) (I J K M N Q V n:Int),3<=a.length->a.length<=200->∃o,([0,s.z]++a)++[I,J,K,M,N,Q,V,n]=o/\o.length=a.length+10/\o[0]?=O 0/\o[a.length+9]?=O n:=by
    intro a I J K M N Q V n ha E;refine⟨_,rfl,by simp,rfl, ?_⟩;rw[List.getElem?_append_right (by simp)];have:a.length+9-([0,s.z]++a).length=7:=by simp
    rw[this];rfl
   have j:(nX [seg s.W (c.off 5) c.X.length,seg s.W (c.off 6) c.T.length]).length=2+c.X.length+c.T.length:=by
    unfold nX;simp;omega
   obtain⟨o,y,o1,o2,H⟩:=C (nX [seg s.W (c.off 5) c.X.length,seg s.W (c.off 6) c.T.length]) (zH zJ s.L) (zH zJ c.ns) (zH zJ s.c0) (zH zJ s.c1) (zH zJ s.c2) (zH zJ s.c3) (zH zJ s.pk) (zH zJ (l.length:Int)) (by rw[j];omega) (by rw[j];omega);have y:Ys c s l.length=o:=y;rw[y];rw[j]at o1 H;rw[zB (show(12:Int)<((o.length:Nat):Int)by omega),zC];refine cl (bp (k:=0) (n:=o.length) (by omega)) ?_;refine cl o2 ?_;rw[zB rfl,zC];rw[show zH zI (((o.length:Nat):Int)-1)=((2+c.X.length+c.T.length+9:Nat):Int)by rw[Zi];omega];refine cl (bp (k:=2+c.X.length+c.T.length+9) (n:=o.length) (by omega)) ?_;refine cl H ?_;show cond (Zc (zH zJ (l.length:Int)=zH zJ (l.length:Int))) (cond (Zc ((0:Int)<((l.length:Nat):Int))) _ _) _=_;rw[zB rfl,zC,Zf,zC];exact cl Ip rfl
end
end Go.V
