/- A part of the proof. No condition. -/
import Derived.Test.YtlkdfancfgakdaaGreatL3
set_option linter.unusedVariables false
set_option linter.unusedSimpArgs false
set_option linter.unusedSectionVars false
namespace Go.V
open Go.Ab
open Option renaming some->O,none->Y
open Bool renaming true->Za,false->Zb
open Decidable renaming decide->Zc
variable {s:Dy}{N i l:Nat}{en:Bool}{f:Fo}{a ks r x:Zd}{w:List Bool}{es:List Ev}{v:Int}{o:bg}
set_option maxRecDepth 100000
section
open List renaming length_append -> aB, length_cons -> bB, length_map -> bD, length_replicate -> cB, replicate -> cD, drop_replicate -> dB, replicate_append_replicate -> dD, take_replicate -> eD
open Nat renaming le_refl -> aD
section
variable {c:Cx}
theorem Qc {o n:Nat}(h:o+n<=N):seg (cq N) o n=cq n:=by
 unfold seg cq;rw[dB,eD,Nat.min_eq_left (by omega)]
theorem YI {o n:Nat}(h:o+n<=N):put (cq N) o (cq n)=cq N:=by
 unfold put cq;rw[eD,dB,cB,dD,dD,Nat.min_eq_left (by omega)]
 congr 1
 omega
theorem ax7 (h:c.Ok)(wT:ck c.T)(wX:ck c.X):Has c (Rq c (cq c.words.toNat)) c.X (cq c.X.length) (cq c.T.length):=by
 have e:Wd c (cq c.words.toNat):=cg _;have g:=e.tk h;rw[cg]at g;have y:=i7 (c:=c) (show 5<9 by omega);have z:=i7 (c:=c) (show 6<9 by omega);have u:=i7 (c:=c) (show 0<9 by omega);have p:c.T.length<=c.sz 0:=aD _;have q:=e.put h (o:=c.off 0) (w:=c.T) (by have:c.sz 0=c.T.length:=rfl;omega);unfold Rq
 have H0:Has c (put (cq c.words.toNat) (c.off 0) c.T) (seg (put (cq c.words.toNat) (c.off 0) c.T) (c.off 1) c.X.length) (cq c.X.length) (cq c.T.length):=by
  refine⟨q,(ck.rep _).put wT _, ?_,rfl, ?_, ?_⟩
  .exact xF (Qf h e (by omega) p)
  .rw[BY h e (n:=c.X.length) (i:=0) (j:=5) (by omega) (by omega) (by omega) (aD _) p];exact Qc (by have:c.sz 5=c.X.length:=rfl;omega)
  .rw[BY h e (n:=c.T.length) (i:=0) (j:=6) (by omega) (by omega) (by omega) (aD _) p];exact Qc (by have:c.sz 6=c.T.length:=rfl;omega)
 exact H0.put1 h rfl wX
end
section
variable {c:Cx} (h:c.Ok)
include h
theorem al2 (u:c.mode=2)(U:1<=c.ns)(B:c.len=0){l:Nat}(M:l<=40): ∀k,k<=l->∃s es,Way c l 0 Zb (new2 c) es k Zb s/\tL c s=⟨k,k,-1,(ff c.ns.toNat k).2⟩/\es.length=(ff c.ns.toNat k).1.length+k/\(BI es).length=(ff c.ns.toNat k).1.length
 |0,K=>by
  have y:=ah7 h (by omega);rw[B]at y;have w0:=tf h;unfold A1 at w0;rw[Zh]at w0;have e: ∀s,vx c Zb s=uP Zb (tL c s):=λs=>by unfold vx;rw[Zh,zE u]
  obtain⟨s,z,j⟩:=Mx h (l:=l) (f:=0) (by omega) e (Wo (s:=c.ns.toNat) (by omega)).1 (new2 c) y w0;exact⟨s,_,z,j,by rw[bD,Nat.add_zero],by rw[Gk]⟩
 |k+1,K=>by
  obtain⟨s,es,z,j,e1,D⟩:=al2 u U B M k (by omega);have e: ∀s,vx c Zb s=uP Zb (tL c s):=λs=>by unfold vx;rw[Zh,zE u]
  have g:(ff c.ns.toNat (k+1)).1.length=(ff c.ns.toNat k).1.length+([(1,1)]++(xY (k+1) (ff c.ns.toNat k).2).1).length:=by
   show((ff c.ns.toNat k).1++[(1,1)]++(xY (k+1) (ff c.ns.toNat k).2).1).length=_;rw[List.append_assoc,aB]
  have C:=MT (s:=c.ns.toNat) (k:=k) (by omega) (by omega);rw[<-j]at C;have A:s.q= -1:=congrArg Mc.q j;have E:s.L=(k:Int):=congrArg Mc.L j;have F:s.p=(k:Int):=congrArg Mc.p j;have H:rm c s.W=(ff c.ns.toNat k).2:=congrArg Mc.t j;have w0:=tf h;unfold A1 at w0;rw[Zh]at w0;have w1:=z.well h w0;have w2:=Fa h w1 u A (by omega)
  have I:tL c (HQ s)=⟨(k:Int)+1,k,-1,(ff c.ns.toNat k).2⟩:=by
   show Mc.mk (s.L+1) s.p s.q (rm c s.W)=_;rw[E,F,A,H]
  obtain⟨Z,V,J⟩:=Mx h (l:=l) (f:=k+1) (by omega) e (Wp (s:=c.ns.toNat) (k:=k) (by omega) (by omega)).1 (HQ s) I w2;refine⟨Z,es++ .more::([(1,1)]++(xY (k+1) (ff c.ns.toNat k).2).1).map .act,z.app (.more u ((e s).trans C) A (by omega) (by omega) V),J, ?_, ?_⟩
  .rw[aB,bB,bD,e1,g];omega
  .rw[Dz];show(BI es++BI (([(1,1)]++(xY (k+1) (ff c.ns.toNat k).2).1).map .act)).length=_;rw[Gk,aB,D,g]
theorem aO0 (p:c.mode=2):c.len=0:=by
 have hc:=h.hc;have j:=h.num.len;unfold Cf at hc;split at hc
 .rename_i k;exact absurd hc k
 split at hc
 .rename_i k;exact absurd hc k
 split at hc
 .rename_i k;exact absurd hc k
 split at hc
 .rename_i k;exact absurd hc k
 rename_i k;unfold hk3 at k;rw[zE p]at k;by_cases e:c.len<0
 .omega
 by_cases g:0<c.len
 .rw[zF e,zE g]at k;omega
 .omega
structure Fin (c:Cx)(l:Nat)(f:Nat)(en:Bool)(s:Dy)(es:List Ev):Prop where
 no:vx c en s=Y
 q:s.q=0
 L:s.L=l
 len:es.length<=6000
 one:1<=(BI es).length
 en:c.mode=2->en=Za
theorem RY (e:pm c.mode c.X.length c.T.length c.R c.l c.Q c.k c.len c.words=(c.fixed,c.tp,c.sl,c.ns,0))(hl:l<=40)(u:c.mode≠2->c.len=l): ∃es f en s,Way c l 0 Zb (A1 c) es f en s/\Fin c l f en s es:=by
 have nm:=h.num.mode;have w0:=tf h;have hns:=h.ns;by_cases g:c.mode=3
 .have K:=u (by omega);have I:A1 c=new1 c:=by unfold A1;rw[zE g]
  rw[I]at w0⊢;obtain⟨j,y,q1,p1,L1⟩:=Pj h (l:=l) (f:=0) g l (new1 c) w0 rfl (by show c.len-0=_;omega);have L1:j.L=c.len:=L1;have p1:j.p=c.len:=p1;have D:=y.well h w0
  have e1:vx c Zb j=O (5,0):=by
   unfold vx nxB;rw[zE g,Zg,Zh]
  have W:(HA c 5 0 j).1=0/\(HA c 5 0 j).2.q=j.L/\(HA c 5 0 j).2.L=j.L:=by
   unfold HA;rw[Zh,zE rfl,Zh,Zh,Zh];exact⟨rfl,rfl,rfl⟩
  have mm:Ae c (5,0) j:=by
   unfold Ae;rw[zE g];exact W.1
  have Z:wk c (5,0) j=(HA c 5 0 j).2:=by unfold wk;rw[zE g]
  have E:=yD h D e1 mm;obtain⟨H,r2,q2,L2⟩:=Ph h (l:=l) (f:=0) g l (wk c (5,0) j) E (by rw[Z];omega);rw[Z]at L2;refine⟨_,_,_,H,y.app (.act e1 mm r2), ?_,q2,by omega, ?_, ?_,λk=>by omega⟩
  .unfold vx nxB;rw[zE g,Zh,Zh]
  .rw[aB,bB,cB,cB];omega
  .rw[Dz,aB];show 1<=_+(BI (cD l (Ev.act (9,0)))).length.succ;omega
 have hn:=Vx h g e;have I:A1 c=new2 c:=by unfold A1;rw[zF g]
 rw[I]at w0⊢;by_cases h1:c.mode=1
 .have K:=u (by omega);have C: ∀s,vx c Zb s=DO (tL c s):=λs=>by unfold vx;rw[zF g,Zh]
  obtain⟨m',R,U,V,hR⟩:=aE0 (l:=l) (s:=c.ns.toNat) (by omega) (by omega);have B:=ah7 h g;rw[K]at B;obtain⟨s,y,A⟩:=Mx h (l:=l) (f:=0) g C R (new2 c) B w0;have D:=y.well h w0;refine⟨_,_,_,s,y,(C s).trans (by rw[A];exact U), ?_, ?_,by rw[bD];omega, ?_,λk=>by omega⟩
  .rw[<-V,<-A];rfl
  .have E:=D;unfold dg at E;rw[zF g]at E;exact(E.len (by omega)).trans K
  .rw[Gk];by_cases c0:l=0
   .rw[zE c0];exact aD _
   .rw[zF c0]at R⊢;generalize pt (2*l) Zb l c.ns.toNat 0 (cD c.ns.toNat Zb) Za=k at R⊢;cases k with
    |nil=>
     exfalso;generalize hM:(⟨(l:Int),0,-1,cD c.ns.toNat (-1)⟩:Mc)=M at R;cases R;rw[<-hM]at V;have:(-1:Int)=0:=V;omega
    |cons _ _=>exact Nat.succ_le_succ (Nat.zero_le _)
 .have F:c.mode=2:=by omega
  have z: ∀en s,vx c en s=uP en (tL c s):=λen s=>by unfold vx;rw[zF g,zE F]
  have hal:=MS c.ns.toNat l;have hbd:(l+1)*(l+2)<=41*42:=Nat.mul_le_mul (by omega) (by omega);have hbk:=Wr (zT l (ff c.ns.toNat l).2.length) (ff c.ns.toNat l).2 l
  have hbl:(Pg l (ff c.ns.toNat l).2).length<=4*l+2/\1<=(Pg l (ff c.ns.toNat l).2).length:=by
   unfold Pg frB;rw[bB,aB];split
   .rw[List.length_singleton];omega
   .rw[List.length_nil];omega
  obtain⟨s,es,y,A,e1,W⟩:=al2 h F hn (aO0 h F) hl l (aD _);have hx:=MT (s:=c.ns.toNat) (k:=l) (by omega) (by omega);rw[<-A]at hx;obtain⟨b1,b2⟩:=ab6 (l:=l) (s:=c.ns.toNat) (by omega) (by omega);have D:=y.well h w0;obtain⟨H,r3,J⟩:=Mx h (l:=l) (f:=l+1) g (z Za) b1 s A D;refine⟨_,_,_,H,y.app (.stop F ((z Zb s).trans hx) (congrArg Mc.q A) rfl r3),(z Za H).trans (by rw[J];exact b2),congrArg Mc.q J,congrArg Mc.L J, ?_, ?_,λ_=>rfl⟩
  .rw[aB,bB,bD,e1];omega
  .rw[Dz,aB];show 1<=_+(BI ((Pg l (ff c.ns.toNat l).2).map .act)).length;rw[Gk];omega
theorem aN6 (wT:ck c.T)(wX:ck c.X):JE c (A1 c):=by
 have z:Wd c (cq c.words.toNat):=cg _;have p:=z.tk h;rw[cg]at p;have H:=ax7 h wT wX;unfold JE A1;by_cases j:c.mode=3
 .simp only[zE j];exact⟨⟨_,_,H,λ_=>rfl,λg=>by have g:(0:Int)<= -1:=g;omega⟩,λi hi=>by have hi:(i:Int)<0:=hi;omega⟩
 .simp only[zF j];have e:put (cq c.words.toNat) (c.off 8) (cq (c.sl*c.ns).toNat)=cq c.words.toNat:=YI (by have:=Tt (c:=c);omega)
  have q:(new2 c).W=Rq c (cq c.words.toNat):=by
   show Rq c (put (cq c.words.toNat) (c.off 8) (cq (c.sl*c.ns).toNat))=_;rw[e]
  refine⟨⟨cq c.X.length,cq c.T.length,by rw[q];exact H,λ_=>rfl,λg=>by have g:(0:Int)<= -1:=g;omega⟩,λk u y=> ?_⟩;rw[Jv h j u]at y;omega
end
end
section
section
variable {c:Cx}
theorem ae1 (s:Dy)(m:Int)(a b:Bool):qJ m a b c.fixed c.tp c.sl c.ns c.mode c.R c.Q c.len c.words s.L s.p s.q s.c0 s.c1 s.c2 s.c3 s.z c.X c.T c.l c.k c.P c.tk s.lv s.pk c.words s.W=O (s.p,s.q):=rfl
theorem Xo (h:c.Ok)(g:c.mode≠3)(s:Dy)(e:Wd c s.W)(j: ∀k,k<c.ns.toNat->0<=mb c s.W k/\mb c s.W k<=65536):dp c.fixed c.tp c.sl c.ns c.mode c.R c.Q c.len c.words s.L s.p s.q s.c0 s.c1 s.c2 s.c3 s.z c.X c.T c.l c.k c.P c.tk (c.off 8:Int) c.ns (c.X.length:Int) s.lv s.pk c.words s.W=O (s.p,s.q,rm c s.W):=by
 unfold dp;rw[RN h g e j];rfl
theorem aL6 (h:c.Ok)(g:c.mode≠3)(s:Dy)(hi:Inv c s)(m:Int)(a b:Bool):iy m a b c.fixed c.tp c.sl c.ns c.mode c.R c.Q c.len c.words s.L s.p s.q s.c0 s.c1 s.c2 s.c3 s.z c.X c.T c.l c.k c.P c.tk (c.off 8:Int) c.ns (c.X.length:Int) s.lv s.pk c.words s.W=O (s.p,s.q,rm c s.W):=by
 unfold iy;exact me (Xo h g s hi.w λk e=>by have:=hi.tag k e;have:=hi.L;omega) rfl
theorem aL7 (h:c.Ok)(g:c.mode≠3)(s:Dy)(hi:Inv c s)(m:Int)(a b:Bool):iz m a b c.fixed c.tp c.sl c.ns c.mode c.R c.Q c.len c.words s.L s.p s.q s.c0 s.c1 s.c2 s.c3 s.z c.X c.T c.l c.k c.P c.tk (c.off 8:Int) c.ns (c.X.length:Int) s.lv s.pk c.words s.W=O (s.p,s.q,rm c s.W):=by
 unfold iz;exact me (Xo h g s hi.w λk e=>by have:=hi.tag k e;have:=hi.L;omega) rfl
end
end
section
open Bool renaming not_true -> aB
section
variable {c:Cx} (h:c.Ok)
def QE (c:Cx)(en:Bool)(s:Dy):Prop:=(c.mode≠2->en=Zb)/\(0<=s.q->c.mode=2->en=Za)
theorem VI :QE c Zb (A1 c):=⟨λ_=>rfl,λe _=>by
 have:(A1 c).q= -1:=by unfold A1;split<;>rfl
 omega⟩
include h
theorem aP7 (w:dg c i s)(Q:QE c en s){a:Int×Int}(e:vx c en s=O a)(m:Ae c a s):QE c en (wk c a s):=by
 refine⟨Q.1,λp u=> ?_⟩;by_cases B:0<=s.q
 .exact Q.2 B u
 have y: ¬c.mode=3:=by omega
 unfold vx at e;unfold Ae at m;unfold wk at p;unfold dg at w;rw[zF y]at e m p w;rw[zE u]at e;obtain⟨z,m⟩:=m;have f:=(Mh h y w.inv m).2;have C:(Fp c a.1 a.2 s).2.q=z.q:=congrArg Mc.q f
 have j:a.1=1∨a.1=2∨a.1=4∨en=Za:=by
  unfold uP at e;simp only at e;rw[zE (show(tL c s).q<0 by show s.q<0;omega)]at e;split at e
  .injection e with e;subst e;exact .inl rfl
  .split at e
   .injection e with e;subst e;exact .inr (.inr (.inl rfl))
   .split at e
    .injection e with e;subst e;exact .inr (.inl rfl)
    .split at e
     .rename_i A;exact .inr (.inr (.inr A))
     .cases e
 have g:a.1=1∨a.1=2∨a.1=4->z.q=s.q:=λk=>by
  unfold LY at m;rcases k with k|k|k
  all_goals
   rw[k]at m;simp only[Int.reduceEq,if_false,if_true]at m;split at m
   .injection m with m;subst m;rfl
   .cases m
 rcases j with k|k|k|k
 .have:=g (.inl k);omega
 .have:=g (.inr (.inl k));omega
 .have:=g (.inr (.inr k));omega
 .exact k
theorem UX (s:Dy)(g:Int)(en e:Bool):qK g en e c.fixed c.tp c.sl c.ns c.mode c.R c.Q c.len c.words s.L s.p s.q s.c0 s.c1 s.c2 s.c3 s.z c.X c.T c.l c.k c.P c.tk s.lv s.pk c.words s.W=O (match nxB s with|some a=>(a.1,Za)|none=>(0,Zb)):=by
 unfold qK;refine me (ae1 s g en e) ?_;rw[show uJ g en e c.fixed c.tp c.sl c.ns c.mode c.R c.Q c.len c.words s.L s.p s.q s.c0 s.c1 s.c2 s.c3 s.z c.X c.T c.l c.k c.P c.tk s.lv s.pk c.words s.W=O s.L from rfl];unfold nxB;by_cases c1:s.q<0
 .by_cases c2:s.p<s.L
  .simp only[zG,zB c1,zC,zB c2,zE c1,zE c2]
  .simp only[zG,zB c1,zC,zA c2,zE c1,zF c2,zD]
 .by_cases c2:0<s.q
  .simp only[zG,zA c1,zC,zB c2,zF c1,zE c2,zD]
  .simp only[zG,zA c1,zC,zA c2,zF c1,zF c2,zD]
omit h in
theorem aI4 {a:Int×Int}(e:nxB s=O a):a.2=0:=by
 unfold nxB at e;split at e
 .split at e<;>(injection e with e;subst e;rfl)
 .split at e
  .injection e with e;subst e;rfl
  .cases e
omit h in
theorem aA5 (e:c.mode=3)(en:Bool)(s:Dy):vx c en s=nxB s:=by unfold vx;rw[zE e]
theorem bk3 (g:c.mode=3)(A:i<=1000000)(w:dg c i s){a:Int×Int}(e:vx c en s=O a)(m:Ae c a s):
  ik c.mode en Zb c.fixed c.tp c.sl c.ns c.mode c.R c.Q c.len c.words s.L s.p s.q s.c0 s.c1 s.c2 s.c3 s.z c.X c.T c.l c.k c.P c.tk s.lv s.pk c.words s.W=O (a.1,Za,0,c.fixed,c.tp,c.sl,c.ns,c.mode,c.R,c.Q,c.len,c.words,(wk c a s).L,(wk c a s).p,(wk c a s).q,(wk c a s).c0,(wk c a s).c1,(wk c a s).c2,(wk c a s).c3,(wk c a s).z,(wk c a s).lv,(wk c a s).pk,c.words,(wk c a s).W):=by
 have j:=w;unfold dg at j;rw[zE g]at j;rw[aA5 g]at e;have u:=aI4 e;unfold Ae at m;rw[zE g,u]at m;have y:wk c a s=(HA c a.1 0 s).2:=by unfold wk;rw[zE g,u]
 unfold ik;rw[zD];refine me (UX h s c.mode en Zb) ?_;rw[e];show cond (!Za) _ _=_;rw[aB,zD];refine me (do1 h g j.inv j.cnt (by omega)) ?_;show cond (Zc ((HA c a.1 0 s).1≠0)) _ _=_;rw[m,y];rfl
theorem bk1 (g:c.mode=3)(w:dg c i s)(e:vx c en s=Y):
  ik c.mode en Zb c.fixed c.tp c.sl c.ns c.mode c.R c.Q c.len c.words s.L s.p s.q s.c0 s.c1 s.c2 s.c3 s.z c.X c.T c.l c.k c.P c.tk s.lv s.pk c.words s.W=O (0,Zb,0,c.fixed,c.tp,c.sl,c.ns,c.mode,c.R,c.Q,c.len,c.words,s.L,s.p,s.q,s.c0,s.c1,s.c2,s.c3,s.z,s.lv,s.pk,c.words,s.W):=by
 have j:=w;unfold dg at j;rw[zE g]at j;rw[aA5 g]at e;unfold ik;rw[zD];refine me (UX h s c.mode en Zb) ?_;rw[e];rfl
theorem aZ3 (e:c.mode=3)(w:dg c i s):
  mn c.mode en Zb c.fixed c.tp c.sl c.ns c.mode c.R c.Q c.len c.words s.L s.p s.q s.c0 s.c1 s.c2 s.c3 s.z c.X c.T c.l c.k c.P c.tk s.lv s.pk c.words s.W=O (vx c en s).isNone:=by
 have g:=w;unfold dg at g;rw[zE e]at g;rw[aA5 e];unfold mn;rw[zD];refine me (UX h s c.mode en Zb) ?_;cases nxB s<;>rfl
theorem bk7 (e:c.mode=3)(w:dg c i s):
  mj c.mode en Zb c.fixed c.tp c.sl c.ns c.mode c.R c.Q c.len c.words s.L s.p s.q s.c0 s.c1 s.c2 s.c3 s.z c.X c.T c.l c.k c.P c.tk s.lv s.pk c.words s.W=O ((vx c en s).isNone&&(Zc (c.mode=2)&& !en)):=by
 unfold mj;refine me (aZ3 h e w) ?_;cases(vx c en s).isNone<;>cases Zc (c.mode=2)<;>cases en<;>rfl
theorem bi3 (e:c.mode=3)(w:dg c i s):
  nr c.mode en Zb c.fixed c.tp c.sl c.ns c.mode c.R c.Q c.len c.words s.L s.p s.q s.c0 s.c1 s.c2 s.c3 s.z c.X c.T c.l c.k c.P c.tk s.lv s.pk c.words s.W=O ((vx c en s).isNone&&Zc (s.q=0)):=by
 have g:=w;unfold dg at g;rw[zE e]at g;unfold nr;refine me (aZ3 h e w) ?_;cases(vx c en s).isNone with
 |false=>rfl
 |true=>
  rw[zC];refine me (ae1 s c.mode en Zb) ?_;rfl
omit h in
theorem aO7 (e:c.mode=1)(en:Bool)(s:Dy):vx c en s=DO (tL c s):=by unfold vx;rw[Zh,Zh]
theorem bk4 (A:c.mode=1)(B:1<=c.ns)(y:i<=1000000)(w:dg c i s){a:Int×Int}(e:vx c en s=O a)(m:Ae c a s):
  gh c.mode en Zb c.fixed c.tp c.sl c.ns c.mode c.R c.Q c.len c.words s.L s.p s.q s.c0 s.c1 s.c2 s.c3 s.z c.X c.T c.l c.k c.P c.tk (c.off 8:Int) c.ns (c.X.length:Int) s.lv s.pk c.words s.W=O (a.1,a.2,Za,0,c.fixed,c.tp,c.sl,c.ns,c.mode,c.R,c.Q,c.len,c.words,(wk c a s).L,(wk c a s).p,(wk c a s).q,(wk c a s).c0,(wk c a s).c1,(wk c a s).c2,(wk c a s).c3,(wk c a s).z,(wk c a s).lv,(wk c a s).pk,c.words,(wk c a s).W):=by
 have g:=w;unfold dg at g;rw[Zh]at g;rw[aO7 A]at e;unfold Ae at m;rw[Zh]at m;obtain⟨C,m⟩:=m;have u:=(Mh h (by omega) g.inv m).1;have j:wk c a s=(Fp c a.1 a.2 s).2:=by unfold wk;rw[Zh]
 unfold gh;rw[zD];refine me (VA h (by omega) B g.inv c.mode en Zb) ?_;rw[e];show cond (!Za) _ _=_;rw[aB,zD];refine me (do2 h (by omega) g.inv g.cnt (by omega)) ?_;show cond (Zc ((Fp c a.1 a.2 s).1≠0)) _ _=_;rw[u,j];rfl
theorem bk2 (j:c.mode=1)(u:1<=c.ns)(w:dg c i s)(e:vx c en s=Y):
  gh c.mode en Zb c.fixed c.tp c.sl c.ns c.mode c.R c.Q c.len c.words s.L s.p s.q s.c0 s.c1 s.c2 s.c3 s.z c.X c.T c.l c.k c.P c.tk (c.off 8:Int) c.ns (c.X.length:Int) s.lv s.pk c.words s.W=O (0,0,Zb,0,c.fixed,c.tp,c.sl,c.ns,c.mode,c.R,c.Q,c.len,c.words,s.L,s.p,s.q,s.c0,s.c1,s.c2,s.c3,s.z,s.lv,s.pk,c.words,s.W):=by
 have g:=w;unfold dg at g;rw[Zh]at g;rw[aO7 j]at e;unfold gh;rw[zD];refine me (VA h (by omega) u g.inv c.mode en Zb) ?_;rw[e];rfl
theorem aZ4 (g:c.mode=1)(j:1<=c.ns)(w:dg c i s):
  jy c.mode en Zb c.fixed c.tp c.sl c.ns c.mode c.R c.Q c.len c.words s.L s.p s.q s.c0 s.c1 s.c2 s.c3 s.z c.X c.T c.l c.k c.P c.tk (c.off 8:Int) c.ns (c.X.length:Int) s.lv s.pk c.words s.W=O (vx c en s).isNone:=by
 have e:=w;unfold dg at e;rw[Zh]at e;rw[aO7 g];unfold jy;rw[zD];refine me (VA h (by omega) j e.inv c.mode en Zb) ?_;cases DO (tL c s)<;>rfl
theorem bk8 (e:c.mode=1)(g:1<=c.ns)(w:dg c i s):
  jw c.mode en Zb c.fixed c.tp c.sl c.ns c.mode c.R c.Q c.len c.words s.L s.p s.q s.c0 s.c1 s.c2 s.c3 s.z c.X c.T c.l c.k c.P c.tk (c.off 8:Int) c.ns (c.X.length:Int) s.lv s.pk c.words s.W=O ((vx c en s).isNone&&(Zc (c.mode=2)&& !en)):=by
 unfold jw;refine me (aZ4 h e g w) ?_;cases(vx c en s).isNone<;>cases Zc (c.mode=2)<;>cases en<;>rfl
theorem bi4 (g:c.mode=1)(j:1<=c.ns)(w:dg c i s):
  ku c.mode en Zb c.fixed c.tp c.sl c.ns c.mode c.R c.Q c.len c.words s.L s.p s.q s.c0 s.c1 s.c2 s.c3 s.z c.X c.T c.l c.k c.P c.tk (c.off 8:Int) c.ns (c.X.length:Int) s.lv s.pk c.words s.W=O ((vx c en s).isNone&&Zc (s.q=0)):=by
 have e:=w;unfold dg at e;rw[Zh]at e;unfold ku;refine me (aZ4 h g j w) ?_;cases(vx c en s).isNone with
 |false=>rfl
 |true=>
  rw[zC];refine me (aL6 h (by omega) s e.inv c.mode en Zb) ?_;rfl
omit h in
theorem aO8 (e:c.mode=2)(en:Bool)(s:Dy):vx c en s=uP en (tL c s):=by unfold vx;rw[Zh,zE e]
theorem bk5 (A:c.mode=2)(B:1<=c.ns)(y:i<=1000000)(w:dg c i s){a:Int×Int}(e:vx c en s=O a)(m:Ae c a s):
  gi c.mode en Zb c.fixed c.tp c.sl c.ns c.mode c.R c.Q c.len c.words s.L s.p s.q s.c0 s.c1 s.c2 s.c3 s.z c.X c.T c.l c.k c.P c.tk (c.off 8:Int) c.ns (c.X.length:Int) s.lv s.pk c.words s.W=O (a.1,a.2,Za,0,c.fixed,c.tp,c.sl,c.ns,c.mode,c.R,c.Q,c.len,c.words,(wk c a s).L,(wk c a s).p,(wk c a s).q,(wk c a s).c0,(wk c a s).c1,(wk c a s).c2,(wk c a s).c3,(wk c a s).z,(wk c a s).lv,(wk c a s).pk,c.words,(wk c a s).W):=by
 have g:=w;unfold dg at g;rw[Zh]at g;rw[aO8 A]at e;unfold Ae at m;rw[Zh]at m;obtain⟨C,m⟩:=m;have u:=(Mh h (by omega) g.inv m).1;have j:wk c a s=(Fp c a.1 a.2 s).2:=by unfold wk;rw[Zh]
 unfold gi;rw[zD];refine me (al1 h (by omega) B g.inv c.mode en Zb) ?_;rw[e];show cond (!Za) _ _=_;rw[aB,zD];refine me (do2 h (by omega) g.inv g.cnt (by omega)) ?_;show cond (Zc ((Fp c a.1 a.2 s).1≠0)) _ _=_;rw[u,j];rfl
theorem aQ9 (j:c.mode=2)(u:1<=c.ns)(w:dg c i s)(e:vx c en s=Y):
  gi c.mode en Zb c.fixed c.tp c.sl c.ns c.mode c.R c.Q c.len c.words s.L s.p s.q s.c0 s.c1 s.c2 s.c3 s.z c.X c.T c.l c.k c.P c.tk (c.off 8:Int) c.ns (c.X.length:Int) s.lv s.pk c.words s.W=O (0,0,Zb,0,c.fixed,c.tp,c.sl,c.ns,c.mode,c.R,c.Q,c.len,c.words,s.L,s.p,s.q,s.c0,s.c1,s.c2,s.c3,s.z,s.lv,s.pk,c.words,s.W):=by
 have g:=w;unfold dg at g;rw[Zh]at g;rw[aO8 j]at e;unfold gi;rw[zD];refine me (al1 h (by omega) u g.inv c.mode en Zb) ?_;rw[e];rfl
theorem aZ5 (g:c.mode=2)(j:1<=c.ns)(w:dg c i s):
  jz c.mode en Zb c.fixed c.tp c.sl c.ns c.mode c.R c.Q c.len c.words s.L s.p s.q s.c0 s.c1 s.c2 s.c3 s.z c.X c.T c.l c.k c.P c.tk (c.off 8:Int) c.ns (c.X.length:Int) s.lv s.pk c.words s.W=O (vx c en s).isNone:=by
 have e:=w;unfold dg at e;rw[Zh]at e;rw[aO8 g];unfold jz;rw[zD];refine me (al1 h (by omega) j e.inv c.mode en Zb) ?_;cases uP en (tL c s)<;>rfl
theorem ar1 (e:c.mode=2)(g:1<=c.ns)(w:dg c i s):
  jx c.mode en Zb c.fixed c.tp c.sl c.ns c.mode c.R c.Q c.len c.words s.L s.p s.q s.c0 s.c1 s.c2 s.c3 s.z c.X c.T c.l c.k c.P c.tk (c.off 8:Int) c.ns (c.X.length:Int) s.lv s.pk c.words s.W=O ((vx c en s).isNone&&(Zc (c.mode=2)&& !en)):=by
 unfold jx;refine me (aZ5 h e g w) ?_;cases(vx c en s).isNone<;>cases Zc (c.mode=2)<;>cases en<;>rfl
theorem bi5 (g:c.mode=2)(j:1<=c.ns)(w:dg c i s):
  kv c.mode en Zb c.fixed c.tp c.sl c.ns c.mode c.R c.Q c.len c.words s.L s.p s.q s.c0 s.c1 s.c2 s.c3 s.z c.X c.T c.l c.k c.P c.tk (c.off 8:Int) c.ns (c.X.length:Int) s.lv s.pk c.words s.W=O ((vx c en s).isNone&&Zc (s.q=0)):=by
 have e:=w;unfold dg at e;rw[Zh]at e;unfold kv;refine me (aZ5 h g j w) ?_;cases(vx c en s).isNone with
 |false=>rfl
 |true=>
  rw[zC];refine me (aL7 h (by omega) s e.inv c.mode en Zb) ?_;rfl
theorem fdm (u:c.mode=2)(y:1<=c.ns)(w:dg c i s)(e:vx c Zb s=Y)(B:s.q= -1)(A:s.L<65535):
  iw Za c.mode Zb Zb c.fixed c.tp c.sl c.ns c.mode c.R c.Q c.len c.words s.L s.p s.q s.c0 s.c1 s.c2 s.c3 s.z c.X c.T c.l c.k c.P c.tk (c.off 8:Int) c.ns (c.X.length:Int) s.lv s.pk c.words s.W=O (0,c.mode,Zb,Zb,c.fixed,c.tp,c.sl,c.ns,c.mode,c.R,c.Q,c.len,c.words,(HQ s).L,(HQ s).p,(HQ s).q,(HQ s).c0,(HQ s).c1,(HQ s).c2,(HQ s).c3,(HQ s).z):=by
 have j:=w;unfold dg at j;rw[Zh]at j
 have g:AG c s=(0,HQ s):=by
  unfold AG;rw[Zh,Zh,Zh];rfl
 unfold iw;rw[zD];refine me (ar1 h u y w) ?_;rw[e,zB u];show cond (!Za) _ _=_;rw[aB,zD,zD];refine me (aY2 j.inv.L) ?_;rw[g];rfl
theorem fds (g:c.mode=2)(j:1<=c.ns)(w:dg c i s)(e:vx c Zb s=Y):
  iw Zb c.mode Zb Zb c.fixed c.tp c.sl c.ns c.mode c.R c.Q c.len c.words s.L s.p s.q s.c0 s.c1 s.c2 s.c3 s.z c.X c.T c.l c.k c.P c.tk (c.off 8:Int) c.ns (c.X.length:Int) s.lv s.pk c.words s.W=O (0,c.mode,Za,Zb,c.fixed,c.tp,c.sl,c.ns,c.mode,c.R,c.Q,c.len,c.words,s.L,s.p,s.q,s.c0,s.c1,s.c2,s.c3,s.z):=by
 unfold iw;rw[zD];refine me (ar1 h g j w) ?_;rw[e,zB g];rfl
end
end
section
open Bool renaming not_true -> aD, and_false -> bB, not_false -> bD
open List renaming length_cons -> aB
open Option renaming isNone -> cB
theorem K2 {α γ:Type}{c:Cx}(h:c.Ok){f:α->Option (α⊕γ)}{st:Nat->Nat->Bool->Dy->List (Int×Int)->α}
  (F: ∀(i p:Nat) (en:Bool) (s:Dy) (j:List (Int×Int)) (a:Int×Int),i<20000->j.length<=100000->dg c i s->QE c en s->vx c en s=O a->Ae c a s->f (st i p en s j)=O (.inl (st (i+1) p en (wk c a s) (j++[a]))))
  (I: ∀(i p:Nat) (s:Dy) (j:List (Int×Int)),i<20000->dg c i s->c.mode=2->vx c Zb s=Y->s.q= -1->s.L<65535->p<l->f (st i p Zb s j)=O (.inl (st (i+1) (p+1) Zb (HQ s) j)))
  (J: ∀(i p:Nat) (s:Dy) (j:List (Int×Int)),i<20000->dg c i s->c.mode=2->vx c Zb s=Y->s.q= -1->p=l->f (st i p Zb s j)=O (.inl (st (i+1) (p+1) Za s j)))
  {p:Nat}    {z:Nat} {u:Bool} {y:Dy} (H:Way c l p en s es z u y): ∀(i:Nat) (j:List (Int×Int)),dg c i s->QE c en s->i+es.length<=20000->j.length+es.length<=100000->
   Reach f es.length (st i p en s j) (st (i+es.length) z u y (j++BI es))/\QE c u y:=by
 induction H with
 |nil=>
  intro i j w q _ _;refine⟨?_,q⟩;rw[show BI []=([]:List (Int×Int))from rfl,List.append_nil];exact Reach.refl
 | @act p en s a es z u y e m _ C=>
  intro i j w q A B;rw[aB]at A B;obtain⟨r,D⟩:=C (i+1) (j++[a]) (yD h w e m) (aP7 h w q e m) (by omega) (by rw[List.length_append,List.length_singleton];omega);refine⟨?_,D⟩;have:=(Reach.one (F i p en s j a (by omega) (by omega) w q e m)).trans r;rw[List.append_assoc]at this;rw[aB,show es.length+1=1+es.length by omega,show i+(1+es.length)=i+1+es.length by omega];exact this
 | @more p s es z u y a b d e g _ C=>
  intro i j w q A B;rw[aB]at A B;obtain⟨r,D⟩:=C (i+1) j (Fa h w a d e) ⟨q.1,λE _=>by have E:0<=s.q:=E;omega⟩ (by omega) (by omega);refine⟨?_,D⟩;have:=(Reach.one (I i p s j (by omega) w a b d e g)).trans r;rw[aB,show es.length+1=1+es.length by omega,show i+(1+es.length)=i+1+es.length by omega];exact this
 | @stop p s es z u y a b d e _ C=>
  intro i j w q A B;rw[aB]at A B;obtain⟨r,D⟩:=C (i+1) j (UC h (Nat.le_succ i) w) ⟨λk=>(k a).elim,λ_ _=>rfl⟩ (by omega) (by omega);refine⟨?_,D⟩;have:=(Reach.one (J i p s j (by omega) w a b d e)).trans r;rw[aB,show es.length+1=1+es.length by omega,show i+(1+es.length)=i+1+es.length by omega];exact this
section
variable {c:Cx} (h:c.Ok)
def Ms (c:Cx)(i e:Nat)(en:Bool)(s:Dy)(g:List (Int×Int)):=((i:Int),(e:Int),c.mode,en,Zb,c.fixed,c.tp,c.sl,c.ns,c.mode,c.R,c.Q,c.len,c.words,s.L,s.p,s.q,s.c0,s.c1,s.c2,s.c3,s.z,s.lv,s.pk,c.words,s.W,g)
include h
theorem RZ (w:dg c i s):Wd c s.W/\s.W.length<=1048576:=by
 have e:Wd c s.W:=by
  unfold dg at w;split at w
  .exact w.inv.w
  .exact w.inv.w
 exact⟨e,(e.tk h).2⟩
theorem am2 (u:c.mode=3)(i j:Nat)(en:Bool)(s:Dy)(g:List (Int×Int))(a:Int×Int)(hi:i<20000)(z:g.length<=100000)(w:dg c i s)(q:QE c en s)(e:vx c en s=O a)(m:Ae c a s):
  uw (l:Int) c.X c.T c.l c.k c.P c.tk (Ms c i j en s g)=O (.inl (Ms c (i+1) j en (wk c a s) (g++[a]))):=by
 have y:a=(a.1,0):=by
  have p:=e;rw[aA5 u]at p;have:=aI4 p;exact Prod.ext rfl this
 unfold Ms;simp only[uw];rw[zB (show(i:Int)<20000 by omega),zC];refine me (bk3 h u (by omega) w e m) ?_;show cond (Zc ((0:Int)≠0)) _ _=_;rw[zA (by simp),zD,zC,de (by omega) (by omega),Zi];rw[y];rfl
theorem am5 (u:c.mode=3)(i j:Nat)(en:Bool)(s:Dy)(g:List (Int×Int))(hi:i<20000)(w:dg c i s)(e:vx c en s=Y)(B:s.q=0)(A:c.mode=2->en=Za):
  uw (l:Int) c.X c.T c.l c.k c.P c.tk (Ms c i j en s g)=O (.inr (.inr (.inl (Za,c.mode,en,Zb,c.fixed,c.tp,c.sl,c.ns,c.mode,c.R,c.Q,c.len,c.words,s.L,s.p,s.q,s.c0,s.c1,s.c2,s.c3,s.z,s.lv,s.pk,c.words,s.W,g)))):=by
 unfold Ms;simp only[uw];rw[zB (show(i:Int)<20000 by omega),zC];refine me (bk1 h u w e) ?_;show cond (Zc ((0:Int)≠0)) _ _=_;rw[zA (by simp),zD,zD];refine me (bk7 h u w) ?_
 rw[e,show(cB (Y:Option (Int×Int))&&(Zc (c.mode=2)&& !en))=Zb from by
  by_cases y:c.mode=2
  .rw[A y,aD,bB];rfl
  .rw[zA y];rfl,bD,zC]
 refine me (bi3 h u w) ?_;rw[e,zB B];rfl
theorem am3 (p:c.mode=1)(u:1<=c.ns)(i j:Nat)(en:Bool)(s:Dy)(g:List (Int×Int))(a:Int×Int)(hi:i<20000)(y:g.length<=100000)(w:dg c i s)(q:QE c en s)(e:vx c en s=O a)(m:Ae c a s):
  ux (l:Int) c.X c.T c.l c.k c.P c.tk (c.off 8:Int) c.ns (c.X.length:Int) (Ms c i j en s g)=O (.inl (Ms c (i+1) j en (wk c a s) (g++[a]))):=by
 unfold Ms;simp only[ux];rw[zB (show(i:Int)<20000 by omega),zC];refine me (bk4 h p u (by omega) w e m) ?_;show cond (Zc ((0:Int)≠0)) _ _=_;rw[zA (by simp),zD,zC,de (by omega) (by omega),Zi];rfl
theorem am6 (u:c.mode=1)(y:1<=c.ns)(i j:Nat)(en:Bool)(s:Dy)(g:List (Int×Int))(hi:i<20000)(w:dg c i s)(e:vx c en s=Y)(C:s.q=0)(B:c.mode=2->en=Za):
  ux (l:Int) c.X c.T c.l c.k c.P c.tk (c.off 8:Int) c.ns (c.X.length:Int) (Ms c i j en s g)=O (.inr (.inr (.inl (Za,c.mode,en,Zb,c.fixed,c.tp,c.sl,c.ns,c.mode,c.R,c.Q,c.len,c.words,s.L,s.p,s.q,s.c0,s.c1,s.c2,s.c3,s.z,s.lv,s.pk,c.words,s.W,g)))):=by
 unfold Ms;simp only[ux];rw[zB (show(i:Int)<20000 by omega),zC];refine me (bk2 h u y w e) ?_;show cond (Zc ((0:Int)≠0)) _ _=_;rw[zA (by simp),zD,zD];refine me (bk8 h u y w) ?_
 rw[e,show(cB (Y:Option (Int×Int))&&(Zc (c.mode=2)&& !en))=Zb from by
  by_cases A:c.mode=2
  .rw[B A,aD,bB];rfl
  .rw[zA A];rfl,bD,zC]
 refine me (bi4 h u y w) ?_;rw[e,zB C];rfl
theorem am4 (p:c.mode=2)(u:1<=c.ns)(i j:Nat)(en:Bool)(s:Dy)(g:List (Int×Int))(a:Int×Int)(hi:i<20000)(y:g.length<=100000)(w:dg c i s)(q:QE c en s)(e:vx c en s=O a)(m:Ae c a s):
  nc (l:Int) c.X c.T c.l c.k c.P c.tk (c.off 8:Int) c.ns (c.X.length:Int) (Ms c i j en s g)=O (.inl (Ms c (i+1) j en (wk c a s) (g++[a]))):=by
 unfold Ms;simp only[nc];rw[zB (show(i:Int)<20000 by omega),zC];refine me (bk5 h p u (by omega) w e m) ?_;show cond (Zc ((0:Int)≠0)) _ _=_;rw[zA (by simp),zD,zC,de (by omega) (by omega),Zi];rfl
theorem am7 (u:c.mode=2)(y:1<=c.ns)(i j:Nat)(en:Bool)(s:Dy)(g:List (Int×Int))(hi:i<20000)(w:dg c i s)(e:vx c en s=Y)(C:s.q=0)(B:c.mode=2->en=Za):
  nc (l:Int) c.X c.T c.l c.k c.P c.tk (c.off 8:Int) c.ns (c.X.length:Int) (Ms c i j en s g)=O (.inr (.inr (.inl (Za,c.mode,en,Zb,c.fixed,c.tp,c.sl,c.ns,c.mode,c.R,c.Q,c.len,c.words,s.L,s.p,s.q,s.c0,s.c1,s.c2,s.c3,s.z,s.lv,s.pk,c.words,s.W,g)))):=by
 unfold Ms;simp only[nc];rw[zB (show(i:Int)<20000 by omega),zC];refine me (aQ9 h u y w e) ?_;show cond (Zc ((0:Int)≠0)) _ _=_;rw[zA (by simp),zD,zD];refine me (ar1 h u y w) ?_
 rw[e,show(cB (Y:Option (Int×Int))&&(Zc (c.mode=2)&& !en))=Zb from by
  by_cases A:c.mode=2
  .rw[B A,aD,bB];rfl
  .rw[zA A];rfl,bD,zC]
 refine me (bi5 h u y w) ?_;rw[e,zB C];rfl
theorem am8 (p:c.mode=2)(u:1<=c.ns)(B:l<=1000)(i g:Nat)(s:Dy)(j:List (Int×Int))(hi:i<20000)(w:dg c i s)(e:vx c Zb s=Y)(z:s.q= -1)(y:s.L<65535)(A:g<l):
  nc (l:Int) c.X c.T c.l c.k c.P c.tk (c.off 8:Int) c.ns (c.X.length:Int) (Ms c i g Zb s j)=O (.inl (Ms c (i+1) (g+1) Zb (HQ s) j)):=by
 unfold Ms;simp only[nc];rw[zB (show(i:Int)<20000 by omega),zC];refine me (aQ9 h p u w e) ?_;show cond (Zc ((0:Int)≠0)) _ _=_;rw[zA (by simp),zD,zD];refine me (ar1 h p u w) ?_;rw[e,zB p];show cond (!Za) _ _=_;rw[aD,zD,ae (n:=(g:Int)+1) (by omega),zB (show(g:Int)+1<=(l:Int)by omega)];refine me (fdm h p u w e z y) ?_;show cond (Zc ((0:Int)≠0)) _ _=_;rw[zA (by simp),zD,Zi];rfl
theorem am9 (p:c.mode=2)(u:1<=c.ns)(z:l<=1000)(i g:Nat)(s:Dy)(j:List (Int×Int))(hi:i<20000)(w:dg c i s)(e:vx c Zb s=Y)(A:s.q= -1)(y:g=l):
  nc (l:Int) c.X c.T c.l c.k c.P c.tk (c.off 8:Int) c.ns (c.X.length:Int) (Ms c i g Zb s j)=O (.inl (Ms c (i+1) (g+1) Za s j)):=by
 unfold Ms;simp only[nc];rw[zB (show(i:Int)<20000 by omega),zC];refine me (aQ9 h p u w e) ?_;show cond (Zc ((0:Int)≠0)) _ _=_;rw[zA (by simp),zD,zD];refine me (ar1 h p u w) ?_;rw[e,zB p];show cond (!Za) _ _=_;rw[aD,zD,ae (n:=(g:Int)+1) (by omega),zA (show¬(g:Int)+1<=(l:Int)by omega)];refine me (fds h p u w e) ?_;show cond (Zc ((0:Int)≠0)) _ _=_;rw[zA (by simp),zD,Zi];rfl
end
end
section
open List renaming length_nil -> aD, nil_append -> bB
open Nat renaming zero_add -> aB
theorem KM {α γ:Type}{f:α->Option (α⊕γ)}{k:Nat}{s g:α}{x:γ}(h:Reach f k s g)(j:k<18446744073709551615)(e:f g=O (.inr x)):aw f gv s=O x:=by
 have:=h (18446744073709551616-k);rw[show 18446744073709551616-k+k=gv by unfold gv;omega,show 18446744073709551616-k=(18446744073709551615-k)+1 by omega]at this;rw[this,da,e];rfl
theorem Xu :lw=O Za:=by kernel_rfl
section
variable {c:Cx} (h:c.Ok)
include h
theorem aW5 (g:c.mode=3)(e:pm c.mode c.X.length c.T.length c.R c.l c.Q c.k c.len c.words=(c.fixed,c.tp,c.sl,c.ns,0)):pu c.mode c.X c.T c.R c.l c.Q c.k c.len c.words=O (.inr (.inl (c.mode,Zb,Zb,c.fixed,c.tp,c.sl,c.ns,c.mode,c.R,c.Q,c.len,c.words,c.len,c.X,c.T,c.l,c.k,c.P,c.tk,c.fixed,c.fixed,c.words,(new1 c).W))):=by
 unfold pu;refine me (bh4 h g e) ?_
 refine me (show yH _ _ _ _ _ _ _ _ _ _ _ _ _ _ _ _ _ _ _ _ _ _ _ _ _ _ _ _ _ _ _ _ _ _ _ _=O (c.mode,Zb,Zb)from by
  unfold yH;rw[show ix c.mode 4=O 3 from by rw[g];rfl]
  rfl) ?_
 rfl
theorem aq2 (y:c.mode=3)(e0:pm c.mode c.X.length c.T.length c.R c.l c.Q c.k c.len c.words=(c.fixed,c.tp,c.sl,c.ns,0))(I:l<=40){f:Nat}(H:Way c l 0 Zb (A1 c) es f en s)(F:Fin c l f en s es):
  i6 c.mode c.X c.T c.R c.l c.Q c.k c.len c.words (l:Int)=O (.inr (.inl (Za,c.mode,en,Zb,BI es,c.fixed,c.tp,c.sl,c.ns,c.mode,c.R,c.Q,c.len,c.words,s.L,s.p,s.q,s.c0,s.c1,s.c2,s.c3,s.z,c.X,c.T,c.l,c.k,c.P,c.tk,s.lv,s.pk,c.words,s.W))):=by
 have w0:=tf h;have C:=H.well h w0;have B:=F.len;have D:A1 c=new1 c:=by unfold A1;rw[zE y]
 obtain⟨r,q⟩:=K2 h (f:=uw (l:Int) c.X c.T c.l c.k c.P c.tk) (st:=Ms c) (λi g en s j a hi E w q e m=>am2 h y i g en s j a hi E w q e m) (λi g s j hi w A=>by omega) (λi g s j hi w A=>by omega) H 0 [] w0 VI (by omega) (by simp only[aD];omega);rw[aB,bB]at r;rw[aB]at C;have u:=KM r (by omega) (am5 h y es.length f en s (BI es) (by omega) C F.no F.q F.en);rw[D]at u;unfold i6;refine me (aW5 h y e0) ?_;rw[cv,qx];refine me u ?_;rfl
theorem aq3 (y:c.mode=1)(e0:pm c.mode c.X.length c.T.length c.R c.l c.Q c.k c.len c.words=(c.fixed,c.tp,c.sl,c.ns,0))(J:l<=40){f:Nat}(H:Way c l 0 Zb (A1 c) es f en s)(F:Fin c l f en s es):
  i6 c.mode c.X c.T c.R c.l c.Q c.k c.len c.words (l:Int)=O (.inr (.inr (.inl (Za,c.mode,en,Zb,BI es,c.fixed,c.tp,c.sl,c.ns,c.mode,c.R,c.Q,c.len,c.words,s.L,s.p,s.q,s.c0,s.c1,s.c2,s.c3,s.z,c.X,c.T,c.l,c.k,c.P,c.tk,(c.off 8:Int),c.ns,(c.X.length:Int),s.lv,s.pk,c.words,s.W)))):=by
 have C:=Vx h (by omega) e0;have w0:=tf h;have D:=H.well h w0;have B:=F.len;have E:A1 c=new2 c:=by unfold A1;rw[Zh]
 obtain⟨r,q⟩:=K2 h (f:=ux (l:Int) c.X c.T c.l c.k c.P c.tk (c.off 8:Int) c.ns (c.X.length:Int)) (st:=Ms c) (λi g en s j a hi I w q e m=>am3 h y C i g en s j a hi I w q e m) (λi g s j hi w A=>by omega) (λi g s j hi w A=>by omega) H 0 [] w0 VI (by omega) (by simp only[aD];omega);rw[aB,bB]at r;rw[aB]at D;have u:=KM r (by omega) (am6 h y C es.length f en s (BI es) (by omega) D F.no F.q F.en);rw[E]at u;unfold i6;refine me (aW6 h y e0) ?_;rw[cv,cv,qx];refine me u ?_;rfl
theorem aq4 (u:c.mode=2)(e0:pm c.mode c.X.length c.T.length c.R c.l c.Q c.k c.len c.words=(c.fixed,c.tp,c.sl,c.ns,0))(U:l<=40){f:Nat}(H:Way c l 0 Zb (A1 c) es f en s)(F:Fin c l f en s es):
  i6 c.mode c.X c.T c.R c.l c.Q c.k c.len c.words (l:Int)=O (.inr (.inr (.inr (Za,c.mode,en,Zb,BI es,c.fixed,c.tp,c.sl,c.ns,c.mode,c.R,c.Q,c.len,c.words,s.L,s.p,s.q,s.c0,s.c1,s.c2,s.c3,s.z,c.X,c.T,c.l,c.k,c.P,c.tk,(c.off 8:Int),c.ns,(c.X.length:Int),s.lv,s.pk,c.words,s.W)))):=by
 have A:=Vx h (by omega) e0;have w0:=tf h;have I:=H.well h w0;have E:=F.len;have J:A1 c=new2 c:=by unfold A1;rw[Zh]
 obtain⟨r,q⟩:=K2 h (f:=nc (l:Int) c.X c.T c.l c.k c.P c.tk (c.off 8:Int) c.ns (c.X.length:Int)) (st:=Ms c) (λi g en s j a hi M w q e m=>am4 h u A i g en s j a hi M w q e m) (λi g s j hi w C e D K B=>am8 h u A (by omega) i g s j hi w e D K B) (λi g s j hi w C e D B=>am9 h u A (by omega) i g s j hi w e D B) H 0 [] w0 VI (by omega) (by simp only[aD];omega);rw[aB,bB]at r;rw[aB]at I;have y:=KM r (by omega) (am7 h u A es.length f en s (BI es) (by omega) I F.no F.q F.en);rw[J]at y;unfold i6;refine me (aW7 h u e0) ?_;rw[cv,cv,cv];refine me y ?_;rfl
theorem Rb (wT:ck c.T)(wX:ck c.X){f:Nat}(H:Way c l 0 Zb (A1 c) es f en s)(F:Fin c l f en s es):
  ID c s=(lossV c (qX c l),0,(uA c l l).1,(uA c l l).2):=by
 obtain⟨⟨j,g,J⟩,_⟩:=H.je h wT wX (tf h) (aN6 h wT wX);have e:=aP9 h wT J F.q (by rw[F.L];omega);rw[F.L,Int.toNat_natCast]at e;exact e
end
end
section
open Go.IntKind renaming wrap -> zH, i64 -> zI, u64 -> zJ
open Int renaming toNat_natCast -> aD, toNat_of_nonneg -> bD
open List renaming length_set -> aB, mem_cons_of_mem -> bB, getD_eq_getElem?_getD -> cB
def KP (o:bg)(r:Zd):Zd:=r.set o.2.1.toNat (app o (rg r o.2.2.1) (rg r o.2.2.2.1))
def aD9 (l:List bg)(r:Zd):Zd:=l.foldl (λr o=>KP o r) r
def plO (o:bg)(r a:Zd):Zd:=(GJ o r a (rg r o.2.1)).2
def IE :List bg->Zd->Zd->Zd
 |[],_,a=>a
 |o::l,r,a=>plO o r (IE l (KP o r) a)
def rds (o:bg):Zd:=if(cf o.1).2.1 then(if(cf o.1).2.2.1 then [o.2.2.1,o.2.2.2.1]else [o.2.2.1])else []
def gB (w:List Bool)(k:Int):Bool:=w.getD k.toNat Zb
def Mo (w:List Bool)(ks:Zd):List Bool:=ks.foldl (λw k=>w.set k.toNat Za) w
def wst (o:bg)(w:List Bool):List Bool:=if gB w o.2.1 then Mo (w.set o.2.1.toNat Zb) (rds o)else w
def UL (W:List Bool):List bg->List Bool
 |[]=>W
 |o::l=>wst o (UL W l)
theorem EP {k:Nat}{v:Bool}(h:i<w.length):gB (w.set i v) (k:Int)=if k=i then v else gB w (k:Int):=by
 unfold gB;rw[aD,cB,cB];split
 .rename_i e;subst e;rw[List.getElem?_set_self h];rfl
 .rename_i e;rw[List.getElem?_set_ne (Ne.symm e)]
theorem Hv (ks:Zd): ∀w,(Mo w ks).length=w.length:=by
 induction ks with
 |nil=>intro w;rfl
 |cons x ks e=>intro w;exact(e _).trans (aB ..)
theorem Rp (ks:Zd)(k:Nat): ∀w:List Bool,(∀x∈ks,0<=x/\x.toNat<w.length)->gB w (k:Int)=Za->gB (Mo w ks) (k:Int)=Za:=by
 induction ks with
 |nil=>intro w _ h;exact h
 |cons x ks j=>
  intro w e h;refine j _ (λy g=>by rw[aB];exact e y (bB _ g)) ?_;rw[EP (e x (by simp)).2,h];split<;>rfl
theorem Vv (ks:Zd)(k:Nat): ∀w:List Bool,(∀x∈ks,0<=x/\x.toNat<w.length)->(k:Int)∈ks->gB (Mo w ks) (k:Int)=Za:=by
 induction ks with
 |nil=>intro w _ h;cases h
 |cons x ks p=>
  intro w g h;have e: ∀y∈ks,0<=y/\y.toNat<(w.set x.toNat Za).length:=λy j=>by rw[aB];exact g y (bB _ j)
  rcases List.mem_cons.1 h with h|h
  .refine Rp ks k _ e ?_;rw[EP (g x (by simp)).2,zE (by rw[<-h];rfl)]
  .exact p _ e h
theorem aA0 (ks:Zd)(k:Nat): ∀w:List Bool,(∀x∈ks,0<=x/\x.toNat<w.length)->gB (Mo w ks) (k:Int)=Zb->gB w (k:Int)=Zb/\(k:Int)∉ks:=by
 intro w g h;constructor
 .cases e:gB w (k:Int)with
  |false=>rfl
  |true=>rw[Rp ks k w g e]at h;cases h
 .intro e;rw[Vv ks k w g e]at h;cases h
theorem NZ {R:Nat}(h:OB R o): ∀x∈rds o,0<=x/\x.toNat<R:=by
 obtain⟨d,a,b,e1,e,g,j,p,q⟩:=vw h;intro x hx;unfold rds at hx;rw[e,g]at hx;split at hx
 .split at hx
  .rcases List.mem_cons.1 hx with rfl|hx
   .omega
   .rw[List.mem_singleton.1 hx];omega
  .rw[List.mem_singleton.1 hx];omega
 .cases hx
theorem aG1 (o:bg)(w:List Bool):(wst o w).length=w.length:=by
 unfold wst;split
 .rw[Hv,aB]
 .rfl
theorem Xv (W:List Bool): ∀l,(UL W l).length=W.length
 |[]=>rfl
 |o::l=>(aG1 o _).trans (Xv W l)
theorem aI1 {k:Int}(h:0<k/\k<7):k=1∨k=2∨k=3∨k=4∨k=5∨k=6:=by omega
theorem dep (j:0<o.1/\o.1<7){g:Zd}(h: ∀x∈rds o,rg r x=rg g x):
  app o (rg r o.2.2.1) (rg r o.2.2.2.1)=app o (rg g o.2.2.1) (rg g o.2.2.2.1)/\YD o (rg r o.2.2.1) (rg r o.2.2.2.1)=YD o (rg g o.2.2.1) (rg g o.2.2.2.1):=by
 unfold rds at h;rcases aI1 j with e|e|e|e|e|e<;>simp[e,cf]at h<;>simp[app,YD,e,h]
theorem aY9 (j:0<o.1/\o.1<7){k:Nat}(g:(k:Int)∉rds o)(x y:Int):((k:Int)=o.2.2.1->(YD o x y).1=0)/\((k:Int)=o.2.2.2.1->(YD o x y).2=0):=by
 unfold rds at g;rcases aI1 j with e|e|e|e|e|e<;>simp[e,cf]at g<;>simp[YD,e]<;>first|exact g|omega
theorem HD {l:Zd}{k:Nat}(h:i<l.length):rg (l.set i v) (k:Int)=if k=i then v else rg l (k:Int):=by
 split
 .rename_i e;subst e;exact GM h
 .rename_i e;exact KO (Ne.symm e)
theorem wZ0 {x:Int}(h:UK x)(q:Int)(e:q=0):zH zJ (x+zH zJ q)=x:=by
 subst e;rw[io (n:=0) (by omega),Int.add_zero];unfold UK at h;exact io (by omega)
section
variable {R:Nat} {o:bg}
theorem Ry (h:OB R o)(g:r.length=R):plO o r a=(let q:=YD o (rg r o.2.2.1) (rg r o.2.2.2.1)
  let a2:=(a.set o.2.1.toNat 0).set o.2.2.1.toNat (zH zJ (rg (a.set o.2.1.toNat 0) o.2.2.1+zH zJ (q.1*rg a o.2.1)))
  a2.set o.2.2.2.1.toNat (zH zJ (rg a2 o.2.2.2.1+zH zJ (q.2*rg a o.2.1)))):=by
 obtain⟨d,_,_,e1,_,_,e,_,_⟩:=vw h;unfold plO GJ;simp only;rw[e1,aD,IJ (by omega)]
theorem aC9 (r a:Zd):(plO o r a).length=a.length:=(JG o r a _).2
theorem aY8 (e:ck a):ck (plO o r a):=by
 unfold plO GJ;exact((e.set w0 _).set (RX _) _).set (RX _) _
theorem IF (l:List bg): ∀r a:Zd,(IE l r a).length=a.length/\(ck a->ck (IE l r a)):=by
 induction l with
 |nil=>intro r a;exact⟨rfl,λh=>h⟩
 |cons o l e=>intro r a;exact⟨(aC9 _ _).trans (e _ _).1,λh=>aY8 ((e _ _).2 h)⟩
theorem NV (h:OB R o)(u:r.length=R)(C:a.length=R)(g:ck a)(e:rg a o.2.1=0):plO o r a=a:=by
 obtain⟨d,x,y,e1,j,p,z,A,B⟩:=vw h;rw[Ry h u];rw[e1]at e;simp only[e1,j,p,aD];have q:a.set d 0=a:=by rw[<-e];exact IJ (by omega)
 rw[q,e,Int.mul_zero,Int.mul_zero,wZ0 (Pa g _) _ rfl,IJ (by omega),wZ0 (Pa g _) _ rfl,IJ (by omega)]
theorem aD0 (h:OB R o)(K:0<o.1/\o.1<7)(L:r.length=R)(ha:a.length=R)(U:ck a)(M:w.length=R)(I:gB w o.2.1=Za)
  (p: ∀k:Nat,k<R->gB w (k:Int)=Zb->rg a (k:Int)=0): ∀k:Nat,k<R->gB (wst o w) (k:Int)=Zb->rg (plO o r a) (k:Int)=0:=by
 obtain⟨d,x,y,e1,E,F,V,W,Z⟩:=vw h;intro k J j;unfold wst at j;rw[I,zE rfl]at j;obtain⟨g,H⟩:=aA0 (rds o) k _ (λz p=>by rw[aB,M];exact NZ h z p) j;rw[e1,aD,EP (by omega)]at g;obtain⟨A,B⟩:=aY9 K H (rg r o.2.2.1) (rg r o.2.2.2.1);rw[Ry h L];generalize YD o (rg r o.2.2.1) (rg r o.2.2.2.1)=q at*;have e:ck (a.set d 0):=U.set w0 _
 have C:rg (a.set d 0) (k:Int)=0:=by
  rw[HD (by omega)];split
  .rfl
  .rename_i c;rw[zF c]at g;exact p k J g
 simp only[e1,E,F,aD]at A B⊢
 have D:rg ((a.set d 0).set x (zH zJ (rg (a.set d 0) (x:Int)+zH zJ (q.1*rg a (d:Int))))) (k:Int)=0:=by
  rw[HD (by rw[aB];omega)];split
  .rename_i c;subst c;rw[A rfl,Int.zero_mul,wZ0 (Pa e _) _ rfl,C]
  .exact C
 have u:ck ((a.set d 0).set x (zH zJ (rg (a.set d 0) (x:Int)+zH zJ (q.1*rg a (d:Int))))):=e.set (RX _) _;rw[HD (by rw[aB,aB];omega)];split
 .rename_i c;subst c;rw[B rfl,Int.zero_mul,wZ0 (Pa u _) _ rfl,D]
 .exact D
end
def WM (l:List (bg×Bool)):List bg:=(l.filter (·.2)).map (·.1)
def Qu (W:List Bool):List (bg×Bool)->Prop
 |[]=>True
 |p::l=>(gB (UL W (l.map (·.1))) p.1.2.1=Za->p.2=Za)/\Qu W l
theorem HE (o:bg)(r:Zd):(KP o r).length=r.length:=aB ..
theorem aX8 (o:bg)(l:List (bg×Bool)):WM ((o,Zb)::l)=WM l:=rfl
theorem af9 (o:bg)(l:List (bg×Bool)):WM ((o,Za)::l)=o::WM l:=rfl
theorem dead {R:Nat}{W:List Bool}(hW:W.length=R): ∀(l:List (bg×Bool)),Qu W l->(∀p∈l,OB R p.1/\0<p.1.1/\p.1.1<7)->∀(r g:Zd),r.length=R->g.length=R->
  (∀k:Nat,k<R->gB (UL W (l.map (·.1))) (k:Int)=Za->rg r (k:Int)=rg g (k:Int))->
  (∀k:Nat,k<R->gB W (k:Int)=Za->rg (aD9 (l.map (·.1)) r) (k:Int)=rg (aD9 (WM l) g) (k:Int))/\
  ∀a:Zd,a.length=R->ck a->(∀k:Nat,k<R->gB W (k:Int)=Zb->rg a (k:Int)=0)->
   IE (l.map (·.1)) r a=IE (WM l) g a/\∀k:Nat,k<R->gB (UL W (l.map (·.1))) (k:Int)=Zb->rg (IE (l.map (·.1)) r a) (k:Int)=0
 |[],_,_,r,g,_,_,h=>⟨h,λa _ _ B=>⟨rfl,B⟩⟩
 |(o,b)::l,hK,hg,r,g,H,q,h=>by
  obtain⟨M,hK2⟩:=hK;obtain⟨e,hk⟩:=hg (o,b) (by simp);obtain⟨d,x,y,e1,e2,e3,g1,g2,g3⟩:=vw e;have hl:=(Xv W (l.map (·.1))).trans hW;have hg': ∀p∈l,OB R p.1/\0<p.1.1/\p.1.1<7:=λp hp=>hg p (bB _ hp)
  have ih:=dead hW l hK2 hg';simp only[List.map_cons,UL]at h M⊢;cases u:gB (UL W (l.map (·.1))) o.2.1 with
  |true=>
   have hb:b=Za:=M u;subst hb;rw[af9]
   have U: ∀z∈rds o,rg r z=rg g z:=λz B=>by
    obtain⟨z1,z2⟩:=NZ e z B
    have:=h z.toNat z2 (by
     unfold wst;rw[u,zE rfl]
     exact Vv _ _ _ (λv V=>by rw[aB,hl];exact NZ e v V) (by rw[bD z1];exact B))
    rwa [bD z1]at this
   obtain⟨d1,d2⟩:=dep hk U
   have hnx: ∀k:Nat,k<R->gB (UL W (l.map (·.1))) (k:Int)=Za->rg (KP o r) (k:Int)=rg (KP o g) (k:Int):=λk A J=>by
    unfold KP;rw[d1,e1,aD,HD (by omega),HD (by omega)];split
    .rfl
    .rename_i c;refine h k A ?_;unfold wst;rw[u,zE rfl];refine Rp _ _ _ (λv V=>by rw[aB,hl];exact NZ e v V) ?_;rw[e1,aD,EP (by omega),zF c,J]
   obtain⟨Z,i2⟩:=ih _ _ ((HE o r).trans H) ((HE o g).trans q) hnx;refine⟨Z,λa C E B=> ?_⟩;obtain⟨j1,I⟩:=i2 a C E B;obtain⟨K,L⟩:=IF (l.map (·.1)) (KP o r) a;simp only[IE];refine⟨?_,aD0 e hk H (K.trans C) (L E) hl u I⟩;rw[<-j1,Ry e H,Ry e q,d2]
  |false=>
   have hws:wst o (UL W (l.map (·.1)))=UL W (l.map (·.1)):=by unfold wst;rw[u];rfl
   rw[hws]at h⊢
   have F: ∀(s s':Zd),s.length=R->(∀k:Nat,k<R->gB (UL W (l.map (·.1))) (k:Int)=Za->rg s (k:Int)=rg s' (k:Int))->∀k:Nat,k<R->gB (UL W (l.map (·.1))) (k:Int)=Za->rg (KP o s) (k:Int)=rg s' (k:Int):=λs s' hs hss k A J=>by
    unfold KP;rw[e1,aD,HD (by omega),zF (λc=>by subst c;rw[e1,J]at u;cases u)];exact hss k A J
   have h1:=F r g H h;cases b with
   |false=>
    obtain⟨Z,i2⟩:=ih (KP o r) g ((HE o r).trans H) q h1;refine⟨Z,λa C E B=> ?_⟩;obtain⟨j1,I⟩:=i2 a C E B;obtain⟨K,L⟩:=IF (l.map (·.1)) (KP o r) a;have D:rg (IE (l.map (·.1)) (KP o r) a) o.2.1=0:=by rw[e1]at u⊢;exact I d g1 u
    simp only[IE];rw[NV e H (K.trans C) (L E) D];exact⟨j1,I⟩
   |true=>
    have h2: ∀k:Nat,k<R->gB (UL W (l.map (·.1))) (k:Int)=Za->rg (KP o r) (k:Int)=rg (KP o g) (k:Int):=λk A J=>(F g (KP o r) q (λj hj V=>(h1 j hj V).symm) k A J).symm
    obtain⟨Z,i2⟩:=ih (KP o r) (KP o g) ((HE o r).trans H) ((HE o g).trans q) h2;refine⟨Z,λa C E B=> ?_⟩;obtain⟨j1,I⟩:=i2 a C E B;obtain⟨K,L⟩:=IF (l.map (·.1)) (KP o r) a;have D:rg (IE (l.map (·.1)) (KP o r) a) o.2.1=0:=by rw[e1]at u⊢;exact I d g1 u
    rw[af9];simp only[IE];rw[<-j1,NV e H (K.trans C) (L E) D,NV e q (K.trans C) (L E) D];exact⟨rfl,I⟩
theorem ae7 (l:List bg): ∀(r:Zd) (n:Nat),(FJ L7 l (r,n)).1=aD9 l r:=by
 induction l with
 |nil=>intro r n;rfl
 |cons o l e=>intro r n;exact e _ _
theorem X9 (l:List bg): ∀(r t:Zd) (k i:Nat),i<k->rg (FJ vh l (r,t,k)).2.1 (i:Int)=rg t (i:Int):=by
 induction l with
 |nil=>intro r t k i _;rfl
 |cons o l e=>
  intro r t k i hi;refine(e (KP o r) (t.set k (rg r o.2.1)) (k+1) i (by omega)).trans ?_;exact KO (by show k≠i;omega)
theorem Wt {R:Nat}{tt:Zd}: ∀(l:List bg) (r t:Zd) (k:Nat) (a:Zd),(∀o∈l,OB R o)->r.length=R->k+l.length<=t.length->(∀i:Nat,k<=i->i<k+l.length->rg tt (i:Int)=rg (FJ vh l (r,t,k)).2.1 (i:Int))->
  EH (tx tt) l ((FJ vh l (r,t,k)).1,a,k+l.length)=(r,IE l r a,k)
 |[],r,t,k,a,_,_,_,_=>rfl
 |o::l,r,t,k,a,z,D,B,g=>by
  rw[List.length_cons]at B g⊢;obtain⟨d,x,y,e1,F,H,I,J,K⟩:=vw (z o (by simp));have E:=Wt l (KP o r) (t.set k (rg r o.2.1)) (k+1) a (λp C=>z p (bB _ C)) ((HE o r).trans D) (by rw[aB];omega) (λi q u=>g i (by omega) (by omega))
  have j:rg tt (k:Int)=rg r o.2.1:=by
   rw[g k (Nat.le_refl _) (by omega)];refine(X9 l (KP o r) (t.set k (rg r o.2.1)) (k+1) k (by omega)).trans ?_;exact GM (by omega)
  show tx tt o (EH (tx tt) l ((FJ vh l (KP o r,t.set k (rg r o.2.1),k+1)).1,a,k+(l.length+1)))=_;rw[show k+(l.length+1)=k+1+l.length by omega,E];unfold tx;simp only[Nat.add_sub_cancel];rw[j]
  have A:(KP o r).set o.2.1.toNat (rg r o.2.1)=r:=by
   unfold KP;rw[List.set_set,e1,aD,IJ (by omega)]
  have q: ∀v,(GJ o (KP o r) v (rg r o.2.1)).1=r:=λv=>A
  have u: ∀v,(GJ o (KP o r) v (rg r o.2.1)).2=plO o r v:=λv=>by
   have e:r.set o.2.1.toNat (rg r o.2.1)=r:=by rw[e1,aD];exact IJ (by omega)
   unfold plO GJ;simp only[A,e]
  rw[q,u];rfl
theorem HC {R:Int}{l:List bg}(h:Prg R l f){w:Zd}(g:r.length<=R.toNat):P4 R f r w=IE f.unroll (fill R r) (fill R w):=by
 unfold P4 ny wl;have:=Wt (R:=R.toNat) (tt:=(FJ vh f.unroll (fill R r,List.replicate f.n 0,0)).2.1) f.unroll (fill R r) (List.replicate f.n 0) 0 (fill R w) (λo e=>(h.goodU o e).1) (ja g) (by rw[List.length_replicate,pa];omega) (λi _ _=>rfl);rw[Nat.zero_add,pa]at this;rw[this]
theorem Ub (f:Fo)(r:Zd):GN f r=aD9 f.unroll r:=ae7 _ _ _
end
section
open List renaming length_append -> aB, length_singleton -> aD, map_congr_left -> bB
def yt (l:Nat->Int)(d:Nat):Zd:=(List.range d).map l
theorem sZ (l:Nat->Int)(d:Nat):(yt l d).length=d:=by unfold yt;simp
theorem DM (l:Nat->Int)(d:Nat):yt l (d+1)=yt l d++[l d]:=by unfold yt;rw[List.range_succ,List.map_append];rfl
theorem Tm (l:Nat->Int)(d:Nat)(v:Int):yt (upd l d v) (d+1)=yt l d++[v]:=by
 rw[DM,rQ]
 congr 1
 unfold yt;exact bB λi hi=>G7 (by have:=List.mem_range.1 hi;omega)
theorem Yl (l:Nat->Int)(d:Nat)(v:Int):yt (upd l d v) d=yt l d:=by
 unfold yt;exact bB λi hi=>G7 (by have:=List.mem_range.1 hi;omega)
def stU (a0:Int)(a1:List bg)(code:List xI)(p d:Nat)(l:Nat->Int)(s:List bg):Int×Int×List bg×List xI×Int×List bg×Int×Int×Int×List bg×Int×Int×Int×Bool×Zd×List bg:=
 ((p:Int),a0,a1,code,a0,a1,0,0,a0,a1,0,0,0,Zb,yt l d,s)
def aF1 (o:bg)(s:List bg):List bg:=s++[o]
def VdU (N:Nat)(m:Nat)(s:List bg):Prop:=s.length+m<=N
theorem aF3 {P:Zd}:(P++[v])[P.length]?=O v:=by
 rw[List.getElem?_append_right (Nat.le_refl _),Nat.sub_self];rfl
theorem aZ7 {P:Zd}{w:Int}:(P++[v]).set P.length w=P++[w]:=by
 rw[List.set_append_right _ _ (Nat.le_refl _),Nat.sub_self];rfl
theorem Ue {a0:Int}{a1:List bg}{code:List xI}(u:code.length<=8192)(D: ∀(p:Nat) (e:bg) (g:Nat),code[p]?=O (ci e g)->g<=8192)(H:N<=1000000){good:bg->Prop}:Runs mr code (stU a0 a1 code) aF1 (VdU N) good where
 op:=by
  intro p d l s m o g h _ q C y;obtain⟨B,j⟩:=md u h;unfold VdU at y;refine⟨?_,by unfold VdU aF1;rw[aB,aD];omega⟩;unfold stU aF1;simp only[mr];rw[zB (show(p:Int)<((code.length:Nat):Int)by omega),zC,j];simp only[zG];rw[h];simp only[zG,ci];rw[zB (show o.1≠7 by omega),zC,zB (show o.1≠0 by omega)];simp only[zG,zC];rw[de (by omega) (by omega),zA (show¬o.1=7 by omega),zD,zA (show¬o.1=0 by omega),zD,ae (n:=(p:Int)+1) (by omega)];rfl
 rep:=by
  intro p d l s m o g h q C y;obtain⟨B,j⟩:=md u h;unfold stU;simp only[mr];rw[zB (show(p:Int)<((code.length:Nat):Int)by omega),zC,j];simp only[zG];rw[h];simp only[zG,ci];rw[zA (show¬o.1≠7 by omega),zD];simp only[zG,zD];rw[zB q,zC,sZ,de (by omega) (by omega),ae (n:=(p:Int)+1) (by omega),Tm];rfl
 nxt:=by
  intro p d l s m e g h q C E F y;obtain⟨B,j⟩:=md u h;unfold stU;simp only[mr];rw[zB (show(p:Int)<((code.length:Nat):Int)by omega),zC,j];simp only[zG];rw[h];simp only[zG,ci];rw[zB (show e.1≠7 by omega),zC,zA (show¬e.1≠0 by omega)];simp only[zG,zD];rw[zA (show¬e.1=7 by omega),zD,zB q,zC,sZ,ae (n:=((d+1:Nat):Int)-1) (by omega),show((d+1:Nat):Int)-1=(d:Int)by omega,bm (show d<d+1 by omega)]
  have e1:(yt l (d+1))[d]?=O (l d):=by
   have:=aF3 (P:=yt l d) (v:=l d);rw[sZ]at this;rw[DM,this]
  have z: ∀v,(yt l (d+1)).set d v=yt l d++[v]:=λv=>by
   have:=aZ7 (P:=yt l d) (v:=l d) (w:=v);rw[sZ]at this;rw[DM,this]
  have A: ∀v,(yt l d++[v])[d]?=O v:=λv=>by
   have:=aF3 (P:=yt l d) (v:=v);rw[sZ]at this;exact this
  simp only[zG];rw[e1];simp only[zG];rw[io (n:=l d-1) (by omega),z,aB,sZ,aD,bm (show d<d+1 by omega)];simp only[zG];rw[A];simp only[zG];have:=D p e g h;rw[Zf,zC,Tm,ae (n:=(g:Int)-1) (by omega),Zi,show(g:Int)-1+1=g by omega]
 out:=by
  intro p d l s m e g h q C E y;obtain⟨B,j⟩:=md u h;unfold stU;simp only[mr];rw[zB (show(p:Int)<((code.length:Nat):Int)by omega),zC,j];simp only[zG];rw[h];simp only[zG,ci];rw[zB (show e.1≠7 by omega),zC,zA (show¬e.1≠0 by omega)];simp only[zG,zD];rw[zA (show¬e.1=7 by omega),zD,zB q,zC,sZ,ae (n:=((d+1:Nat):Int)-1) (by omega),show((d+1:Nat):Int)-1=(d:Int)by omega,bm (show d<d+1 by omega)]
  have e1:(yt l (d+1))[d]?=O (l d):=by
   have:=aF3 (P:=yt l d) (v:=l d);rw[sZ]at this;rw[DM,this]
  have z: ∀v,(yt l (d+1)).set d v=yt l d++[v]:=λv=>by
   have:=aZ7 (P:=yt l d) (v:=l d) (w:=v);rw[sZ]at this;rw[DM,this]
  have A: ∀v,(yt l d++[v])[d]?=O v:=λv=>by
   have:=aF3 (P:=yt l d) (v:=v);rw[sZ]at this;exact this
  simp only[zG];rw[e1];simp only[zG];rw[io (n:=l d-1) (by omega),z,aB,sZ,aD,bm (show d<d+1 by omega)];simp only[zG];rw[A];simp only[zG];rw[Ze,zD,Zk,dh,ae (n:=(p:Int)+1) (by omega),Yl];rw[show((d:Int).toNat-0)=(yt l d).length by rw[sZ];omega,List.take_left];rfl
theorem bi7 (l:List bg): ∀s,FJ aF1 l s=s++l:=by
 induction l with
 |nil=>intro s;exact(List.append_nil s).symm
 |cons o l e=>intro s;exact(e _).trans (List.append_assoc ..)
theorem Mg : ∀(f:Fo) (p:Nat),∀x∈f.code p,x.2.2.2.2.2<=((p+f.len:Nat):Int)
 | .nil,p,x,h=>by cases h
 | .op o r,p,x,h=>by
  simp only[Fo.code,Fo.len]at h⊢;rcases List.mem_cons.1 h with rfl|h
  .show((0:Nat):Int)<=_;omega
  .have:=Mg r (p+1) x h;omega
 | .rep o b e r,p,x,h=>by
  simp only[Fo.code,Fo.len]at h⊢;rcases List.mem_cons.1 h with rfl|h
  .show((p+b.len+2:Nat):Int)<=_;omega
  rcases List.mem_append.1 h with h|h
  .have:=Mg b (p+1) x h;omega
  rcases List.mem_cons.1 h with rfl|h
  .show((p+1:Nat):Int)<=_;omega
  .have:=Mg r (p+b.len+2) x h;omega
theorem SV {R:Int}{l:List bg}(h:Prg R l f):yI R l=O (0,f.unroll):=by
 obtain⟨C,_,g,z⟩:=KQ (m:=0) (l:=λ_=>0) (s:=([]:List bg)) (d:=0) (p:=0) (A:=[]) (B:=[]) (Ue (a0:=R) (a1:=l) (N:=65536) (good:=λ_=>True) h.clen (λp e y q=>by have j:=Mg f.bare 0 _ (List.mem_of_getElem? q);have g:=h.clen;rw[Fo.code_len]at g;have j:(y:Int)<=_:=j;omega) (by omega)) f.bare (by simp) rfl (Fo.bare_ok f h.ok) f.bare_pos h.hi (λo u=>⟨trivial,(h.good o u).2⟩) (by rw[Fo.bare_n];have:=h.n;show 0+(f.n+0)<=_;omega);rw[Fo.bare_unroll,bi7,List.nil_append]at g;unfold yI;refine me (DG h) ?_;show cond (Zc ((0:Int)≠0)) _ _=_;rw[zA (by simp),zD];refine me (uD g h.steps (c:=(R,l,f.bare.code 0,R,l,0,0,R,l,0,0,0,Zb,f.unroll)) ?_) rfl;unfold stU;simp only[mr];rw[zA (by rw[Fo.code_len];omega),zD]
end
section
open Int renaming toNat_of_nonneg -> cB
open List renaming replicate -> aB, append_assoc -> aD, cons_append -> cD, flatten_cons -> dB, getElem?_append_right -> dD, getElem?_eq_getElem -> eD, length_append -> fB, mem_cons_of_mem -> fD, replicate_succ -> gD
open Nat renaming le_refl -> bB, mul_comm -> bD
namespace Fo
def Fit :Fo->Prop
 | .nil=>True
 | .op _ r=>r.Fit
 | .rep o b _ r=>(b.n<=65536/\b.n*tz o<=65536)/\b.Fit/\r.Fit
def plc :Fo->Nat->List Nat
 | .nil,_=>[]
 | .op _ r,p=>p::r.plc (p+1)
 | .rep o b _ r,p=>(aB (tz o) (b.plc (p+1))).flatten++r.plc (p+b.len+2)
theorem plc_len : ∀(f:Fo) (p:Nat),(f.plc p).length=f.n
 | .nil,_=>rfl
 | .op o r,p=>by simp only[plc,n,List.length_cons,plc_len r];omega
 | .rep o b e r,p=>by simp[plc,n,plc_len r,plc_len b,bD]
theorem blk_fit {n:Nat}{c:Int}(e:0<=v)(h:zw (n:Int) v=O c):n<=65536/\n*v.toNat<=65536:=by
 have g:=aH6 h e rfl;have:=(Hf (by omega) e h).2;unfold zw at h;split at h
 .omega
 split at h
 .cases h
 .omega
theorem fit_blk {n:Nat}(j:0<=v)(p:n<=65536)(g:n*v.toNat<=65536):zw (n:Int) v=O ((n*v.toNat:Nat):Int):=by
 unfold zw;have e:((v.toNat:Nat):Int)=v:=cB j;split
 .rename_i c;rw[show n=0 by omega,Nat.zero_mul];rfl
 rw[Zh,zF ?_,Int.natCast_mul,e];have:v.toNat<=65536 / n:=(Nat.le_div_iff_mul_le (by omega)).2 (by rw[bD];exact g);have q:((65536 / n:Nat):Int)=65536 / (n:Int):=by simp
 omega
theorem fit_of : ∀(f:Fo),f.Ok->(∀o∈f.src,0<=o.2.2.2.2)->∀{t:Int},Q9 f.src=O t->f.Fit
 | .nil,_,_,_,_=>trivial
 | .op o r,h,q,t,g=>by
  have z:=scan0 (f:= .op o r) h;obtain⟨_,_,j⟩:=K8 (o:=o) (s:=r.src) z (by have:=h.1;omega);have g:Q9 (o::r.src)=O t:=g;rw[j]at g;cases p:Q9 r.src with
  |none=>rw[p]at g;cases g
  |some m=>exact fit_of r h.2 (λx y=>q x (fD _ y)) p
 | .rep o b e r,h,q,t,g=>by
  obtain⟨⟨A,B⟩,j,C⟩:=h;have z:=scan0 (f:= .rep o b e r) ⟨⟨A,B⟩,j,C⟩;obtain⟨_,F⟩:=J4 (o:=o) (e:=e) (inner:=b.src) (rest:=r.src) z A B (scan0 j);have g:Q9 (o::(b.src++e::r.src))=O t:=g;rw[F]at g;obtain⟨w,E,g⟩:=ag g;obtain⟨c,D,g⟩:=ag g;have u: ∀x∈b.src,0<=x.2.2.2.2:=λx y=>q x (by simp only[src];simp[y])
  cases p:Q9 r.src with
  |none=>rw[p]at g;cases g
  |some m=>
   rw[Q9_n b j u E]at D;exact⟨blk_fit (q o (by simp[src])) D,fit_of b j u E,fit_of r C (λx y=>q x (by simp only[src];simp[y])) p⟩
theorem of_fit : ∀(f:Fo),f.Ok->(∀o∈f.src,0<=o.2.2.2.2)->f.Fit->Q9 f.src=O (f.n:Int)
 | .nil,_,_,_=>aK1
 | .op o r,h,g,E=>by
  obtain⟨_,_,p⟩:=K8 (o:=o) (s:=r.src) (scan0 (f:= .op o r) h) (by have:=h.1;omega);show Q9 (o::r.src)=_;rw[p,of_fit r h.2 (λx j=>g x (fD _ j)) E];show O ((1:Int)+(r.n:Int))=O (((1+r.n:Nat):Int));rw[Int.natCast_add];rfl
 | .rep o b e r,h,g,⟨⟨q,u⟩,y,z⟩=>by
  have F:=scan0 (f:= .rep o b e r) h;obtain⟨⟨A,B⟩,p,C⟩:=h;obtain⟨_,D⟩:=J4 (o:=o) (e:=e) (inner:=b.src) (rest:=r.src) F A B (scan0 p);show Q9 (o::(b.src++e::r.src))=_;rw[D,of_fit b p (λx j=>g x (by simp only[src];simp[j])) y];simp only[zG];rw[fit_blk (g o (by simp[src])) q u,of_fit r C (λx j=>g x (by simp only[src];simp[j])) z];show O (((b.n*o.2.2.2.2.toNat:Nat):Int)+(r.n:Int))=O (((b.n*tz o+r.n:Nat):Int));rw[Int.natCast_add];rfl
end Fo
theorem Prg.fit {R:Int}{l:List bg}(h:Prg R l f):f.Fit:=by
 have e:=h.w;unfold db at e;rw[<-h.src,zE (Fo.scan0 h.ok)]at e;cases g:Q9 f.src with
 |none=>rw[g]at e;injection e with _ e;cases e
 |some t=>exact Fo.fit_of f h.ok (λx j=>(h.ops.v x (h.src▸j)).1) g
def nI (l:List Nat):Zd:=l.map λ(i:Nat)=>(i:Int)
theorem Vw (a b:List Nat):nI (a++b)=nI a++nI b:=List.map_append
theorem Iy (a:List Nat):(nI a).length=a.length:=List.length_map ..
theorem aO6 (v:Nat)(a:List Nat):nI (aB v a).flatten=(aB v (nI a)).flatten:=by
 induction v with
 |zero=>rfl
 |succ v e=>rw[gD,dB,Vw,e,gD,dB]
theorem RE {α:Type}(v:Nat)(a:List α):(aB v a).flatten.length=v*a.length:=by simp
section
variable {l:List bg} {m:Zd}
theorem YG {r:Zd}{o:bg}{v:Nat}(p:o.2.2.2.2=(v:Int)){out:Zd}(g:out.length+v*r.length<=1000000)(j:v<=65536):
  aw (qb r o) gv (0,out)=O (out++(aB v r).flatten):=by
 have e:=pi (f:=qb r o) (n:=v) (λi=>out++(aB i r).flatten) (c:=out++(aB v r).flatten) (by omega) (λi hi=> ?_) ?_
 .simpa using e
 .have:(i+1)*r.length<=v*r.length:=Nat.mul_le_mul_right _ hi;rw[Nat.succ_mul]at this;simp only[qb];rw[Zf,zC,de (by rw[fB,RE];omega) (by omega),Zj,List.replicate_succ',List.flatten_append,aD];simp
 .simp only[qb];rw[Ze,zD]
theorem Rz (U:MOf l m)(z:m.length=l.length)(hl:l.length<=8192)(hv: ∀o∈l,NR o){k:Int->Int->List bg->Zd->Option (Zd)}{n e:Nat}
  (M: ∀(A B:List bg) (b:Fo),l=A++(b.src++B)->b.Ok->b.Fit->b.n<=65536->b.hi<n->k (A.length:Int) ((A.length+b.len:Nat):Int) l m=O (nI (b.plc A.length))):
  ∀(g:Fo) (A B:List bg) (out:Zd),l=A++(g.src++B)->g.Ok->g.Fit->g.hi<=n->A.length+g.len<=e->out.length+g.n<=1000000->
   ∃t,t<=g.len/\Reach (jo k (e:Int) l m) t ((A.length:Int),out) (((A.length+g.len:Nat):Int),out++nI (g.plc A.length))
 | .nil,A,B,out,_,_,_,_,_,_=>⟨0,bB _,by
  show Reach _ 0 ((A.length:Int),out) ((A.length:Int),out++[])
  rw[List.append_nil];exact Reach.refl⟩
 | .op o r,A,B,out,j,I,u,H,L,W=>by
  simp only[Fo.src,cD,Fo.hi,Fo.len,Fo.n]at j H L W;have q:A.length<l.length:=by rw[j];simp
  have p:l[A.length]=o:=by
   have:l[A.length]?=O o:=by rw[j,dD (bB _),Nat.sub_self];rfl
   rw[eD q]at this;injection this
  obtain⟨t,t1,D⟩:=Rz (e:=e) U z hl hv M r (A++[o]) B (out++[(A.length:Int)]) (by rw[j];simp) I.2 u H (by simp;omega) (by simp;omega);have F:(A++[o]).length=A.length+1:=by simp
  rw[F]at D;refine⟨1+t,by simp only[Fo.len];omega, ?_⟩
  have J:jo k (e:Int) l m ((A.length:Int),out)=O (.inl (((A.length+1:Nat):Int),out++[(A.length:Int)])):=by
   simp only[jo];rw[Zf,zC,dn q,p];simp only[zG];rw[zB (show o.1≠7 by have:=I.1;omega),zC,de (by omega) (by omega),Zi];rfl
  have y:=(Reach.one J).trans D;simp only[Fo.len,Fo.plc];rw[show A.length+(r.len+1)=A.length+1+r.len by omega];rw[aD]at y;exact y
 | .rep o b E r,A,B,out,j,I,u,H,L,W=>by
  obtain⟨⟨o1,o2⟩,o3,o4⟩:=I;obtain⟨⟨f1,f2⟩,f3,f4⟩:=u;simp only[Fo.src,cD,aD,Fo.hi,Fo.len,Fo.n]at j H L W;have q:A.length<l.length:=by rw[j];simp
  have p:l[A.length]=o:=by
   have:l[A.length]?=O o:=by rw[j,dD (bB _),Nat.sub_self];rfl
   rw[eD q]at this;injection this
  have V:=U A (r.src++B) o E b j o3 o1 o2;obtain⟨m1,m2⟩:=List.getElem?_eq_some_iff.1 V;have Z:rd m (A.length:Int)=O ((A.length+1+b.len:Nat):Int):=by rw[dn m1,m2]
  have hlen:A.length+(b.len+r.len+2)<=l.length:=by rw[j];simp[Fo.src_len];omega
  have C:=hv o (by rw[j];simp);unfold NR at C;have hvo:((tz o:Nat):Int)=o.2.2.2.2:=cB C.1;have K:(A++[o]).length=A.length+1:=by simp
  have hb:=M (A++[o]) (E::(r.src++B)) b (by rw[j];simp) o3 f3 f1 (by omega);rw[K]at hb;have F:(A++o::(b.src++[E])).length=A.length+b.len+2:=by simp[Fo.src_len];omega
  obtain⟨t,t1,D⟩:=Rz (e:=e) U z hl hv M r (A++o::(b.src++[E])) B (out++nI (aB (tz o) (b.plc (A.length+1))).flatten) (by rw[j];simp) o4 f4 (by omega) (by rw[F];omega) (by
   rw[fB,Iy,RE,Fo.plc_len,bD]
   omega)
  rw[F]at D;refine⟨1+t,by simp only[Fo.len];omega, ?_⟩
  have J:jo k (e:Int) l m ((A.length:Int),out)=O (.inl (((A.length+b.len+2:Nat):Int),out++nI (aB (tz o) (b.plc (A.length+1))).flatten)):=by
   simp only[jo];rw[Zf,zC,dn q,p];simp only[zG];rw[zA (show¬o.1≠7 by omega),zD,Z];simp only[zG];rw[ae (n:=(A.length:Int)+1) (by omega),show(A.length:Int)+1=((A.length+1:Nat):Int)by omega,hb];simp only[zG];rw[Iy,Fo.plc_len,aO6];by_cases hz:b.n=0
   .rw[Ze,zD];have:b.plc (A.length+1)=[]:=List.length_eq_zero_iff.1 (by rw[Fo.plc_len];exact hz);rw[Zi,this];simp[nI];omega
   .rw[Zf,zC];have hvs:tz o<=65536:=Nat.le_trans (Nat.le_mul_of_pos_left _ (by omega)) f2;refine me (YG (v:=tz o) hvo.symm (by rw[Iy,Fo.plc_len,bD];omega) hvs) ?_;rw[Zi];simp;omega
  have y:=(Reach.one J).trans D;simp only[Fo.len,Fo.plc];rw[show A.length+(b.len+r.len+2)=A.length+b.len+2+r.len by omega,Vw];rw[aD]at y;exact y
theorem Xb (y:MOf l m)(j:m.length=l.length)(q:l.length<=8192)(C: ∀o∈l,NR o): ∀(n:Nat) (A B:List bg) (g:Fo),l=A++(g.src++B)->g.Ok->g.Fit->g.n<=65536->g.hi<n->
  lr n (A.length:Int) ((A.length+g.len:Nat):Int) l m=O (nI (g.plc A.length))
 |0,A,B,g,_,_,_,_,h=>by omega
 |n+1,A,B,g,z,J,p,M,L=>by
  have u:A.length+g.len<=l.length:=by rw[z];simp[Fo.src_len]
  obtain⟨t,U,K⟩:=Rz y j q C (k:=lr n) (n:=n) (e:=A.length+g.len) (λA B b D E F H I=>Xb y j q C n A B b D E F H I) g A B [] z J p (by omega) (bB _) (by simp;omega);show zX (lr n) _ _ l m=_;unfold zX;refine me (uD K (by omega) (c:=nI (g.plc A.length)) ?_) rfl;simp only[jo];rw[Ze,zD];rfl
end
theorem Th {R:Int}{l:List bg}(h:Prg R l f):yK l=O (nI (f.plc 0)):=by
 have q:=h.ops.len;have p:bw l 0=O 0:=by rw[<-h.src];exact Fo.scan0 h.ok
 obtain⟨m,j,g⟩:=Ao (l:=l) (by omega) p;have e:f.len=l.length:=by rw[<-Fo.src_len,h.src]
 unfold yK Aa;refine me j ?_;have:=Xb (mOf g) g.len (by omega) h.ops.v 4000 [] [] f (by rw[h.src];simp) h.ok h.fit h.n (by have:=h.deep;omega);simp only[List.length_nil,Nat.zero_add]at this;rw[e]at this;exact me this rfl
end
section
open Int renaming toNat_natCast -> aD, toNat_of_nonneg -> fD
open List renaming replicate -> aB, getElem_mem -> bB, getElem?_eq_getElem -> bD, getD_eq_getElem?_getD -> cD, length_append -> dB, length_replicate -> dD, length_set -> eD, length_singleton -> fB, cons_append -> gD
open Nat renaming le_refl -> cB
abbrev LkS :=List Bool×List Bool×Int
def FO (l:List bg)(i:Nat):bg:=l.getD i (0,0,0,0,0)
def Vl (l:List bg)(i:Nat)(s:LkS):LkS:=if gB s.1 (FO l i).2.1 then(Mo (s.1.set (FO l i).2.1.toNat Zb) (rds (FO l i)),s.2.1.set i Za,s.2.2+1)else s
theorem Dd {k:Nat}(h:k<w.length):w[k]?=O (gB w (k:Int)):=by
 unfold gB;rw[aD,bD h,cD,bD h];rfl
theorem ah8 (ks:Zd)(w:List Bool)(h:i<ks.length):Mo w (ks.take (i+1))=(Mo w (ks.take i)).set ks[i].toNat Za:=by
 unfold Mo;rw[List.take_succ_eq_append_getElem h,List.foldl_append];rfl
theorem PL {f:Int×List Bool->Option ((Int×List Bool)⊕List Bool)}(p: ∀x∈ks,0<=x/\x.toNat<w.length)(q:ks.length<=1000000)
  (j: ∀(i:Nat) (w':List Bool),(hi:i<ks.length)->w'.length=w.length->f ((i:Int),w')=O (.inl (((i+1:Nat):Int),w'.set ks[i].toNat Za))) (g: ∀w',f ((ks.length:Int),w')=O (.inr w')):
  aw f gv (0,w)=O (Mo w ks):=by
 have e:=pi (f:=f) (n:=ks.length) (λi=>Mo w (ks.take i)) (c:=Mo w ks) (by omega) (λi hi=>by
  rw[j i _ hi (Hv _ _),ah8 ks w hi]) (by rw[g,List.take_length])
 exact e
theorem aY1 (j: ∀x∈ks,0<=x/\x.toNat<w.length)(u:ks.length<=1000000):aw (wE ks) gv (0,w)=O (Mo w ks):=by
 refine PL j u (λi p hi y=> ?_) (λp=> ?_)
 .obtain⟨q,g⟩:=j _ (bB hi);obtain⟨k,e⟩: ∃k:Nat,ks[i]=(k:Int):=⟨ks[i].toNat,(fD q).symm⟩
  rw[e]at g⊢;rw[aD]at g⊢;simp only[wE];rw[Zf,zC,bm hi];simp only[zG];rw[bD hi,e];simp only[zG];rw[bm (show k<p.length by omega)];simp only[zG];rw[Dd (by omega)];simp only[zG];rw[Zi];rfl
 .simp only[wE];rw[Ze,zD]
theorem aY0 (j: ∀x∈ks,0<=x/\x.toNat<w.length)(u:ks.length<=1000000):aw (wD ks) gv (0,w)=O (Mo w ks):=by
 refine PL j u (λi p hi y=> ?_) (λp=> ?_)
 .obtain⟨q,g⟩:=j _ (bB hi);obtain⟨k,e⟩: ∃k:Nat,ks[i]=(k:Int):=⟨ks[i].toNat,(fD q).symm⟩
  rw[e]at g⊢;rw[aD]at g⊢;simp only[wD];rw[Zf,zC,dn hi,e];simp only[zG];rw[bm (show k<p.length by omega)];simp only[zG];rw[Dd (by omega)];simp only[zG];rw[Zi];rfl
 .simp only[wD];rw[Ze,zD]
theorem aC5 {R:Int}{l:List bg}(e: ∀x∈ks,0<=x/\x<R)(p:ks.length<=1000000):ie ks R l=O Zb:=by
 have h:=yr (f:=ij ks R) (n:=ks.length) (c:= .inr ()) (by omega) (λi hi=>by
  obtain⟨g,j⟩:=e _ (bB hi);unfold ij;rw[Zf,zC,dn hi];simp only[zG];rw[Ze,zD,Ze,zD,Zi]
  rfl) (by
  unfold ij
  rw[Ze,zD])
 unfold ie ot;rw[h];rfl
section
variable {R:Int} {l:List bg} {f:Fo} (h:Prg R l f)
def YS (R:Int)(l:List bg)(u:List bg)(ks e:Zd)(j:Int)(s:LkS):Int×Int×(List bg)×(List bg)×(List Bool)×(List Bool)×Int×(Zd)×Int×(List bg)×(Zd)×Int×Int×Int×(List bg)×Int×Int×Int×Bool×Int×(Zd)×Bool×(Zd)×(List bg)×Int×(List bg)×Zd:=
 (j,R,l,u,s.1,s.2.1,s.2.2,e,R,l,ks,0,0,R,l,0,0,0,Zb,R,ks,Zb,ks,l,(l.length:Int),l,e)
def at3 (R:Int)(l:List bg)(n:Nat)(s:LkS):Prop:=s.1.length=R.toNat/\s.2.1.length=l.length/\s.2.2=(s.2.2.toNat:Int)/\s.2.2.toNat<=n
include h
theorem aO1 {u:List bg}{e:List Nat}{j:Nat}(J:j<e.length)(hn:e.length<=65536)(hi:e[j]<l.length)(I:0<(FO l e[j]).1/\(FO l e[j]).1<7){s:LkS}{n:Nat}(M:at3 R l n s)(L:n<=65536):
  tM (YS R l u ks (nI e) (j:Int) s)=O (.inl (YS R l u ks (nI e) ((j:Int)-1) (Vl l e[j] s)))/\at3 R l (n+1) (Vl l e[j] s):=by
 obtain⟨w,F,g⟩:=s;obtain⟨p,C,H,V⟩:=M;simp only at p C H V;have D:FO l e[j]=l[e[j]]:=by unfold FO;rw[cD,bD hi];rfl
 have K:FO l e[j]∈l:=by rw[D];exact bB hi
 have E:=h.regs _ K I;obtain⟨d,x,y,e1,W,Z,g1,g2,g3⟩:=vw E;have A:=NZ E;unfold Vl YS;simp only[tM];have B:j<(nI e).length:=by rw[Iy];exact J
 have q:(nI e)[j]=((e[j]:Nat):Int):=List.getElem_map ..;rw[Zf,zC,dn B,q];simp only[zG];rw[dn hi,<-D];simp only[zG];generalize FO l e[j]=o at*;rw[e1,aD,bm (show d<w.length by omega)];simp only[zG];rw[Dd (show d<w.length by omega)];simp only[zG];rw[ae (n:=(j:Int)-1) (by omega)];cases hw:gB w (d:Int)with
 |false=>exact⟨rfl,p,C,H,by show g.toNat<=n+1;omega⟩
 |true=>
  simp only[Bool.not_true,zD,if_true];refine⟨?_,(Hv _ _).trans ((eD ..).trans p),(eD ..).trans C,by show g+1=(((g+1).toNat:Nat):Int);omega,by show(g+1).toNat<=n+1;omega⟩;rw[show(d:Int)=o.2.1 from e1.symm,JA o];simp only[zG];refine me (aY1 (ks:=rds o) (w:=w.set d Zb) (λz U=>by rw[eD,p];exact A z U) (by unfold rds;split<;>(try split)<;>simp)) ?_;rw[bm (show e[j]<F.length by omega)];simp only[zG];rw[Dd (show e[j]<F.length by omega)];simp only[zG];rw[ae (n:=g+1) (by omega)]
omit h in
theorem Vh {α β:Type}(g:α->β->β)(b:β)(e:List α){j:Nat}(h:j<e.length):(e.drop j).foldr g b=g e[j] ((e.drop (j+1)).foldr g b):=by
 rw[List.drop_eq_getElem_cons h];rfl
theorem Vm {u:List bg}{ks:Zd}{e:List Nat}(p:e.length<=65536)(hi: ∀i∈e,i<l.length/\0<(FO l i).1/\(FO l i).1<7){s:LkS}(q:at3 R l 0 s): ∀n:Nat,n<=e.length->
  Reach tM n (YS R l u ks (nI e) ((e.length:Int)-1) s) (YS R l u ks (nI e) (((e.length-n:Nat):Int)-1) ((e.drop (e.length-n)).foldr (Vl l) s))/\at3 R l n ((e.drop (e.length-n)).foldr (Vl l) s)
 |0,_=>by
  rw[Nat.sub_zero,List.drop_length];exact⟨Reach.refl,q⟩
 |n+1,z=>by
  obtain⟨y,E⟩:=Vm p hi q n (by omega);have g:e.length-(n+1)<e.length:=by omega
  obtain⟨A,B⟩:=hi _ (bB g);have j:=Vh (Vl l) s e g;rw[show e.length-(n+1)+1=e.length-n by omega]at j;obtain⟨C,D⟩:=aO1 h (u:=u) (ks:=ks) g p A B E (by omega);rw[j];rw[show(((e.length-n:Nat):Int)-1)=((e.length-(n+1):Nat):Int)by omega]at y;exact⟨y.trans (Reach.one C),D⟩
omit h in
theorem KI : ∀(g:Fo),g.Ok->∀(A B:List bg),l=A++(g.src++B)->∀i∈g.plc A.length,i<l.length/\0<(FO l i).1/\(FO l i).1<7
 | .nil,_,_,_,_,i,hi=>by cases hi
 | .op o r,p,A,B,j,i,hi=>by
  simp only[Fo.src,gD]at j;rcases List.mem_cons.1 hi with rfl|hi
  .have q:A.length<l.length:=by rw[j];simp
   have:FO l A.length=o:=by unfold FO;rw[j,cD,List.getElem?_append_right (cB _),Nat.sub_self];rfl
   rw[this];exact⟨q,p.1⟩
  .have:=KI r p.2 (A++[o]) B (by rw[j];simp) i;rw[dB,fB]at this;exact this hi
 | .rep o b e r,p,A,B,j,i,hi=>by
  simp only[Fo.src,gD,List.append_assoc]at j;rcases List.mem_append.1 hi with hi|hi
  .obtain⟨v,u,hi⟩:=List.mem_flatten.1 hi;rw[(List.mem_replicate.1 u).2]at hi;have:=KI b p.2.1 (A++[o]) (e::(r.src++B)) (by rw[j];simp) i;rw[dB,fB]at this;exact this hi
  .have:=KI r p.2.2 (A++o::(b.src++[e])) B (by rw[j];simp) i;rw[show(A++o::(b.src++[e])).length=A.length+b.len+2 by simp[Fo.src_len];omega]at this;exact this hi
omit h in
theorem Vn (w:List Bool)(c:Int)(z:w.length<=1000): ∃r,aw (wF w) gv (0,c,[])=O r:=by
 obtain⟨r,u,_⟩:=xD (f:=wF w) (a:=((0:Int),c,([]:Zd))) (λs=> ∃i:Nat,s.1=i/\i<=w.length/\s.2.2.length<=i) (λs=>w.length-s.1.toNat) (λ_=>True) ⟨0,rfl,Nat.zero_le _,cB _⟩ (by show w.length-0<_;omega) (λs ⟨i,g,y,p⟩=>by
  obtain⟨j,k,q⟩:=s;simp only at g p;subst g;simp only[wF];by_cases e:i<w.length
  .left;rw[Zf,zC,bm e];simp only[zG];rw[Dd e];simp only[zG];rw[ae (n:=(i:Int)+1) (by omega),de (by omega) (by omega)];cases gB w (i:Int)with
   |true=>exact⟨_,rfl,⟨i+1,by show(i:Int)+1=_;omega,by omega,by show(q++[(i:Int)]).length<=_;rw[dB,fB];omega⟩,by show w.length-((i:Int)+1).toNat<w.length-(i:Int).toNat;omega⟩
   |false=>exact⟨_,rfl,⟨i+1,by show(i:Int)+1=_;omega,by omega,by show q.length<=_;omega⟩,by show w.length-((i:Int)+1).toNat<w.length-(i:Int).toNat;omega⟩
  .right;rw[Ze,zD]
   exact⟨_,rfl,trivial⟩)
 exact⟨r,u⟩
def need (R:Int)(l:List bg)(f:Fo)(ks:Zd):List Bool:=((f.plc 0).foldr (Vl l) (Mo (aB R.toNat Zb) ks,aB l.length Zb,0)).2.1
theorem Tg (p: ∀x∈ks,0<=x/\x<R)(I:ks.length<=1000):yJ R l ks=O (0,need R l f ks):=by
 have F:=h.R1;have H:=h.ops.len;have e: ∀i∈f.plc 0,i<l.length/\0<(FO l i).1/\(FO l i).1<7:=λi hi=>KI f h.ok [] [] (by rw[h.src];simp) i hi
 have j:(f.plc 0).length<=65536:=by rw[Fo.plc_len];exact h.n
 have g: ∀x∈ks,0<=x/\x.toNat<(aB R.toNat Zb).length:=λx A=>by
  rw[dD];have:=p x A;omega
 obtain⟨y,B,C,D,E⟩:=Vm h (u:=f.unroll) (ks:=ks) j e (s:=(Mo (aB R.toNat Zb) ks,aB l.length Zb,0)) ⟨by rw[Hv,dD],dD ..,rfl,cB _⟩ (f.plc 0).length (cB _);rw[Nat.sub_self,List.drop_zero]at y B C D E;unfold need;generalize (f.plc 0).foldr (Vl l) (Mo (aB R.toNat Zb) ks,aB l.length Zb,0)=s at*;obtain⟨q,z⟩:=Vn s.1 s.2.2 (by omega);unfold yJ;refine me (a:=(q.1,0,s.2.1,q.2)) ?_ rfl;unfold FP;refine me (SV h) ?_;show cond (Zc ((0:Int)≠0)) _ _=_;rw[zA (show¬(0:Int)≠0 by simp),zD,zB (show 0<=R by omega),zB (show R<=R by omega),zB (show 1*R<=140737488355328 by omega)];show gd Za _=_;rw[dh];refine me (aC5 p (by omega)) ?_;rw[zD];refine me (aY0 g (by omega)) ?_;rw[zB (show(0:Int)<=((l.length:Nat):Int)by omega),zB (show((l.length:Nat):Int)<=((l.length:Nat):Int)by omega),zB (show 1*((l.length:Nat):Int)<=140737488355328 by omega)]
 show gd Za _=_;rw[dh];refine me (Th h) ?_;rw[Iy,Zi,aD];refine me (uD y (by omega) (c:=(R,l,f.unroll,s.1,s.2.1,s.2.2,nI (f.plc 0),R,l,ks,0,0,R,l,0,0,0,Zb,R,ks,Zb,ks,l,(l.length:Int),l,nI (f.plc 0))) ?_) ?_
 .unfold YS;simp only[tM];rw[Ze,zD]
 .refine me z ?_;rfl
end
end
section
open Bool renaming and_eq_true -> fD, not_eq_true' -> gD, or_true -> iA
open List renaming length_cons -> bB, cons_append -> bD, length_append -> cB, replicate -> cD, append_assoc -> dB, length_singleton -> dD, mem_append -> eD, mem_cons -> fB, map_append -> iB, mem_cons_of_mem -> iC, append_nil -> iD, flatten_cons -> iE, length_replicate -> iF, length_take -> iG, map_flatten -> iH, map_replicate -> iI, mem_cons_self -> iJ, replicate_succ -> iK
open Nat renaming le_refl -> aB, le_trans -> aD, add_le_add_left -> iL, mul_le_mul_right -> iM, succ_le_succ -> iN
def OC (P:Nat->bg->Bool):Nat->List bg->List bg
 |_,[]=>[]
 |p,o::l=>if P p o then o::OC P (p+1) l else OC P (p+1) l
theorem Mr (P:Nat->bg->Bool): ∀(a b:List bg) (p:Nat),OC P p (a++b)=OC P p a++OC P (p+a.length) b
 |[],b,p=>rfl
 |o::a,b,p=>by
  simp only[bD,OC,bB];rw[Mr P a b (p+1),show p+1+a.length=p+(a.length+1)by omega];split<;>rfl
theorem Xk (P:Nat->bg->Bool): ∀(a:List bg) (p:Nat),(OC P p a).length<=a.length
 |[],_=>aB _
 |o::a,p=>by
  have:=Xk P a (p+1);simp only[OC];split
  .simp only[bB];omega
  .simp only[bB];omega
theorem Ui {P:Nat->bg->Bool}: ∀(a:List bg) (p:Nat),(∀j o,p<=j->j<p+a.length->P j o=Zb)->OC P p a=[]
 |[],_,_=>rfl
 |o::a,p,h=>by
  simp only[OC];rw[h p o (aB _) (by simp),Ui a (p+1) (λj o e g=>h j o (by omega) (by simp;omega))];rfl
theorem Uh {l:List bg}(P:Nat->bg->Bool){f:Int×List bg->Option ((Int×List bg)⊕List bg)}(p:l.length<=8192)
  (j: ∀(i:Nat) (out:List bg),(hi:i<l.length)->out.length<=8192->f ((i:Int),out)=O (.inl (((i+1:Nat):Int),if P i l[i]then out++[l[i]]else out))) (g: ∀out,f ((l.length:Int),out)=O (.inr out)):aw f gv (0,[])=O (OC P 0 l):=by
 have e:=pi (f:=f) (n:=l.length) (λi=>OC P 0 (l.take i)) (c:=OC P 0 l) (by omega) (λi hi=>by
  rw[j i _ hi (by have:=Xk P (l.take i) 0;rw[iG]at this;omega),List.take_succ_eq_append_getElem hi,Mr,iG,Nat.zero_add,Nat.min_eq_left (by omega)];simp only[OC];split
  .rfl
  .rw[iD]) (by rw[g,List.take_length])
 exact e
def brk (o:bg):Bool:=Zc (o.1=7)||Zc (o.1=0)
theorem RP (o:bg):wP o.1 o.2.1 o.2.2.1 o.2.2.2.1 o.2.2.2.2=O (brk o):=by
 unfold wP brk;by_cases h:o.1=7<;>simp[h]
namespace Fo
def sft (N:Nat->Bool):Fo->Nat->Fo
 | .nil,_=> .nil
 | .op o r,p=>if N p then .op o (r.sft N (p+1))else r.sft N (p+1)
 | .rep o b e r,p=> .rep o (b.sft N (p+1)) e (r.sft N (p+b.len+2))
def cat :Fo->Fo->Fo
 | .nil,g=>g
 | .op o r,g=> .op o (r.cat g)
 | .rep o b e r,g=> .rep o b e (r.cat g)
def opn :Fo->Fo
 | .nil=> .nil
 | .op o r=> .op o r.opn
 | .rep o b e r=>if b.n*tz o=0 then r.opn else if tz o=1 then b.opn.cat r.opn else .rep o b.opn e r.opn
theorem cat_src : ∀f g:Fo,(f.cat g).src=f.src++g.src
 | .nil,g=>rfl
 | .op o r,g=>by simp only[cat,src,cat_src r g,bD]
 | .rep o b e r,g=>by simp only[cat,src,cat_src r g,bD,dB]
theorem cat_unroll : ∀f g:Fo,(f.cat g).unroll=f.unroll++g.unroll
 | .nil,g=>rfl
 | .op o r,g=>by simp only[cat,unroll,cat_unroll r g,bD]
 | .rep o b e r,g=>by simp only[cat,unroll,cat_unroll r g,dB]
theorem cat_n : ∀f g:Fo,(f.cat g).n=f.n+g.n
 | .nil,g=>(Nat.zero_add _).symm
 | .op o r,g=>by simp only[cat,n,cat_n r g];omega
 | .rep o b e r,g=>by simp only[cat,n,cat_n r g];omega
theorem cat_hi : ∀f g:Fo,(f.cat g).hi=max f.hi g.hi
 | .nil,g=>(Nat.zero_max _).symm
 | .op o r,g=>by simp only[cat,hi,cat_hi r g]
 | .rep o b e r,g=>by simp only[cat,hi,cat_hi r g];omega
theorem cat_ok : ∀f g:Fo,f.Ok->g.Ok->(f.cat g).Ok
 | .nil,g,_,h=>h
 | .op o r,g,h,k=>⟨h.1,cat_ok r g h.2 k⟩
 | .rep o b e r,g,h,k=>⟨h.1,h.2.1,cat_ok r g h.2.2 k⟩
theorem cat_fit : ∀f g:Fo,f.Fit->g.Fit->(f.cat g).Fit
 | .nil,g,_,h=>h
 | .op o r,g,h,k=>cat_fit r g h k
 | .rep o b e r,g,h,k=>⟨h.1,h.2.1,cat_fit r g h.2.2 k⟩
structure Less (g f:Fo):Prop where
 ok:g.Ok
 fit:g.Fit
 n:g.n<=f.n
 hi:g.hi<=f.hi
 len:g.src.length<=f.src.length
 mem: ∀o∈g.src,o∈f.src
theorem Less.trans {a b c:Fo}(h:Less a b)(k:Less b c):Less a c:=
 ⟨h.ok,h.fit,aD h.n k.n,aD h.hi k.hi,aD h.len k.len,λo e=>k.mem o (h.mem o e)⟩
theorem sft_less (N:Nat->Bool): ∀(f:Fo) (p:Nat),f.Ok->f.Fit->Less (f.sft N p) f
 | .nil,p,_,_=>⟨trivial,trivial,aB _,aB _,aB _,λ_ h=>h⟩
 | .op o r,p,ok,fit=>by
  have h:=sft_less N r (p+1) ok.2 fit;simp only[sft];split
  .exact⟨⟨ok.1,h.ok⟩,h.fit,iL h.n 1,h.hi,by simp only[src,bB];exact iN h.len,λx hx=>by
    rcases List.mem_cons.1 hx with rfl|hx
    .exact iJ ..
    .exact iC _ (h.mem x hx)⟩
  .exact⟨h.ok,h.fit,aD h.n (Nat.le_add_left _ _),h.hi,aD h.len (by simp[src]),λx hx=>iC _ (h.mem x hx)⟩
 | .rep o b e r,p,ok,fit=>by
  have h:=sft_less N b (p+1) ok.2.1 fit.2.1;have k:=sft_less N r (p+b.len+2) ok.2.2 fit.2.2;have g:(b.sft N (p+1)).n*tz o<=b.n*tz o:=iM _ h.n;simp only[sft];refine⟨⟨ok.1,h.ok,k.ok⟩,⟨⟨aD h.n fit.1.1,aD g fit.1.2⟩,h.fit,k.fit⟩,Nat.add_le_add g k.n, ?_, ?_,λx hx=> ?_⟩
  .have j:=h.hi;have q:=k.hi;simp only[Fo.hi];omega
  .have j:=h.len;have q:=k.len;simp only[src,bB,cB];omega
  .simp only[src,fB,eD]at hx⊢;rcases hx with hx|hx|hx|hx
   .exact .inl hx
   .exact .inr (.inl (h.mem x hx))
   .exact .inr (.inr (.inl hx))
   .exact .inr (.inr (.inr (k.mem x hx)))
theorem opn_less : ∀(f:Fo),f.Ok->f.Fit->Less f.opn f
 | .nil,_,_=>⟨trivial,trivial,aB _,aB _,aB _,λ_ h=>h⟩
 | .op o r,ok,fit=>by
  have h:=opn_less r ok.2 fit
  exact⟨⟨ok.1,h.ok⟩,h.fit,iL h.n 1,h.hi,by simp only[opn,src,bB];exact iN h.len,λx hx=>by
   rcases List.mem_cons.1 hx with rfl|hx
   .exact iJ ..
   .exact iC _ (h.mem x hx)⟩
 | .rep o b e r,ok,fit=>by
  have h:=opn_less b ok.2.1 fit.2.1;have k:=opn_less r ok.2.2 fit.2.2;have q:=h.hi;have u:=k.hi;have y:=h.len;have z:=k.len;have A:=h.n;have B:=k.n;simp only[opn];split
  .refine⟨k.ok,k.fit, ?_, ?_, ?_,λx hx=> ?_⟩
   .simp only[Fo.n];omega
   .simp only[Fo.hi];omega
   .simp only[src,bB,cB];omega
   .simp only[src,fB,eD];exact .inr (.inr (.inr (k.mem x hx)))
  split
  .rename_i p j;refine⟨cat_ok _ _ h.ok k.ok,cat_fit _ _ h.fit k.fit, ?_, ?_, ?_,λx hx=> ?_⟩
   .rw[cat_n];simp only[Fo.n];rw[j,Nat.mul_one];omega
   .rw[cat_hi];simp only[Fo.hi];omega
   .rw[cat_src];simp only[src,bB,cB];omega
   .rw[cat_src]at hx;simp only[src,fB,eD]at hx⊢;rcases hx with hx|hx
    .exact .inr (.inl (h.mem x hx))
    .exact .inr (.inr (.inr (k.mem x hx)))
  .have g:b.opn.n*tz o<=b.n*tz o:=iM _ h.n;refine⟨⟨ok.1,h.ok,k.ok⟩,⟨⟨aD h.n fit.1.1,aD g fit.1.2⟩,h.fit,k.fit⟩,Nat.add_le_add g k.n, ?_, ?_,λx hx=> ?_⟩
   .simp only[Fo.hi];omega
   .simp only[src,bB,cB];omega
   .simp only[src,fB,eD]at hx⊢;rcases hx with hx|hx|hx|hx
    .exact .inl hx
    .exact .inr (.inl (h.mem x hx))
    .exact .inr (.inr (.inl hx))
    .exact .inr (.inr (.inr (k.mem x hx)))
theorem opn_unroll : ∀(f:Fo),f.opn.unroll=f.unroll
 | .nil=>rfl
 | .op o r=>by simp only[opn,unroll,opn_unroll r]
 | .rep o b e r=>by
  simp only[opn];split
  .rename_i c;have:(cD (tz o) b.unroll).flatten=[]:=List.length_eq_zero_iff.1 (by rw[RE,pa,Nat.mul_comm];exact c);simp only[unroll,this,opn_unroll r,List.nil_append]
  split
  .rename_i j g;rw[cat_unroll];simp only[unroll,g,opn_unroll b,opn_unroll r];simp
  .simp only[unroll,opn_unroll b,opn_unroll r]
theorem sft_src (N:Nat->Bool){P:Nat->bg->Bool}(h: ∀i o,P i o=(N i||brk o)): ∀(f:Fo) (p:Nat),f.Ok->OC P p f.src=(f.sft N p).src
 | .nil,_,_=>rfl
 | .op o r,p,g=>by
  have u:brk o=Zb:=by
   have:=g.1;unfold brk;rw[Ze,Ze];rfl
  simp only[src,OC,sft,sft_src N h r (p+1) g.2];rw[h,u,Bool.or_false];cases N p<;>rfl
 | .rep o b e r,p,g=>by
  have j:brk o=Za:=by unfold brk;rw[zB g.1.1];rfl
  have q:brk e=Za:=by unfold brk;rw[zB g.1.2,iA]
  simp only[src,OC,sft];rw[h,j,iA,zE rfl,Mr,sft_src N h b (p+1) g.2.1];simp only[OC];rw[h,q,iA,zE rfl,src_len,show p+1+b.len+1=p+b.len+2 by omega,sft_src N h r _ g.2.2]
theorem at_opN {l A B:List bg}(h:l=A++o::B):FO l A.length=o:=by
 unfold FO;rw[h,List.getD_eq_getElem?_getD,List.getElem?_append_right (aB _),Nat.sub_self];rfl
theorem unroll_plc {l:List bg}: ∀(f:Fo) (A B:List bg),l=A++(f.src++B)->f.unroll=(f.plc A.length).map (FO l)
 | .nil,_,_,_=>rfl
 | .op o r,A,B,h=>by
  simp only[src,bD]at h;have:=unroll_plc (l:=l) r (A++[o]) B (by rw[h];simp);rw[cB,dD]at this;simp only[unroll,plc,List.map_cons,at_opN h,this]
 | .rep o b e r,A,B,h=>by
  simp only[src,bD,dB]at h;have g:=unroll_plc (l:=l) b (A++[o]) (e::(r.src++B)) (by rw[h];simp);rw[cB,dD]at g;have j:=unroll_plc (l:=l) r (A++o::(b.src++[e])) B (by rw[h];simp);rw[show(A++o::(b.src++[e])).length=A.length+b.len+2 by simp[src_len];omega]at j;simp only[unroll,plc,iB,iH,iI,g,j]
theorem kpt_app (a b:List (bg×Bool)):WM (a++b)=WM a++WM b:=by unfold WM;rw[List.filter_append,iB]
theorem kpt_rep (v:Nat)(a:List (bg×Bool)):WM (cD v a).flatten=(cD v (WM a)).flatten:=by
 induction v with
 |zero=>rfl
 |succ v e=>rw[iK,iE,kpt_app,e,iK,iE]
theorem sft_unroll {l:List bg}(N:Nat->Bool): ∀(f:Fo) (A B:List bg),l=A++(f.src++B)->(f.sft N A.length).unroll=WM ((f.plc A.length).map λi=>(FO l i,N i))
 | .nil,_,_,_=>rfl
 | .op o r,A,B,h=>by
  simp only[src,bD]at h;have:=sft_unroll (l:=l) N r (A++[o]) B (by rw[h];simp);rw[cB,dD]at this;simp only[sft,plc,List.map_cons,at_opN h];cases N A.length with
  |true=>rw[zE rfl,af9];simp only[unroll,this]
  |false=>rw[zF (by simp),aX8,this]
 | .rep o b e r,A,B,h=>by
  simp only[src,bD,dB]at h;have g:=sft_unroll (l:=l) N b (A++[o]) (e::(r.src++B)) (by rw[h];simp);rw[cB,dD]at g;have j:=sft_unroll (l:=l) N r (A++o::(b.src++[e])) B (by rw[h];simp);rw[show(A++o::(b.src++[e])).length=A.length+b.len+2 by simp[src_len];omega]at j;simp only[sft,unroll,plc,iB,iH,iI,g,j,kpt_app,kpt_rep]
end Fo
theorem Prg.less {R:Int}{l:List bg}{g:Fo}(h:Prg R l f)(k:Fo.Less g f):Prg R g.src g:=by
 obtain⟨u,q,B,C⟩:=YH h.z;have A:=h.src;have e: ∀o∈g.src,o∈l:=λo j=>A▸k.mem o j
 have p:g.src.length<=l.length:=A▸k.len;have D:=h.deep;have E:=h.n;have F:=k.hi;have H:=k.n;unfold DH at u;unfold CG at q;rw[fD,decide_eq_true_eq,gD]at u q
 have y:db g.src=((g.n:Int),0):=by
  unfold db;rw[zE (Fo.scan0 k.ok),Fo.of_fit g k.ok (λo j=>(h.ops.v o (e o j)).1) k.fit];show(if 65536<(g.n:Int)then((0:Int),(9:Int))else((g.n:Int),0))=_;rw[Zh]
 refine⟨⟨aD p h.ops.len,λo j=>h.ops.v o (e o j)⟩,k.ok,rfl,Y7 ?_ ?_ ?_ (by rw[y]),h.R1,by omega,by omega,y,λo j=>h.regs o (e o j)⟩
 .unfold DH;rw[fD,decide_eq_true_eq,gD];exact⟨Fo.scan0 k.ok,List.any_eq_false.2 λo j=>List.any_eq_false.1 u.2 o (e o j)⟩
 .unfold CG;rw[fD,decide_eq_true_eq,gD];exact⟨q.1,List.any_eq_false.2 λo j=>List.any_eq_false.1 q.2 o (e o j)⟩
 .unfold H5;rw[zE (Fo.scan0 k.ok)];have:=Fo.hmax_src g k.ok [] 0 0;rw[iD]at this;rw[this];simp only[hmax];split<;>omega
theorem Y1 {R:Int}{l:List bg}(h:Prg R l f)(j: ∀x∈ks,0<=x/\x<R)(p:ks.length<=1000):
  Cq R l ks=O (R,0,(f.sft (λi=>gB (need R l f ks) (i:Int)) 0).src):=by
 have y:=h.ops.len
 have q:(need R l f ks).length=l.length:=by
  have e: ∀i∈f.plc 0,i<l.length/\0<(FO l i).1/\(FO l i).1<7:=λi hi=>KI f h.ok [] [] (by rw[h.src];simp) i hi
  have:=(Vm h (u:=f.unroll) (ks:=ks) (by rw[Fo.plc_len];exact h.n) e (s:=(Mo (cD R.toNat Zb) ks,cD l.length Zb,0)) ⟨by rw[Hv,iF],iF ..,rfl,aB _⟩ (f.plc 0).length (aB _)).2.2.1;rw[Nat.sub_self,List.drop_zero]at this;exact this
 unfold Cq;refine me (Tg h j p) ?_;show cond (Zc ((0:Int)≠0)) _ _=_;rw[zA (by simp),zD,<-Fo.sft_src _ (P:=λi o=>gB (need R l f ks) (i:Int)||brk o) (λ_ _=>rfl) f 0 h.ok,h.src];generalize need R l f ks=N at*;refine me (Uh (l:=l) (λi o=>gB N (i:Int)||brk o) (by omega) (λi g hi z=> ?_) (λg=> ?_)) ?_
 .simp only[By];rw[Zf,zC,dn hi];simp only[zG];rw[bm (show i<N.length by omega)];simp only[zG];rw[Dd (by omega),RP,de (by omega) (by omega),Zi];simp only[zG];cases gB N (i:Int)with
  |true=>rfl
  |false=>cases brk l[i]<;>rfl
 .simp only[By];rw[Ze,zD]
 .rw[zB rfl];rfl
end
section
open List renaming length_set -> aD, cons_append -> bB, getElem?_append_right -> bD, getElem?_eq_getElem -> cB, length_append -> cD, length_singleton -> dB
open Nat renaming le_refl -> aB
def Pc (G:List Bool)(a n:Nat):List Bool:=(List.range n).foldl (λG k=>G.set (a+k) Za) G
theorem KS (G:List Bool)(a n:Nat):Pc G a (n+1)=(Pc G a n).set (a+n) Za:=by
 unfold Pc;rw[List.range_succ,List.foldl_append];rfl
theorem GQ (G:List Bool)(a:Nat): ∀n,(Pc G a n).length=G.length
 |0=>rfl
 |n+1=>by rw[KS,aD,GQ G a n]
theorem Uj (G:List Bool)(a:Nat): ∀n,a+n<=G.length->∀j:Nat,gB (Pc G a n) (j:Int)=if a<=j/\j<a+n then Za else gB G (j:Int)
 |0,_,j=>by rw[Zh];rfl
 |n+1,h,j=>by
  rw[KS,EP (by rw[GQ];omega),Uj G a n (by omega)];by_cases c:j=a+n
  .rw[zE c,Zg]
  .rw[zF c];by_cases e:a<=j/\j<a+n
   .rw[zE e,Zg]
   .rw[zF e,Zh]
section
variable {l:List bg} {m S:Zd} {e0 e1:Int}
theorem Yx {n:Nat}{G0 G:List Bool}(u:l.length<=8192)(hi:i<m.length)(g:m[i]?=O ((i+n:Nat):Int))(p:G.length=l.length)(y:i+n<l.length):
  aw (tT (e0,m) ((i:Int),G0)) gv ((i:Int),G)=O (Pc G i (n+1)):=by
 have e: ∀k,k<=n+1->Reach (tT (e0,m) ((i:Int),G0)) k ((i:Int),G) (((i+k:Nat):Int),Pc G i k):=λk=>by
  induction k with
  |zero=>intro _;exact Reach.refl
  |succ k j=>
   intro q;refine(j (by omega)).trans (Reach.one ?_);simp only[tT];rw[bm hi];simp only[zG];rw[g];simp only[zG];rw[Zf,zC,bm (show i+k<(Pc G i k).length by rw[GQ];omega)];simp only[zG];rw[Dd (by rw[GQ];omega)];simp only[zG];rw[Zi,KS];rfl
 refine uD (e (n+1) (aB _)) (by omega) ?_;simp only[tT];rw[bm hi];simp only[zG];rw[g];simp only[zG];rw[Ze,zD]
theorem Yy {A B:List bg}{o e:bg}{b:Fo}{G:List Bool}(H:l.length<=8192)(D:Wn l m S)(y:NR o)(p:l=A++o::(b.src++e::B))(E:b.Ok)(I:o.1=7)(F:e.1=0)(C:G.length=l.length):
  qh l (e0,m) (e1,S) ((A.length:Int),G)=O (.inl (((A.length+1:Nat):Int),if b.n*tz o=0 then Pc G A.length (b.len+2)else if tz o=1 then(G.set A.length Za).set (A.length+1+b.len) Za else G)):=by
 obtain⟨M,U,K⟩:=D;obtain⟨z,L⟩:=K A B o e b p E I F;have u:l.length=A.length+1+(b.len+(B.length+1)):=by rw[p];simp[Fo.src_len];omega
 have j:A.length<l.length:=by omega
 have g:l[A.length]=o:=by
  have:l[A.length]?=O o:=by rw[p,bD (aB _),Nat.sub_self];rfl
  rw[cB j]at this;injection this
 unfold NR at y;have J:((tz o:Nat):Int)=o.2.2.2.2:=Int.toNat_of_nonneg y.1;simp only[qh];rw[Zf,zC,dn j,g];simp only[zG];rw[zA (show¬o.1≠7 by omega),zD,bm (show A.length<S.length by omega)];simp only[zG];rw[L];simp only[zG];rw[ae (n:=(A.length:Int)+1) (by omega)];by_cases c:b.n*tz o=0
 .rw[Zf,zC,zE c];refine me (Yx (i:=A.length) (n:=b.len+1) H (by omega) (by rw[z];congr 2;omega) C (by omega)) ?_;rfl
 .rw[Ze,zD,zF c];by_cases q:tz o=1
  .rw[Zf,zC,zE q,bm (show A.length<m.length by omega)];simp only[zG];rw[z];simp only[zG];rw[bm (show A.length<G.length by omega)];simp only[zG];rw[Dd (by omega)];simp only[zG];rw[bm (show A.length+1+b.len<(G.set A.length Za).length by rw[aD];omega)];simp only[zG];rw[Dd (by rw[aD];omega)];rfl
  .rw[Ze,zD,zF q];rfl
theorem P0 {A B:List bg}{o:bg}{G:List Bool}(q:l.length<=8192)(j:l=A++o::B)(p:o.1≠7):
  qh l (e0,m) (e1,S) ((A.length:Int),G)=O (.inl (((A.length+1:Nat):Int),G)):=by
 have g:A.length<l.length:=by rw[j];simp
 have e:l[A.length]=o:=by
  have:l[A.length]?=O o:=by rw[j,bD (aB _),Nat.sub_self];rfl
  rw[cB g]at this;injection this
 simp only[qh];rw[Zf,zC,dn g,e];simp only[zG];rw[zB p,zC,Zi];rfl
theorem JB (F:l.length<=8192)(M:Wn l m S)(U: ∀o∈l,NR o): ∀(g:Fo) (A B:List bg) (G:List Bool),l=A++(g.src++B)->g.Ok->G.length=l.length->
  ∃G',Reach (qh l (e0,m) (e1,S)) g.len ((A.length:Int),G) (((A.length+g.len:Nat):Int),G')/\G'.length=l.length/\(∀j:Nat,¬(A.length<=j/\j<A.length+g.len)->gB G' (j:Int)=gB G (j:Int))/\(∀j:Nat,gB G (j:Int)=Za->gB G' (j:Int)=Za)/\
   ((∀j:Nat,A.length<=j->j<A.length+g.len->gB G (j:Int)=Zb)->∀P:Nat->bg->Bool,(∀(j:Nat) o,A.length<=j->j<A.length+g.len->P j o= !gB G' (j:Int))->OC P A.length g.src=g.opn.src)
 | .nil,A,B,G,_,_,z=>⟨G,Reach.refl,z,λ_ _=>rfl,λ_ h=>h,λ_ _ _=>rfl⟩
 | .op o r,A,B,G,p,V,z=>by
  simp only[Fo.src,bB]at p;obtain⟨G',h1,h2,Z,h4,h5⟩:=JB F M U r (A++[o]) B G (by rw[p];simp) V.2 z;simp only[cD,dB]at h1 Z h5;simp only[Fo.len];refine⟨G', ?_,h2,λj hj=>Z j (by omega),h4,λE P C=> ?_⟩
  .have:=(Reach.one (P0 (e0:=e0) (e1:=e1) (m:=m) (S:=S) (G:=G) F p (by have:=V.1;omega))).trans h1;rw[show r.len+1=1+r.len by omega,show A.length+(1+r.len)=A.length+1+r.len by omega];exact this
  .simp only[Fo.src,Fo.opn,OC];rw[C A.length o (aB _) (by omega),Z A.length (by omega),E A.length (aB _) (by omega),zE (show(!Zb)=Za from rfl),h5 (λj a b=>E j (by omega) (by omega)) P (λj o a b=>C j o (by omega) (by omega))]
 | .rep o b e r,A,B,G,p,V,z=>by
  obtain⟨⟨o1,o2⟩,o3,o4⟩:=V;simp only[Fo.src,bB,List.append_assoc]at p;have hlen:l.length=A.length+1+(b.len+(1+(r.len+B.length))):=by rw[p];simp[Fo.src_len];omega
  have K:=Yy (e0:=e0) (e1:=e1) (G:=G) F M (U o (by rw[p];simp)) p o3 o1 o2 z;generalize I:(if b.n*tz o=0 then Pc G A.length (b.len+2)else if tz o=1 then(G.set A.length Za).set (A.length+1+b.len) Za else G)=G1 at K
  have l1:G1.length=l.length:=by
   rw[<-I];split
   .rw[GQ,z]
   split
   .rw[aD,aD,z]
   .exact z
  have u: ∀j:Nat,gB G1 (j:Int)=if b.n*tz o=0/\A.length<=j/\j<A.length+(b.len+2)∨b.n*tz o≠0/\tz o=1/\(j=A.length∨j=A.length+1+b.len)then Za else gB G (j:Int):=λj=>by
   rw[<-I];by_cases c:b.n*tz o=0
   .rw[zE c,Uj G A.length (b.len+2) (by omega) j];by_cases D:A.length<=j/\j<A.length+(b.len+2)
    .rw[zE D,zE (.inl ⟨c,D⟩)]
    .rw[zF D,zF (by rintro(h|h)<;>omega)]
   .rw[zF c];by_cases q:tz o=1
    .rw[zE q,EP (by rw[aD];omega),EP (by omega)];by_cases D:j=A.length+1+b.len
     .rw[zE D,zE (.inr ⟨c,q, .inr D⟩)]
     rw[zF D];by_cases W:j=A.length
     .rw[zE W,zE (.inr ⟨c,q, .inl W⟩)]
     .rw[zF W,zF (by rintro(h|h)<;>omega)]
    .rw[zF q,zF (by rintro(h|h)<;>omega)]
  obtain⟨G2,b1,b2,H,b4,b5⟩:=JB F M U b (A++[o]) (e::(r.src++B)) G1 (by rw[p];simp) o3 l1;have hAr:(A++o::(b.src++[e])).length=A.length+b.len+2:=by simp[Fo.src_len];omega
  have hAe:(A++o::b.src).length=A.length+1+b.len:=by simp[Fo.src_len];omega
  obtain⟨G3,r1,r2,L,r4,r5⟩:=JB F M U r (A++o::(b.src++[e])) B G2 (by rw[p];simp) o4 b2;have J:=P0 (e0:=e0) (e1:=e1) (m:=m) (S:=S) (G:=G2) F (show l=(A++o::b.src)++e::(r.src++B)by rw[p];simp) (by omega);rw[hAe]at J;simp only[cD,dB]at b1 H b5;rw[hAr]at r1 L r5;simp only[Fo.len];refine⟨G3, ?_,r2,λj hj=> ?_,λj hj=> ?_,λE P C=> ?_⟩
  .have:=(((Reach.one K).trans b1).trans (Reach.one J)).trans (show Reach _ r.len (((A.length+1+b.len+1:Nat):Int),G2) _ from by rw[show A.length+1+b.len+1=A.length+b.len+2 by omega];exact r1);rw[show b.len+r.len+2=1+b.len+1+r.len by omega,show A.length+(1+b.len+1+r.len)=A.length+b.len+2+r.len by omega];exact this
  .rw[L j (by omega),H j (by omega),u,zF (by rintro(h|h)<;>omega)]
  .refine r4 j (b4 j ?_);rw[u,hj];split<;>rfl
  .have hzr:=r5 (λj x y=>by rw[H j (by omega),u,zF (by rintro(h|h)<;>omega),E j (by omega) (by omega)]) P (λj o x y=>C j o (by omega) (by omega));simp only[Fo.src,Fo.opn,OC];rw[Mr];simp only[OC];rw[Fo.src_len,show A.length+1+b.len+1=A.length+b.len+2 by omega,hzr,C A.length o (aB _) (by omega),C (A.length+1+b.len) e (by omega) (by omega)];by_cases c:b.n*tz o=0
   .have ht: ∀j:Nat,A.length<=j->j<A.length+(b.len+2)->gB G3 (j:Int)=Za:=λj x y=>r4 j (b4 j (by rw[u,zE (.inl ⟨c,x,y⟩)]))
    rw[zE c,ht A.length (aB _) (by omega),ht (A.length+1+b.len) (by omega) (by omega),Ui b.src (A.length+1) (λj o x y=>by
     rw[Fo.src_len]at y;rw[C j o (by omega) (by omega),ht j (by omega) (by omega)]
     rfl)]
    rfl
   .have hzb:=b5 (λj x y=>by rw[u,zF (by rintro(h|h)<;>omega),E j (by omega) (by omega)]) P (λj o x y=>by rw[C j o (by omega) (by omega),L j (by omega)]);rw[zF c,hzb,L A.length (by omega),H A.length (by omega),L (A.length+1+b.len) (by omega),H (A.length+1+b.len) (by omega)];by_cases q:tz o=1
    .have v1:gB G1 (A.length:Int)=Za:=by rw[u,zE (.inr ⟨c,q, .inl rfl⟩)]
     have v2:gB G1 ((A.length+1+b.len:Nat):Int)=Za:=by rw[u,zE (.inr ⟨c,q, .inr rfl⟩)]
     rw[zE q,v1,v2,Fo.cat_src];rfl
    .have v1:gB G1 (A.length:Int)=Zb:=by rw[u,zF (by rintro(h|h)<;>omega),E A.length (aB _) (by omega)]
     have v2:gB G1 ((A.length+1+b.len:Nat):Int)=Zb:=by rw[u,zF (by rintro(h|h)<;>omega),E (A.length+1+b.len) (by omega) (by omega)]
     rw[zF q,v1,v2];rfl
end
theorem Y0 {R:Int}{l:List bg}(h:Prg R l f):Cp R l=O (R,0,f.opn.src):=by
 have L:=h.ops.len;have H:bw l 0=O 0:=by rw[<-h.src];exact Fo.scan0 h.ok
 obtain⟨m,E,C⟩:=Ao (l:=l) (by omega) H;obtain⟨q,F,M,U,g⟩:=JO (l:=l) (by omega) h.ops.v;rcases g with⟨g,_⟩|⟨_,_,I,V,J⟩
 .rw[h.w]at g;exact(g rfl).elim
 have B:=aI2 C I (λo A=>h.ops.v o A) J;have D:f.len=l.length:=by rw[<-Fo.src_len,h.src]
 obtain⟨G,u,K,_,_,y⟩:=JB (e0:=0) (e1:=q.2.1) (by omega) B h.ops.v f [] [] (List.replicate ((l.length:Nat):Int).toNat Zb) (by rw[h.src];simp) h.ok (by simp);simp only[List.length_nil,Nat.zero_add]at u y
 have e:=y (λj _ _=>by
  unfold gB;rw[List.getD_eq_getElem?_getD,List.getElem?_replicate]
  split<;>rfl) (λj _=> !gB G (j:Int)) (λ_ _ _ _=>rfl)
 rw[h.src]at e;unfold Cp;refine me (H1 h.ops) ?_;rw[h.z,zA (show¬(0:Int)≠0 by simp),zD];refine me E ?_;rw[Ia,F];simp only[zG];rw[zB (show(0:Int)<=((l.length:Nat):Int)by omega),zB (show((l.length:Nat):Int)<=((l.length:Nat):Int)by omega),zB (show 1*((l.length:Nat):Int)<=140737488355328 by omega)];show gd Za _=_;rw[dh];refine me (uD u (by omega) (c:=G) ?_) ?_
 .simp only[qh];rw[Ze,zD]
 refine me (Uh (l:=l) (λj _=> !gB G (j:Int)) (by omega) (λi p hi A=> ?_) (λp=> ?_)) ?_
 .simp only[Bx];rw[Zf,zC,dn hi];simp only[zG];rw[bm (show i<G.length by omega)];simp only[zG];rw[Dd (by omega),de (by omega) (by omega),Zi];simp only[zG];cases gB G (i:Int)<;>rfl
 .simp only[Bx];rw[Ze,zD]
 .rw[e];simp only[decide_true,zC,dh]
def YZ (R:Int)(l:List bg)(f:Fo)(ks:Zd):Fo:=(f.sft (λi=>gB (need R l f ks) (i:Int)) 0).opn
theorem Us {R:Int}{l:List bg}(h:Prg R l f)(ks:Zd):Fo.Less (YZ R l f ks) f:=by
 have k:=Fo.sft_less (λi=>gB (need R l f ks) (i:Int)) f 0 h.ok h.fit;exact(Fo.opn_less _ k.ok k.fit).trans k
theorem Qi {R:Int}{l:List bg}(h:Prg R l f)(e: ∀x∈ks,0<=x/\x<R)(g:ks.length<=1000):zd R l ks=O (R,0,(YZ R l f ks).src):=by
 unfold zd;refine me (Y1 h e g) ?_;show cond (Zc ((0:Int)≠0)) _ _=_;rw[zA (by simp),zD];exact me (Y0 (h.less (Fo.sft_less _ f 0 h.ok h.fit))) rfl
end
section
open Int renaming toNat_natCast -> dB
open List renaming replicate -> aB, length_take -> aD, getD_eq_getElem?_getD -> bB, foldr_cons -> bD, getElem?_eq_getElem -> cB, length_replicate -> cD
section
variable {l:List bg} {W0 N0:List Bool} {c0:Int}
theorem aX9 : ∀js:List Nat,(js.foldr (Vl l) (W0,N0,c0)).1=UL W0 (js.map (FO l))
 |[]=>rfl
 |i::js=>by
  simp only[bD,List.map_cons,UL,wst,<-aX9 js,Vl];split<;>rfl
theorem Rm : ∀js:List Nat,(js.foldr (Vl l) (W0,N0,c0)).2.1.length=N0.length
 |[]=>rfl
 |i::js=>by
  simp only[bD,Vl];split
  .exact(List.length_set ..).trans (Rm js)
  .exact Rm js
theorem Tj (Nf:Nat->Bool): ∀js:List Nat,(∀i∈js,i<N0.length)->(∀k:Nat,gB (js.foldr (Vl l) (W0,N0,c0)).2.1 (k:Int)=Za->Nf k=Za)->Qu W0 (js.map λi=>(FO l i,Nf i))
 |[],_,_=>trivial
 |i::js,hi,p=>by
  have e:i<(js.foldr (Vl l) (W0,N0,c0)).2.1.length:=by rw[Rm];exact hi i (by simp)
  simp only[bD,Vl]at p;refine⟨λg=> ?_,Tj Nf js (λj u=>hi j (List.mem_cons_of_mem _ u)) λk q=>p k ?_⟩
  .have g:gB (UL W0 ((js.map λi=>(FO l i,Nf i)).map (·.1))) (FO l i).2.1=Za:=g;rw[List.map_map,show((λx:bg×Bool=>x.1)∘λi=>(FO l i,Nf i))=FO l from rfl,<-aX9 (c0:=c0) (N0:=N0)]at g;refine p i ?_;rw[zE g,EP e,zE rfl]
  .split
   .rw[EP e,q];split<;>rfl
   .exact q
end
theorem JR {R:Int}{l:List bg}(h:Prg R l f)(g:r.length=R.toNat):
  (∀k:Nat,k<R.toNat->gB (Mo (aB R.toNat Zb) ks) (k:Int)=Za->rg (GN f r) (k:Int)=rg (GN (YZ R l f ks) r) (k:Int))/\
  ∀a:Zd,a.length=R.toNat->ck a->(∀k:Nat,k<R.toNat->gB (Mo (aB R.toNat Zb) ks) (k:Int)=Zb->rg a (k:Int)=0)->IE f.unroll r a=IE (YZ R l f ks).unroll r a:=by
 have e: ∀i∈f.plc 0,i<l.length/\0<(FO l i).1/\(FO l i).1<7:=λi hi=>KI f h.ok [] [] (by rw[h.src];simp) i hi
 have e1:f.unroll=((f.plc 0).map λi=>(FO l i,gB (need R l f ks) (i:Int))).map (·.1):=by
  rw[List.map_map];exact Fo.unroll_plc (l:=l) f [] [] (by rw[h.src];simp)
 have u:(YZ R l f ks).unroll=WM ((f.plc 0).map λi=>(FO l i,gB (need R l f ks) (i:Int))):=by
  unfold YZ;rw[Fo.opn_unroll];exact Fo.sft_unroll (l:=l) _ f [] [] (by rw[h.src];simp)
 have y:Qu (Mo (aB R.toNat Zb) ks) ((f.plc 0).map λi=>(FO l i,gB (need R l f ks) (i:Int))):=
  Tj (N0:=aB l.length Zb) (c0:=0) (λi=>gB (need R l f ks) (i:Int)) (f.plc 0) (λi hi=>by rw[cD];exact(e i hi).1) λk A=>A
 have:=dead (R:=R.toNat) (W:=Mo (aB R.toNat Zb) ks) (by rw[Hv,cD]) _ y (λp C=>by
  obtain⟨i,hi,rfl⟩:=List.mem_map.1 C;obtain⟨j,q⟩:=e i hi
  have B:FO l i∈l:=by
   unfold FO;rw[bB,cB j];exact List.getElem_mem j
  exact⟨h.regs _ B q,q⟩) r r g g (λ_ _ _=>rfl)
 rw[Ub,Ub,e1,u];exact⟨this.1,λa z E D=>(this.2 a z E D).1⟩
theorem aM2 {b:Zd}(p:a.length=b.length)(h: ∀k:Nat,k<a.length->rg a (k:Int)=rg b (k:Int)):a=b:=by
 refine List.ext_getElem p λi g j=> ?_
 have e1:=lm g;have e:=lm j;rw[cB g]at e1;rw[cB j,<-h i g,<-e1]at e;injection e with e
 exact e.symm
theorem Xf {n k:Nat}(h:k<n):rg (a.take n) (k:Int)=rg a (k:Int):=by
 unfold rg;rw[dB,bB,bB,List.getElem?_take_of_lt h]
theorem aD6 {R:Int}{k:Nat}(h:a.length<=k):rg (fill R a) (k:Int)=0:=by
 unfold rg fill;rw[dB,bB,List.getElem?_append_right h,List.getElem?_replicate];split<;>rfl
def uF (n:Nat):Zd:=nI (List.range n)
theorem NK {n:Nat}{x:Int}:x∈uF n↔0<=x/\x<n:=by
 unfold uF nI;rw[List.mem_map];constructor
 .rintro⟨i,hi,rfl⟩;have:=List.mem_range.1 hi;omega
 .intro h;exact⟨x.toNat,List.mem_range.2 (by omega),by omega⟩
theorem NU {R:Int}{n:Nat}(j:(n:Int)<=R){k:Nat}(g:k<n):gB (Mo (aB R.toNat Zb) (uF n)) (k:Int)=Za:=
 Vv _ _ _ (λx e=>by have:=NK.1 e;rw[cD];omega) (NK.2 (by omega))
theorem TE {R:Int}{n:Nat}(e:(n:Int)<=R)(g:a.length=n): ∀k:Nat,k<R.toNat->gB (Mo (aB R.toNat Zb) (uF n)) (k:Int)=Zb->rg (fill R a) (k:Int)=0:=λk _ h=>by
 by_cases c:k<n
 .rw[NU e c]at h;cases h
 .exact aD6 (by omega)
section
variable {c d:Cx} (h:c.Ok) (k:d.Ok)
structure Tdd (c d:Cx):Prop where
 X:d.X=c.X
 T:d.T=c.T
 R:d.R=c.R
 Q:d.Q=c.Q
 fl:d.fl=YZ c.R c.l c.fl (uF c.X.length)
 fk:d.fk=YZ c.Q c.k c.fk (uF 1)
variable (t:Tdd c d)
include h k t
theorem ap8 (n:Int)(p:x.length=c.X.length):ya d n x=ya c n x:=by
 obtain⟨⟨A,B⟩,y,u,D,E,C⟩:=h.lens;have z:(xL c n x).length=c.X.length+c.T.length+1:=BL n p;have e:(fill c.R (xL c n x)).length=c.R.toNat:=ja (by omega);obtain⟨e1,_⟩:=JR h.pl (ks:=uF c.X.length) e;have j:xL d n x=xL c n x:=by unfold xL;rw[t.T]
 have q:(GN c.fl (fill c.R (xL c n x))).length=c.R.toNat:=(Nt _ _).trans e;have g:(GN (YZ c.R c.l c.fl (uF c.X.length)) (fill c.R (xL c n x))).length=c.R.toNat:=(Nt _ _).trans e;unfold ya;rw[j,t.R,t.X,t.fl];refine aM2 (by rw[aD,aD,q,g]) λi hi=> ?_
 rw[aD,g]at hi;rw[Xf (by omega),Xf (by omega)];exact(e1 i (by omega) (NU (by omega) (by omega))).symm
theorem ap7 (p:x.length=c.X.length):lossV d x=lossV c x:=by
 obtain⟨⟨q,u⟩,j,g,z,A,y⟩:=h.lens;have e:(fill c.Q (x++(c.T++[]))).length=c.Q.toNat:=ja (by simp;omega);obtain⟨e1,_⟩:=JR h.pk (ks:=uF 1) e;unfold lossV;rw[t.T,t.Q,t.fk];exact(e1 0 (by omega) (NU (by omega) (by omega))).symm
theorem YY (n:Int)(q:x.length=c.X.length)(j:a.length=c.X.length)(u:ck a):ve d n x a=ve c n x a:=by
 obtain⟨⟨B,C⟩,z,y,E,F,D⟩:=h.lens;have A:(xL c n x).length=c.X.length+c.T.length+1:=BL n q;have p:(fill c.R (xL c n x)).length=c.R.toNat:=ja (by omega);obtain⟨_,g⟩:=JR h.pl (ks:=uF c.X.length) p;have e:xL d n x=xL c n x:=by unfold xL;rw[t.T]
 unfold ve;rw[HC k.pl (by rw[e,t.R];omega),HC h.pl (by omega),e,t.R,t.fl];exact(g _ (ja (by omega)) u.fill (TE (by omega) j)).symm
theorem YX (y:x.length=c.X.length):zO d x=zO c x:=by
 obtain⟨⟨z,A⟩,u,q,C,D,B⟩:=h.lens;have g:(fill c.Q (x++(c.T++[]))).length=c.Q.toNat:=ja (by simp;omega);obtain⟨_,e⟩:=JR h.pk (ks:=uF 1) g;have p:ck [1]:=λv j=>by rw[List.mem_singleton.1 j];unfold UK;omega
 unfold zO;rw[HC k.pk (by rw[t.T,t.Q];simp;omega),HC h.pk (by simp;omega),t.T,t.Q,t.fk];exact(e _ (ja (by simp;omega)) p.fill (TE (by omega) rfl)).symm
theorem RO (wT:ck c.T)(wX:ck c.X): ∀i,qX d i=qX c i
 |0=>t.X
 |i+1=>by
  rw[GV,GV,RO wT wX i];exact ap8 h k t _ (wh h wT wX i).1
theorem Xr (wT:ck c.T)(wX:ck c.X)(L:Nat): ∀i,uA d L i=uA c L i/\(uA c L i).1.length=c.X.length/\ck (uA c L i).1/\(uA c L i).2.length=c.T.length
 |0=>by
  obtain⟨⟨C,D⟩,z,y,F,H,E⟩:=h.lens;obtain⟨e,g⟩:=wh h wT wX L;obtain⟨j,p⟩:=Lw h wT e g;simp only[uA];rw[RO h k t wT wX L,YX h k t e,t.X,t.T];exact⟨rfl,by rw[aD,j];omega,p.take _,by rw[xp];exact cg _⟩
 |i+1=>by
  obtain⟨⟨C,D⟩,z,y,F,H,E⟩:=h.lens;obtain⟨A,q,u,B⟩:=Xr wT wX L i;obtain⟨e,g⟩:=wh h wT wX (L-(i+1));obtain⟨j,p⟩:=GK h wT (t:=((L-(i+1):Nat):Int)) e g q u;simp only[uA];rw[RO h k t wT wX,A,YY h k t _ e q u,t.X];exact⟨rfl,by rw[aD,j];omega,p.take _,by rw[xp];exact B⟩
end
end
section
open Bool renaming not_true -> aB
open Int renaming toNat_of_nonneg -> aD
open List renaming length_range -> bB
section
variable {R:Int} {l:List bg} {f:Fo}
theorem P3 (h:Prg R l f):(db l).1=(f.n:Int):=by rw[h.w]
theorem al7 (h:Prg R l f):Ls l=0/\J1 R l=0/\J2 l=0/\LX l=0:=Pw h.z
end
section
variable {m:Int} {X T:Zd} {R:Int} {l:List bg} {Q:Int} {k:List bg} {n b:Int} {fl fk gl gk:Fo}
theorem YE (p:Prg R l fl)(u:Prg Q k fk)(e:Prg R gl.src gl)(j:Prg Q gk.src gk)(I:Fo.Less gl fl)(H:Fo.Less gk fk){x t:Nat}(h:(pm m x t R l Q k n b).2.2.2.2=0):(pm m x t R gl.src Q gk.src n b).2.2.2.2=0:=by
 obtain⟨g,_⟩:=KH p.ops u.ops h;have J:=KA p.ops u.ops g;have V:=I.n;have U:=H.n
 have q:Cf m x t R gl.src Q gk.src n b=0:=by
  obtain⟨y,z,A,B⟩:=al7 e;obtain⟨C,D,E,F⟩:=al7 j
  have K:sP R gl.src Q gk.src=0:=by
   unfold sP;rw[y,z,A,B,C,D,E,F];simp
  have L:sP R l Q k=0:=(Ho g).1;unfold Cf at g⊢;rw[K];rw[L]at g;exact g
 unfold pm at h⊢;rw[zF (by rw[g];simp)]at h;rw[zF (by rw[q];simp)]
 have W:tK m gl.src gk.src<=tK m l k:=by
  unfold tK;rw[P3 p,P3 u,P3 e,P3 j];split<;>omega
 have M:rY m x R gl.src<=rY m x R l:=by
  unfold rY;rw[P3 p,P3 e];split<;>omega
 have Z:least m n*rY m x R gl.src<=least m n*rY m x R l:=Int.mul_le_mul_of_nonneg_left M (by have:=J.len;unfold least;split<;>omega);by_cases c:b<xM x t R Q+tK m l k+least m n*rY m x R l
 .rw[zE c]at h;cases h
 .rw[Zh]
theorem bj0 (g:Prg R l fl)(e:Prg Q k fk)(h:(pm m X.length T.length R l Q k n b).2.2.2.2=0):
  ∃c:Cx,c.Ok/\c.mode=m/\c.X=X/\c.T=T/\c.R=R/\c.l=l/\c.Q=Q/\c.k=k/\c.len=n/\c.words=b/\c.fl=fl/\c.fk=fk/\pm m X.length T.length R l Q k n b=(c.fixed,c.tp,c.sl,c.ns,0):=by
 obtain⟨y,ns,j,p,q,u⟩:=KH g.ops e.ops h;exact⟨⟨m,R,Q,n,b,X,T,l,k,fl,fk,xM X.length T.length R Q,tK m l k,rY m X.length R l,ns⟩,⟨g.ops,e.ops,y,g,e,rfl,rfl,rfl,p,q,u⟩,rfl,rfl,rfl,rfl,rfl,rfl,rfl,rfl,rfl,rfl,rfl,j⟩
end
section
variable {c:Cx} (h:c.Ok) (wT:ck c.T) (wX:ck c.X)
include h wT wX
theorem aW2 (j:c.mode=3)(e0:pm c.mode c.X.length c.T.length c.R c.l c.Q c.k c.len c.words=(c.fixed,c.tp,c.sl,c.ns,0))(g:l<=40)(e:c.mode≠2->c.len=l):
  ∃(en:Bool) (s:Dy) (as:List (Int×Int)),i6 c.mode c.X c.T c.R c.l c.Q c.k c.len c.words (l:Int)=O (.inr (.inl (Za,c.mode,en,Zb,as,c.fixed,c.tp,c.sl,c.ns,c.mode,c.R,c.Q,c.len,c.words,s.L,s.p,s.q,s.c0,s.c1,s.c2,s.c3,s.z,c.X,c.T,c.l,c.k,c.P,c.tk,s.lv,s.pk,c.words,s.W)))/\
   ce c.mode en Zb c.fixed c.tp c.sl c.ns c.mode c.R c.Q c.len c.words s.L s.p s.q s.c0 s.c1 s.c2 s.c3 s.z c.X c.T c.l c.k c.P c.tk s.lv s.pk c.words s.W=O (lossV c (qX c l),0,(uA c l l).1,(uA c l l).2):=by
 obtain⟨es,f,en,s,H,F⟩:=RY h e0 g e;refine⟨en,s,BI es,aq2 h j e0 g H F, ?_⟩;unfold ce;refine me (aD5 h (RZ h (H.well h (tf h))).1) ?_;rw[Rb h wT wX H F]
theorem aW3 (j:c.mode=1)(e0:pm c.mode c.X.length c.T.length c.R c.l c.Q c.k c.len c.words=(c.fixed,c.tp,c.sl,c.ns,0))(g:l<=40)(e:c.mode≠2->c.len=l):
  ∃(en:Bool) (s:Dy) (as:List (Int×Int)),i6 c.mode c.X c.T c.R c.l c.Q c.k c.len c.words (l:Int)=O (.inr (.inr (.inl (Za,c.mode,en,Zb,as,c.fixed,c.tp,c.sl,c.ns,c.mode,c.R,c.Q,c.len,c.words,s.L,s.p,s.q,s.c0,s.c1,s.c2,s.c3,s.z,c.X,c.T,c.l,c.k,c.P,c.tk,(c.off 8:Int),c.ns,(c.X.length:Int),s.lv,s.pk,c.words,s.W))))/\
   bt c.mode en Zb c.fixed c.tp c.sl c.ns c.mode c.R c.Q c.len c.words s.L s.p s.q s.c0 s.c1 s.c2 s.c3 s.z c.X c.T c.l c.k c.P c.tk (c.off 8:Int) c.ns (c.X.length:Int) s.lv s.pk c.words s.W=O (lossV c (qX c l),0,(uA c l l).1,(uA c l l).2):=by
 obtain⟨es,f,en,s,H,F⟩:=RY h e0 g e;refine⟨en,s,BI es,aq3 h j e0 g H F, ?_⟩;unfold bt;refine me (Xe h (RZ h (H.well h (tf h))).1) ?_;rw[Rb h wT wX H F]
theorem aW4 (j:c.mode=2)(e0:pm c.mode c.X.length c.T.length c.R c.l c.Q c.k c.len c.words=(c.fixed,c.tp,c.sl,c.ns,0))(g:l<=40)(e:c.mode≠2->c.len=l):
  ∃(en:Bool) (s:Dy) (as:List (Int×Int)),i6 c.mode c.X c.T c.R c.l c.Q c.k c.len c.words (l:Int)=O (.inr (.inr (.inr (Za,c.mode,en,Zb,as,c.fixed,c.tp,c.sl,c.ns,c.mode,c.R,c.Q,c.len,c.words,s.L,s.p,s.q,s.c0,s.c1,s.c2,s.c3,s.z,c.X,c.T,c.l,c.k,c.P,c.tk,(c.off 8:Int),c.ns,(c.X.length:Int),s.lv,s.pk,c.words,s.W))))/\
   bu c.mode en Zb c.fixed c.tp c.sl c.ns c.mode c.R c.Q c.len c.words s.L s.p s.q s.c0 s.c1 s.c2 s.c3 s.z c.X c.T c.l c.k c.P c.tk (c.off 8:Int) c.ns (c.X.length:Int) s.lv s.pk c.words s.W=O (lossV c (qX c l),0,(uA c l l).1,(uA c l l).2):=by
 obtain⟨es,f,en,s,H,F⟩:=RY h e0 g e;refine⟨en,s,BI es,aq4 h j e0 g H F, ?_⟩;unfold bu;refine me (Xe h (RZ h (H.well h (tf h))).1) ?_;rw[Rb h wT wX H F]
end
theorem YA {a1:Zd}(h:a1.length<=1000):aw (rH a1) gv (0,[])=O (uF a1.length):=by
 have e:=pi (f:=rH a1) (n:=a1.length) (λi=>uF i) (c:=uF a1.length) (by omega) (λi hi=> ?_) ?_
 .exact e
 .simp only[rH];rw[Zf,zC,de (by unfold uF;rw[Iy,bB];omega) (by omega),Zi];unfold uF;rw[List.range_succ,Vw];rfl
 .simp only[rH];rw[Ze,zD]
theorem aq5 {a0:Int}{a1 a2:Zd}{a3:Int}{a4:List bg}{a5:Int}{a6:List bg}{a7 a8 a9:Int}(h4: ∀o∈a4,NR o)(h6: ∀o∈a6,NR o)(D:ck a1)(w2:ck a2)(g4:a4.length<=3518437208780)(g6:a6.length<=3518437208780)(h9:0<=a9):uY a0 a1 a2 a3 a4 a5 a6 a7 a8 a9=O Za:=by
 obtain⟨b,hs,hb⟩:=aE8 (a0:=a0) (a1:=a1) (a2:=a2) (a3:=a3) (a5:=a5) (a7:=a7) (a8:=a8) h4 h6
 have no:rU a0 a1 a2 a3 a4 a5 a6 a7 a8=O Zb->uY a0 a1 a2 a3 a4 a5 a6 a7 a8 a9=O Za:=λM=>by
  unfold uY;refine me M ?_;rw[Bool.not_false,zC];exact me Xu rfl
 have I: ∀r,r.2.2.2.2≠0->pV a0 a1 a2 a3 a4 a5 a6 a7 a8=O r->rU a0 a1 a2 a3 a4 a5 a6 a7 a8=O Zb:=λr M e=>by
  unfold rU;refine me e ?_;refine me hs ?_;cases b with
  |false=>rfl
  |true=>rw[zC,zA M]
 by_cases L:4096<a4.length∨4096<a6.length
 .obtain⟨r,he,hp⟩:=ah5 (a0:=a0) (a1:=a1) (a2:=a2) (a3:=a3) (a5:=a5) (a7:=a7) (a8:=a8) g4 g6 L;exact no (I r he hp)
 have o4:OpsOk a4:=⟨by omega,h4⟩;have o6:OpsOk a6:=⟨by omega,h6⟩;by_cases hp:(pm a0 a1.length a2.length a3 a4 a5 a6 a7 a8).2.2.2.2≠0
 .exact no (I _ hp (HB o4 o6))
 cases b with
 |false=>
  refine no ?_;unfold rU;refine me (HB o4 o6) ?_;exact me hs rfl
 |true=>
  have M:rU a0 a1 a2 a3 a4 a5 a6 a7 a8=O Za:=by
   unfold rU;refine me (HB o4 o6) ?_;refine me hs ?_;rw[zC,zB (show(pm a0 a1.length a2.length a3 a4 a5 a6 a7 a8).2.2.2.2=0 by omega)]
  obtain⟨c,j,e0,e1,e2,e3,e4,e5,e6,e7,e8,e9⟩:=bi9 o4 o6 (show(pm a0 a1.length a2.length a3 a4 a5 a6 a7 a8).2.2.2.2=0 by omega);subst e0 e1 e2 e3 e4 e5 e6 e7 e8;have hmm:=j.num.mode;have hll:=j.num.len;obtain⟨⟨n1,n2⟩,nR,nQ,x1,x2,t2⟩:=j.lens
  obtain⟨l,hst,F,g⟩: ∃l:Nat,Cr c.mode c.X c.T c.R c.l c.Q c.k c.len c.words a9=O (l:Int)/\l<=40/\(c.mode≠2->c.len=l):=by
   unfold Cr;by_cases h2:c.mode=2
   .have hv:Int.tmod a9 41=a9 % 41:=Int.tmod_eq_emod_of_nonneg h9;refine⟨(a9 % 41).toNat, ?_,by omega,λk=>(k h2).elim⟩;rw[zB h2,zC,hv,Zi,aD (by omega)]
   .refine⟨c.len.toNat, ?_,by rcases hb rfl with k|k<;>omega,λ_=>by omega⟩;rw[zA h2,zD,aD hll.1]
  have ll:=Us j.pl (uF c.X.length);have lk:=Us j.pk (uF 1);have pl:=j.pl.less ll;have pk:=j.pk.less lk;have hp':=YE j.pl j.pk pl pk ll lk (m:=c.mode) (n:=c.len) (b:=c.words) (x:=c.X.length) (t:=c.T.length) (by rw[e9]);obtain⟨d,E,z,Z,d2,d3,d4,d5,d6,J,d8,d9,d10,d11⟩:=bj0 (X:=c.X) (T:=c.T) pl pk hp';have td:Tdd c d:=⟨Z,d2,d3,d5,d9,d10⟩;have hA:=Xr j E td w2 D l l;have hS:=RO j E td w2 D l;have hL:=ap7 j E td (wh j w2 D l).1;have A:pm d.mode d.X.length d.T.length d.R d.l d.Q d.k d.len d.words=(d.fixed,d.tp,d.sl,d.ns,0):=by rw[z,Z,d2,d3,d4,d5,d6,J,d8];exact d11
  have y:fd (lossV c (qX c l)) (uA c l l).1 (uA c l l).2 (lossV d (qX d l)) (uA d l l).1 (uA d l l).2=O Za:=by
   rw[hA.1,hS,hL];exact aQ3 (by rw[hA.2.1];omega) (by rw[hA.2.2.2];omega)
  have B:ck d.X:=by rw[Z];exact D
  have C:ck d.T:=by rw[d2];exact w2
  unfold uY;refine me M ?_;rw[aB,zD];refine me (YA (by omega)) ?_;refine me (Qi j.pl (λx hx=>by have:=NK.1 hx;omega) (by unfold uF;rw[Iy,bB];omega)) ?_;refine me (Qi j.pk (ks:=[0]) (λx hx=>by rw[List.mem_singleton.1 hx];omega) (by simp)) ?_;show cond (Zc ((0:Int)≠0)) _ (cond (Zc ((0:Int)≠0)) _ _)=_;rw[zA (show¬(0:Int)≠0 by simp),zD,zD];refine me hst ?_
  have U:i6 c.mode c.X c.T c.R (YZ c.R c.l c.fl (uF c.X.length)).src c.Q (YZ c.Q c.k c.fk (uF 1)).src c.len c.words (l:Int)=i6 d.mode d.X d.T d.R d.l d.Q d.k d.len d.words (l:Int):=by
   rw[z,Z,d2,d3,d4,d5,d6,J,d8]
  have p:i6 c.mode c.X c.T c.R (YZ c.R c.l c.fl (uF c.X.length)).src c.Q (YZ c.Q c.k c.fk [0]).src c.len c.words (l:Int)=i6 d.mode d.X d.T d.R d.l d.Q d.k d.len d.words (l:Int):=U;by_cases h3:c.mode=3
  .obtain⟨en,s,as,V,W⟩:=aW2 j w2 D h3 e9 F g;obtain⟨K,s',H,q,u⟩:=aW2 E C B (by rw[z];exact h3) A F (by rw[z,J];exact g);refine me V ?_;rw[cv,qx];refine me (p.trans q) ?_;rw[cv,qx];show cond (!Za) _ (cond (!Za) _ _)=_;rw[aB,zD,zD];refine me W ?_;refine me u ?_;show cond (Zc ((0:Int)=0)) (cond (Zc ((0:Int)=0)) _ _) _=_;rw[zB rfl,zC,zC];refine me y ?_;rw[zC];exact me Xu rfl
  by_cases h1:c.mode=1
  .obtain⟨en,s,as,V,W⟩:=aW3 j w2 D h1 e9 F g;obtain⟨K,s',H,q,u⟩:=aW3 E C B (by rw[z];exact h1) A F (by rw[z,J];exact g);refine me V ?_;rw[cv,cv,qx];refine me (p.trans q) ?_;rw[cv,cv,qx];show cond (!Za) _ (cond (!Za) _ _)=_;rw[aB,zD,zD];refine me W ?_;refine me u ?_;show cond (Zc ((0:Int)=0)) (cond (Zc ((0:Int)=0)) _ _) _=_;rw[zB rfl,zC,zC];refine me y ?_;rw[zC];exact me Xu rfl
  .obtain⟨en,s,as,V,W⟩:=aW4 j w2 D (by omega) e9 F g;obtain⟨K,s',H,q,u⟩:=aW4 E C B (by rw[z];omega) A F (by rw[z,J];exact g);refine me V ?_;rw[cv,cv,cv];refine me (p.trans q) ?_;rw[cv,cv,cv];show cond (!Za) _ (cond (!Za) _ _)=_;rw[aB,zD,zD];refine me W ?_;refine me u ?_;show cond (Zc ((0:Int)=0)) (cond (Zc ((0:Int)=0)) _ _) _=_;rw[zB rfl,zC,zC];refine me y ?_;rw[zC];exact me Xu rfl
end
end Go.V
