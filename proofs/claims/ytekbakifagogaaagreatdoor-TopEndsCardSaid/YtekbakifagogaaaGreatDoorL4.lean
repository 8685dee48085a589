/- A part of the proof. No condition. -/
import Derived.Test.YtekbakifagogaaaGreatDoorL3
import Derived.Test.YtekbakifagogaaaGreatDoorA10
set_option linter.unusedVariables false
set_option linter.unusedSimpArgs false
set_option linter.unusedSectionVars false
namespace Go.V
open Go.Ab
open Option renaming some->O,none->Y
open Bool renaming true->Za,false->Zb
open Decidable renaming decide->Zc
variable {s:Dy}{W W' r t w:Zd}{B a b x:Int}{i j k:Nat}{l:List ci}
section
open Int renaming reduceEq -> aD, toNat_of_nonneg -> bB
open Nat renaming reduceSub -> aB
set_option maxRecDepth 100000
def aC0 (a n p q L d:Int)(l:Zd):Int×Int×Int×Int×Int×Zd:=
 if jQ a n=Zb∨7<a then(2,p,q,L,d,l)
 else if(2<=a/\a<=4)/\(l.length:Int)<=n then(2,p,q,L,d,l)
 else if a=1 then(if L-p<n then(17,p,q,L,d,l)else(0,p+n,q,L,d+n,l))
 else if a=2 then(if 0<=rg l n then(15,p,q,L,d,l)else(0,p,q,L,d,l.set n.toNat p))
 else if a=3 then(if rg l n<0 then(16,p,q,L,d,l)else(0,rg l n,q,L,d,l))
 else if a=4 then(if rg l n<0 then(16,p,q,L,d,l)else(0,p,q,L,d,l.set n.toNat (-1)))
 else if a=5 then(if q≠ -1 then(18,p,q,L,d,l)else if p≠L then(17,p,q,L,d,l)else(0,p,p,L,d,l))
 else if a=6 then(if q≠ -1 then(18,p,q,L,d,l)else if p≠L-1 then(17,p,q,L,d,l)else(0,p,p,L,d,l))
 else(if q<=0 then(18,p,q,L,d,l)else if p≠q-1 then(17,p,q,L,d,l)else(0,p,p,L,d,l))
theorem Ui :Nat.beq 0 0=Za:=rfl
theorem Uh (n:Nat):Nat.beq (n+1) 0=Zb:=rfl
theorem Cp {n:Int}(h: ¬(jQ a n=Zb∨7<a)):jQ a n=Za/\(a=1∨a=2∨a=3∨a=4∨a=5∨a=6∨a=7):=by
 have d:jQ a n=Za:=by
  cases g:jQ a n with
  |true=>rfl
  |false=>exact(h (.inl g)).elim
 refine⟨d, ?_⟩;have m: ¬a<1:=λe=>by unfold jQ at d;rw[zE e]at d;cases d
 omega
theorem Cq {n:Int}(h:jQ a n=Za)(e:1<=a/\a<=4):0<=n/\n<1048576/\(a=1->1<=n/\n<65536):=by
 unfold jQ at h;rw[Zh,Zh]at h;by_cases d:a=1
 .rw[zE d]at h;have:=of_decide_eq_true h;omega
 .rw[zF d,Zg]at h;have:=of_decide_eq_true h;omega
theorem SC {n p q L o:Int}{l:Zd}(M:0<=L/\L<=65535)(N:0<=p/\p<=L)(Q: -1<=q/\q<=L)(T:0<=o/\o<=1000000000000):jb a n p q L o l=O (aC0 a n p q L o l):=by
 unfold jb aC0;rw[Oh];simp only[zG];by_cases h1:jQ a n=Zb∨7<a
 .rw[zE h1]
  have e:(cond (!jQ a n) (O Za) (O (Zc (7<a))))=O Za:=by
   rcases h1 with h1|h1
   .rw[h1];rfl
   .rw[zB h1];cases jQ a n<;>rfl
  rw[e];rfl
 rw[zF h1];obtain⟨A,K⟩:=Cp h1;have J: ¬7<a:=λh=>h1 (.inr h)
 rw[A,zA J];simp only[Bool.not_true,zD,zG];by_cases u:(2<=a/\a<=4)/\(l.length:Int)<=n
 .rw[zE u,zB u.1.1,zB u.1.2,zB u.2];rfl
 rw[zF u]
 have e:(cond (Zc (2<=a)) (cond (Zc (a<=4)) (cond (Zc ((l.length:Int)<=n)) (O (Sum.inl ())) (O (Sum.inr ()))) (O (Sum.inr ()))) (O (Sum.inr ())):Option (Unit⊕Unit))=O (.inr ()):=by
  by_cases d:2<=a
  .rw[zB d];by_cases g:a<=4
   .rw[zB g,zA (λC=>u ⟨⟨d,g⟩,C⟩)];rfl
   .rw[zA g];rfl
  .rw[zA d];rfl
 rw[e];simp only[zG,cb,mj]
 have m:(2<=a/\a<=4)->0<=n/\n.toNat<l.length/\ix n l.length=O n.toNat/\l[n.toNat]?=O (rg l n):=λF=>by
  have E:=Cq A ⟨by omega,F.2⟩
  have v:n.toNat<l.length:=by
   have: ¬(l.length:Int)<=n:=λC=>u ⟨F,C⟩
   omega
  have D:n=((n.toNat:Nat):Int):=by omega
  refine⟨E.1,v, ?_, ?_⟩
  .conv=>lhs;rw[D]
   exact bp v
  .have:=jc v;rw[<-D]at this;exact this
 rcases K with rfl|rfl|rfl|rfl|rfl|rfl|rfl
 .have E:=Cq A (by omega);rw[show ix 1 8=O 1 from rfl];simp only[zG,aB,Ui,Uh,zC,zD];rw[zE trivial];unfold kS;rw[ad (n:=L-p) (by omega),ag];by_cases d:L-p<n
  .rw[zE d,zE d];rfl
  .rw[zF d,zF d,ad (n:=p+n) (by omega),ad (n:=o+n) (by omega)];rfl
 .obtain⟨H,I,y,z⟩:=m (by omega);rw[show ix 2 8=O 2 from rfl];simp only[zG,aB,Ui,Uh,zC,zD];rw[zF (by decide),zE trivial];unfold mn;rw[y];simp only[zG];rw[z];simp only[zG,ag];by_cases d:0<=rg l n
  .rw[zE d,zE d];rfl
  .rw[zF d,zF d];rfl
 .obtain⟨H,I,y,z⟩:=m (by omega);rw[show ix 3 8=O 3 from rfl];simp only[zG,aB,Ui,Uh,zC,zD];rw[zF (by decide),zF (by decide),zE trivial];unfold kT;rw[y];simp only[zG];rw[z];simp only[zG,ag];by_cases d:rg l n<0
  .rw[zE d,zE d];rfl
  .rw[zF d,zF d];rfl
 .obtain⟨H,I,y,z⟩:=m (by omega);rw[show ix 4 8=O 4 from rfl];simp only[zG,aB,Ui,Uh,zC,zD];rw[zF (by decide),zF (by decide),zF (by decide),zE trivial];unfold ng;rw[y];simp only[zG];rw[z];simp only[zG,ag];by_cases d:rg l n<0
  .rw[zE d,zE d];rfl
  .rw[zF d,zF d];rfl
 .rw[show ix 5 8=O 5 from rfl];simp only[zG,aB,Ui,Uh,zC,zD];rw[zF (by decide),zF (by decide),zF (by decide),zF (by decide),zE trivial];unfold nh gT;rw[ad (n:=L-0) (by omega),ag];by_cases d:q≠ -1
  .rw[zE d,zE d];rfl
  .rw[zF d,zF d,zB (show q= -1 by omega),Bool.and_true,Int.sub_zero];by_cases g:p=L
   .rw[zB g,zF (λk=>k g)];rfl
   .rw[zA g,zE g];rfl
 .rw[show ix 6 8=O 6 from rfl];simp only[zG,aB,Ui,Uh,zC,zD];rw[zF (by decide),zF (by decide),zF (by decide),zF (by decide),zF (by decide),zE trivial];unfold nc gT;rw[ad (n:=L-1) (by omega),ag];by_cases d:q≠ -1
  .rw[zE d,zE d];rfl
  .rw[zF d,zF d,zB (show q= -1 by omega),Bool.and_true];by_cases g:p=L-1
   .rw[zB g,zF (λk=>k g)];rfl
   .rw[zA g,zE g];rfl
 .rw[show ix 7 8=O 7 from rfl];simp only[zG,aB,Ui,Uh,zC,zD];rw[zF (by decide),zF (by decide),zF (by decide),zF (by decide),zF (by decide),zF (by decide)];unfold kU;rw[ag];by_cases d:q<=0
  .rw[zE d,zE d];rfl
  .rw[zF d,zF d,ad (n:=q-1) (by omega),ag];by_cases g:p≠q-1
   .rw[zE g,zE g];rfl
   .rw[zF g,zF g];rfl
section
variable {c:Cx}
theorem Hn {L:Int}(g: ∀k,k<c.ns.toNat->0<=iA c W k/\iA c W k<=L+1): ∀t∈lV c W,-1<=t/\t<=L:=λt d=>by
 unfold lV at d;obtain⟨k,e,rfl⟩:=List.mem_map.1 d;have:=g k (List.mem_range.1 e);omega
theorem an9 {n:Int}(h:0<=n)(e:n.toNat<c.ns.toNat):rg (lV c W) n=iA c W n.toNat-1:=by
 have g:=Ex (c:=c) (W:=W) e;have d:=jc (r:=lV c W) (k:=n.toNat) (by rw[pX];exact e);rw[g,bB h]at d;injection d with d
 exact d.symm
theorem Dp.in' (h:Dp B s)(d:B<=2305843009213693952):(0<=s.c0/\s.c0<=2305843009213693952)/\(0<=s.c1/\s.c1<=2305843009213693952)/\(0<=s.c2/\s.c2<=2305843009213693952)/\(0<=s.c3/\s.c3<=2305843009213693952):=by
 unfold Dp at h;omega
theorem aa1 (d:k<c.ns.toNat)(e:0<iA c W k):0<iP c W:=by
 unfold iP;exact List.countP_pos_iff.2 ⟨k,List.mem_range.2 d,zB e⟩
theorem XT (h:c.Ok)(hi:Inv c s)(p:0<iP c s.W):c.sl<=s.lv:=by
 have n:=h.num;have e:=hi.lv;have g:=n.fixed;have d:=n.sl;have m:1<=c.sl:=by rw[d];have:=n.R;split<;>omega
 have o:c.sl*1<=c.sl*(iP c s.W:Int):=Int.mul_le_mul_of_nonneg_left (by omega) (by omega);have:=n.R;have:=n.Q;omega
theorem do2 (h:c.Ok)(D:c.mode≠3)(hi:Inv c s)(hc:Dp B s)(hB:B<=2305843009213693952){n:Int}:
  jC a n c.fixed c.tp c.sl c.ns c.mode c.R c.Q c.len c.words s.L s.p s.q s.c0 s.c1 s.c2 s.c3 s.z c.X c.T c.l c.k c.P c.tk (c.off 8:Int) c.ns (c.X.length:Int) s.lv s.pk c.words s.W=O (aA1 c (HS c a n s)):=by
 have nm:=h.num;have I:=hi.w;have hL:=hi.L;have hp:=hi.p;have hq:=hi.q;have E:=hi.pk;have V:=h.ns;obtain⟨k0,k1,k2,k3⟩:=hc.in' hB;obtain⟨K,g2,M,g4⟩:=GW h hi;have Z:=nm.tp;rw[zF D]at Z
 have g:(lV c s.W).length<1000000:=by
  rw[pX];rcases Nat.eq_zero_or_pos c.ns.toNat with h0|h0
  .omega
  .have:=(wW h D h0).2.2;omega
 unfold jC kP;simp only[zG];rw[zA D,zD];unfold dh;rw[Hm h D I (λk N=>by have:=hi.tag k N;omega)];simp only[zG];rw[Cf hL hp hq g (Hn hi.tag)];simp only[zG,cb];rw[SC hL hp hq (by omega)];simp only[zG];unfold aC0 HS;by_cases F:jQ a n=Zb∨7<a
 .rw[zE F,zE F,zB (by simp),zC];rfl
 rw[zF F,zF F];obtain⟨h2,N⟩:=Cp F;rw[pX,bB V.1];by_cases H:(2<=a/\a<=4)/\c.ns<=n
 .rw[zE H,zE H,zB (by simp),zC];rfl
 rw[zF H,zF H]
 have y:(2<=a/\a<=4)->n=((n.toNat:Nat):Int)/\n.toNat<c.ns.toNat/\rg (lV c s.W) n=iA c s.W n.toNat-1:=λhs=>by
  have hn:=Cq h2 ⟨by omega,hs.2⟩
  have o:n.toNat<c.ns.toNat:=by
   have: ¬c.ns<=n:=λh7=>H ⟨hs,h7⟩
   omega
  exact⟨by omega,o,an9 hn.1 o⟩
 simp only[mX,bh,iw,zG];have e: ∀l:Zd,l.length<1000000->gd (fV (0+l.length) 8) (O l)=O l:=λl hl=>bt (by omega) (by omega)
 have A: ∀(i:Nat) (x:Int),((lV c s.W).set i x).length<1000000:=λi x=>by simp only[List.length_set];exact g
 rcases N with rfl|rfl|rfl|rfl|rfl|rfl|rfl
 .have hn:=Cq h2 (by omega);simp only[aD,reduceIte];by_cases d:s.L-s.p<n
  .rw[zE d,zE d,zB (by simp),zC];rfl
  rw[zF d,zF d,zA (by simp),zD,show ix 1 8=O 1 from rfl];simp only[zG,aB,Ui,Uh,zC,zD];have C:n=((n.toNat:Nat):Int):=by omega
  have v:=WW h I (m:=n.toNat) (L:=s.L) (p:=s.p) (q:=s.q) (c0:=s.c0) (c1:=s.c1) (c2:=s.c2) (c3:=s.c3) (z:=s.z) (sb:=(c.off 8:Int)) (sn:=c.ns) (sx:=(c.X.length:Int)) (lv:=s.lv) (pk:=s.pk) (bd:=c.words) (by omega) (by omega) (by omega);rw[<-C]at v;rw[v];simp only[zG];rw[e _ g];rfl
 .obtain⟨C,o,J⟩:=y (by omega);simp only[aD,reduceIte];rw[J];by_cases d:0<=iA c s.W n.toNat-1
  .rw[zE d,zE d,zB (by simp),zC];rfl
  rw[zF d,zF d,zA (by simp),zD,show ix 2 8=O 2 from rfl];simp only[zG,aB,Ui,Uh,zC,zD];have v:=aE1 h D hi o (by omega);rw[<-C]at v;rw[v];simp only[zG];rw[e _ (A _ _)];rfl
 .obtain⟨C,o,J⟩:=y (by omega);simp only[aD,reduceIte];rw[J];by_cases d:iA c s.W n.toNat-1<0
  .rw[zE d,zE d,zB (by simp),zC];rfl
  rw[zF d,zF d,zA (by simp),zD,show ix 3 8=O 3 from rfl];simp only[zG,aB,Ui,Uh,zC,zD];have v:=YD h D hi o (by omega);rw[<-C]at v;rw[v];simp only[zG];rw[e _ g];rfl
 .obtain⟨C,o,J⟩:=y (by omega);simp only[aD,reduceIte];rw[J];by_cases d:iA c s.W n.toNat-1<0
  .rw[zE d,zE d,zB (by simp),zC];rfl
  rw[zF d,zF d,zA (by simp),zD,show ix 4 8=O 4 from rfl];simp only[zG,aB,Ui,Uh,zC,zD];have v:=aI8 h D hi o (by omega) (XT h hi (aa1 o (by omega)));rw[<-C]at v;rw[v];simp only[zG];rw[e _ (A _ _)];rfl
 .simp only[aD,reduceIte];by_cases d:s.q≠ -1
  .rw[zE d,zE d,zB (by simp),zC];rfl
  rw[zF d,zF d];by_cases u:s.p≠s.L
  .rw[zE u,zE u,zB (by simp),zC];rfl
  rw[zF u,zF u,zA (by simp),zD,show ix 5 8=O 5 from rfl];simp only[zG,aB,Ui,Uh,zC,zD];rw[aK4 h I K E.1 (by omega) M];simp only[zG];rw[e _ g,ad (n:=s.c2+1) (by omega),ad (n:=s.c3+1) (by omega)];rfl
 .simp only[aD,reduceIte];by_cases d:s.q≠ -1
  .rw[zE d,zE d,zB (by simp),zC];rfl
  rw[zF d,zF d];by_cases u:s.p≠s.L-1
  .rw[zE u,zE u,zB (by simp),zC];rfl
  rw[zF u,zF u,zA (by simp),zD,show ix 6 8=O 6 from rfl];simp only[zG,aB,Ui,Uh,zC,zD];rw[aH8 h I K E.1 (by omega) M];simp only[zG];rw[e _ g,ad (n:=s.c1+1) (by omega),ad (n:=s.c2+1) (by omega),ad (n:=s.c3+1) (by omega),ad (n:=s.c3+1+1) (by omega)];rfl
 .simp only[aD,reduceIte];by_cases d:s.q<=0
  .rw[zE d,zE d,zB (by simp),zC];rfl
  rw[zF d,zF d];by_cases u:s.p≠s.q-1
  .rw[zE u,zE u,zB (by simp),zC];rfl
  rw[zF u,zF u,zA (by simp),zD,show ix 7 8=O 7 from rfl];simp only[zG,aB,Ui,Uh,zC,zD];rw[aV4 h I K E.1 (by omega) M];simp only[zG];rw[e _ g,ad (n:=s.c1+1) (by omega),ad (n:=s.c3+1) (by omega)];rfl
end
end
section
open Go.IntKind renaming wrap -> zH, i64 -> zI, u64 -> zJ
open Int renaming reduceEq -> aB, le_max_left -> cB, toNat_natCast -> cD
open List renaming getD_eq_getElem?_getD -> aD, range -> bD, length_take -> cK, countP_append -> cM
open Nat renaming le_of_eq -> bB, le_refl -> cL
section
variable {c:Cx}
def fZ (c:Cx)(W W':Zd):Prop:= ∀i,c.off 8<=i->W'[i]?=W[i]?
theorem fZ.refl (W:Zd):fZ c W W:=λ_ _=>rfl
theorem fZ.trans {W'':Zd}(h:fZ c W W')(d:fZ c W' W''):fZ c W W'':=λi hi=>(d i hi).trans (h i hi)
theorem fZ.put (h:c.Ok)(d:fZ c W W')(e:Wd c W')(hi:i<8)(p:w.length<=c.sz i):fZ c W (put W' (c.off i) w):=λj g=>by
 have m:=nY (c:=c) (i:=i) (j:=8) hi;have o:=e.in' h (i:=i) (by omega);rw[SQ (by omega) (.inr (by omega))];exact d j g
theorem fZ.rg (h:fZ c W W')(hi:c.off 8<=i):rg W' (i:Int)=rg W (i:Int):=by
 unfold Go.V.rg;rw[cD,aD,aD,h i hi]
theorem fZ.tag (h:fZ c W W')(k:Nat):iA c W' k=iA c W k:=h.rg (by unfold sp;omega)
theorem fZ.used (h:fZ c W W'):iP c W'=iP c W:=by
 unfold iP
 congr 1
 funext k
 rw[h.tag k]
theorem fZ.seg (h:fZ c W W'){o n:Nat}(d:c.off 8<=o):seg W' o n=seg W o n:=by
 apply List.ext_getElem?;intro i;rw[Hi,Hi];split
 .exact h _ (by omega)
 .rfl
theorem Qo (h:c.Ok){a:Zd}(e:Wd c W)(m:c.X.length+c.T.length<=a.length)(d:a.length<=max c.R.toNat c.Q.toNat):fZ c W (DY c W a):=by
 obtain⟨o,g,p⟩:=mS h e m d;unfold DY;refine fZ.put h (fZ.put h (fZ.put h (fZ.refl W) e (by omega) ?_) o (by omega) ?_) g (by omega) ?_
 .exact d
 .rw[cK];exact Nat.min_le_left _ _
 .rw[AZ,fg (n:=c.T.length) (g.in' h (i:=6) (by omega))];exact cL _
theorem OS (h:c.Ok){x:Zd}(d:Wd c W)(g:x.length=c.X.length):fZ c W (OI c W x):=by
 have n:=h.num;have y:=n.R;have v:=n.Q;have u:=n.xtQ;have A:=n.x;have z:=n.m;obtain⟨q,e,o⟩:=zN h d g;obtain⟨p,E⟩:=B9 h d g;obtain⟨_,C,D⟩:=pW h.pk e (a:=fill c.Q [1]) (t:=(ol c W x).2.1) (tN (by simp;omega)) (bB o.symm) (by omega);exact(fZ.put h (fZ.refl W) d (i:=3) (by omega) (bB e)).trans (Qo h p (by omega) (by omega))
theorem Qp (h:c.Ok)(d:Wd c W)(e:r.length=c.R.toNat)(g:t.length=c.fl.n):fZ c W (RA c W r t):=by
 have n:=h.num;have q:=n.R;have p:=n.xtR;have v:=n.x;have u:=n.n;obtain⟨m,o⟩:=Hq h d e g;obtain⟨_,y,z⟩:=pW h.pl e m (bB g.symm) (by omega);exact Qo h d (by omega) (by omega)
theorem M9 (h:c.Ok)(d:Wd c W)(p:Int):fZ c W (put W (c.off 2) (jo c W p).1):=
 fZ.put h (fZ.refl W) d (i:=2) (by omega) (bB (iE h d p).2.1)
theorem OT (h:c.Ok)(d:Wd c W)(p:Int):fZ c W (an8 c W p)/\Wd c (an8 c W p):=by
 obtain⟨o,e,g⟩:=iE h d p;have m:=xN h d p;exact⟨(M9 h d p).trans (Qp h m e g),(Hq h m e g).2⟩
theorem WA (h:c.Ok)(d:Wd c W)(p:Int):((jo c W p).1.take c.X.length).length=c.X.length:=by
 have n:=h.num;have q:=n.R;have o:=n.xtR;obtain⟨e,g,m⟩:=iE h d p;rw[cK];omega
theorem K2 (h:c.Ok)(d:Wd c W)(p:Int):fZ c W (TA c W p)/\Wd c (TA c W p):=by
 obtain⟨u,e,g⟩:=iE h d p;have o:=xN h d p;have m:=WA h d p;have q:=(B9 h o m).2;exact⟨((M9 h d p).trans (OS h o m)).trans (Qp h q e g),(Hq h q e g).2⟩
theorem XL (h:c.Ok)(d:Wd c W)(p:Int):fZ c W (ax8 c W p):=by
 obtain⟨_,e⟩:=Et h d p;obtain⟨g,m⟩:=Oj h d p;refine fZ.put h (fZ.put h (fZ.refl W) d (i:=2) (by omega) (bB e)) g (i:=1) (by omega) ?_;rw[cK];exact Nat.min_le_left _ _
theorem OR (h:c.Ok){W:Zd}(d:Wd c W)(p:Int): ∀i,fZ c W (Mp c W p i)
 |0=>fZ.refl W
 |i+1=>(OR h d p i).trans (XL h (JD h d p i) _)
theorem D3 {P P':Nat->Bool}{k:Nat}: ∀{n:Nat},k<n->P k=Zb->P' k=Za->(∀j,j<n->j≠k->P' j=P j)->(bD n).countP P'=(bD n).countP P+1
 |n+1,q,m,o,d=>by
  rw[List.range_succ,cM,cM];by_cases h:k=n
  .subst h
   have e:(bD k).countP P'=(bD k).countP P:=List.countP_congr λj p=>by
    have:=List.mem_range.1 p;rw[d j (by omega) (by omega)]
   rw[e];simp[m,o]
  .rw[D3 (n:=n) (by omega) m o λj p g=>d j (by omega) g];have:[n].countP P'=[n].countP P:=by simp[d n (by omega) (by omega)]
   omega
theorem at6 (h:j<k):sp c j+(c.X.length+1)<=sp c k:=by
 have d:(j+1)*(c.X.length+1)<=k*(c.X.length+1):=Nat.mul_le_mul_right _ h;rw[Nat.succ_mul]at d;unfold sp;omega
theorem Po (d:sp c k+w.length<=W.length)(g:w.length=c.X.length+1)(e:j≠k):iA c (put W (sp c k) w) j=iA c W j:=by
 unfold iA rg;rw[cD,aD,aD,SQ d];rcases Nat.lt_or_ge j k with h|h
 .exact .inl (by have:=at6 (c:=c) h;omega)
 .exact .inr (by have:=at6 (c:=c) (show k<j by omega);omega)
theorem Cw (d:sp c k+w.length<=W.length)(e:w.length=c.X.length+1):iA c (put W (sp c k) w) k=w.getD 0 0:=by
 unfold iA rg;rw[cD,aD,aD,O7 d,zE ⟨cL _,by omega⟩,Nat.sub_self]
theorem Eb {d:Dy}(hi:Inv c s)(u:Wd c d.W)(o:fZ c s.W d.W)(h:d.L=s.L)(v:0<=d.p/\d.p<=s.L)(y: -1<=d.q/\d.q<=s.L)(e:d.lv=s.lv)(g:s.pk<=d.pk/\d.pk<=c.words):Inv c d:=
 ⟨u,by rw[h];exact hi.L,by rw[h];exact v,by rw[h];exact y,λk m=>by rw[o.tag,h];exact hi.tag k m,by rw[e,o.used];exact hi.lv,by rw[e];exact⟨Int.le_trans hi.pk.1 g.1,g.2⟩⟩
theorem af3 (h:c.Ok)(C:c.mode≠3)(hi:Inv c s)(a n:Int):Inv c (HS c a n s).2:=by
 have Z:=h.num;have o:=hi.w;have hL:=hi.L;have A:=hi.p;have H:=hi.q;have D:=hi.pk;have hns:=h.ns;have nx:=Z.x;obtain⟨g1,g2,g3,g4⟩:=GW h hi;have N:=Z.tp;rw[zF C]at N;have M:=Z.sl;rw[zF C]at M;have V:(seg s.W (c.off 1) c.X.length).length=c.X.length:=fg (o.in' h (i:=1) (by omega));unfold HS;by_cases I:jQ a n=Zb∨7<a
 .rw[zE I];exact hi
 rw[zF I];obtain⟨h2,hk⟩:=Cp I;by_cases J:(2<=a/\a<=4)/\c.ns<=n
 .rw[zE J];exact hi
 rw[zF J]
 have y:(2<=a/\a<=4)->n.toNat<c.ns.toNat:=λhs=>by
  have hn:=Cq h2 ⟨by omega,hs.2⟩;have: ¬c.ns<=n:=λh7=>J ⟨hs,h7⟩
  omega
 rcases hk with rfl|rfl|rfl|rfl|rfl|rfl|rfl
 .have hn:=Cq h2 (by omega);simp only[aB,reduceIte];by_cases e:s.L-s.p<n
  .rw[zE e];exact hi
  .rw[zF e];exact Eb hi (JD h o _ _) (OR h o _ _) rfl ⟨by show 0<=s.p+n;omega,by show s.p+n<=s.L;omega⟩ H rfl ⟨Int.le_refl _,D.2⟩
 .have d:=y (by omega);simp only[aB,reduceIte];by_cases e:0<=iA c s.W n.toNat-1
  .rw[zE e];exact hi
  rw[zF e];generalize n.toNat=k at*;obtain⟨s1,s2,s3⟩:=wW h C d;obtain⟨t1,t2⟩:=o.tk h;have E:=hi.tag k d;have F:(zH zJ (zH zI (s.p+1))::seg s.W (c.off 1) c.X.length).length=c.X.length+1:=by simp[V]
  have g:=Cw (c:=c) (W:=s.W) (k:=k) (w:=zH zJ (zH zI (s.p+1))::seg s.W (c.off 1) c.X.length) (by omega) F
  have T:(zH zJ (zH zI (s.p+1))::seg s.W (c.off 1) c.X.length).getD 0 0=s.p+1:=by
   show zH zJ (zH zI (s.p+1))=_;rw[Zi,Zj]
  rw[T]at g;have m: ∀j,j≠k->iA c (put s.W (sp c k) (zH zJ (zH zI (s.p+1))::seg s.W (c.off 1) c.X.length)) j=iA c s.W j:=λj u=>Po (by omega) F u
  have K:=Nf h hi (M3 d (by omega))
  have Q:iP c (put s.W (sp c k) (zH zJ (zH zI (s.p+1))::seg s.W (c.off 1) c.X.length))=iP c s.W+1:=by
   unfold iP;exact D3 d (zA (by omega)) (zB (by rw[g];omega)) λj _ u=>by rw[m j u]
  refine⟨o.put h (by omega),hL,A,H,λj u=> ?_, ?_, ?_⟩
  .by_cases v:j=k
   .subst v;rw[g];show 0<=s.p+1/\s.p+1<=s.L+1;omega
   .rw[m j v];exact hi.tag j u
  .show s.lv+c.sl=c.fixed+c.sl*((iP c (put s.W (sp c k) _):Nat):Int);rw[Q,hi.lv];rw[show(((iP c s.W+1:Nat)):Int)=(iP c s.W:Int)+1 by omega,Int.mul_add,Int.mul_one,Int.add_assoc]
  .show s.lv+c.sl<=max s.pk (s.lv+c.sl)/\max s.pk (s.lv+c.sl)<=c.words;omega
 .have d:=y (by omega);simp only[aB,reduceIte];by_cases e:iA c s.W n.toNat-1<0
  .rw[zE e];exact hi
  rw[zF e];obtain⟨s1,s2,s3⟩:=wW h C d;obtain⟨t1,t2⟩:=o.tk h;have E:=hi.tag _ d;have l2:(seg s.W (sp c n.toNat+1) c.X.length).length=c.X.length:=fg (by omega);have h1o:=nY (c:=c) (i:=1) (j:=9) (by omega);have z1:c.sz 1=c.X.length:=rfl;exact Eb hi (o.put h (by rw[l2];omega)) (fZ.put h (fZ.refl s.W) o (i:=1) (by omega) (by rw[l2];exact cL _)) rfl ⟨by show 0<=iA c s.W n.toNat-1;omega,by show iA c s.W n.toNat-1<=s.L;omega⟩ H rfl ⟨Int.le_refl _,D.2⟩
 .have d:=y (by omega);simp only[aB,reduceIte];by_cases e:iA c s.W n.toNat-1<0
  .rw[zE e];exact hi
  rw[zF e];generalize n.toNat=k at*;obtain⟨s1,s2,s3⟩:=wW h C d;obtain⟨t1,t2⟩:=o.tk h;have E:=hi.tag k d;have F:(gr (c.X.length+1)).length=c.X.length+1:=cy _;have g:=Cw (c:=c) (W:=s.W) (k:=k) (w:=gr (c.X.length+1)) (by omega) F;have T:(gr (c.X.length+1)).getD 0 0=0:=rfl;rw[T]at g;have m: ∀j,j≠k->iA c (put s.W (sp c k) (gr (c.X.length+1))) j=iA c s.W j:=λj u=>Po (by omega) F u
  have Q:iP c s.W=iP c (put s.W (sp c k) (gr (c.X.length+1)))+1:=by
   unfold iP;exact D3 d (zA (by omega)) (zB (by omega)) λj _ u=>by rw[m j u]
  refine⟨o.put h (by omega),hL,A,H,λj u=> ?_, ?_, ?_⟩
  .by_cases v:j=k
   .subst v;rw[g];show(0:Int)<=0/\0<=s.L+1;omega
   .rw[m j v];exact hi.tag j u
  .show s.lv-c.sl=c.fixed+c.sl*((iP c (put s.W (sp c k) (gr (c.X.length+1))):Nat):Int);rw[hi.lv,Q];rw[show(((iP c (put s.W (sp c k) (gr (c.X.length+1)))+1:Nat)):Int)=(iP c (put s.W (sp c k) (gr (c.X.length+1))):Int)+1 by omega,Int.mul_add,Int.mul_one];omega
  .show s.lv-c.sl<=s.pk/\s.pk<=c.words;omega
 .simp only[aB,reduceIte];by_cases e:s.q≠ -1
  .rw[zE e];exact hi
  rw[zF e];by_cases z:s.p≠s.L
  .rw[zE z];exact hi
  rw[zF z];exact Eb hi (B9 h o V).2 (OS h o V) rfl A ⟨by show-1<=s.p;omega,A.2⟩ rfl ⟨cB _ _,by show max s.pk (s.lv+(c.fk.n:Int))<=c.words;omega⟩
 .simp only[aB,reduceIte];by_cases e:s.q≠ -1
  .rw[zE e];exact hi
  rw[zF e];by_cases z:s.p≠s.L-1
  .rw[zE z];exact hi
  rw[zF z];exact Eb hi (K2 h o s.p).2 (K2 h o s.p).1 rfl A ⟨by show-1<=s.p;omega,A.2⟩ rfl ⟨cB _ _,by show max s.pk (s.lv+((c.fl.n:Int)+c.fk.n))<=c.words;omega⟩
 .simp only[aB,reduceIte];by_cases e:s.q<=0
  .rw[zE e];exact hi
  rw[zF e];by_cases z:s.p≠s.q-1
  .rw[zE z];exact hi
  rw[zF z];exact Eb hi (OT h o s.p).2 (OT h o s.p).1 rfl A ⟨by show-1<=s.p;omega,A.2⟩ rfl ⟨cB _ _,by show max s.pk (s.lv+(c.fl.n:Int))<=c.words;omega⟩
theorem af2 (g:Dp B s)(a n:Int):Dp (B+65536) (HS c a n s).2:=by
 have d:Dp (B+65536) s:=by unfold Dp at g⊢;omega
 unfold HS;by_cases e:jQ a n=Zb∨7<a
 .rw[zE e];exact d
 rw[zF e];obtain⟨h,o⟩:=Cp e;split
 .exact d
 split
 .rename_i m;have p:=Cq h (by omega);split
  .exact d
  .unfold Dp at g⊢;simp only;omega
 repeat' split
 all_goals first|exact d|(unfold Dp at g⊢;simp only;omega)
end
end
section
open Nat renaming add_sub_cancel_left -> aB, le_add_right -> aD
theorem U5 (h:j<t.length):(t++r)[0+j]?=O (rg t (j:Int)):=by
 rw[Nat.zero_add,List.getElem?_append_left h,jc h]
theorem HF (h:j<r.length):(t++r)[t.length+j]?=O (rg r (j:Int)):=by
 rw[List.getElem?_append_right (aD _ _),aB,jc h]
theorem U6 {v:Int}:(t++r).set (t.length+j) v=t++r.set j v:=by
 rw[List.set_append_right _ _ (aD _ _),aB]
def stK (t:Zd)(p d:Nat)(l:Nat->Int)(s:BS):Int×Int×Int×(Zd)×(Zd)×Int×Int×Int×Int×Int×Int×Int×Int:=
 ((p:Int)-1,(d:Int),(s.2.2:Int),t++s.1,s.2.1,l 0,l 1,l 2,l 3,l 4,l 5,l 6,l 7)
theorem ay6 {code:List wo}(C:code.length<=8192){R:Int}(hR:1<=R/\R<=64){e0 e1:Int}(hN:t.length<=1000000)(hw:w.length=t.length+R.toNat):Backs (di R (e0,w) (e1,code)) code (stK t) (Tg t) (VdB R.toNat t.length) (VO R.toNat)where
 op:=by
  intro p d l s m o A h hg z g E;obtain⟨H,v⟩:=kN C h;obtain⟨v1,v2,v3,v4⟩:=E;obtain⟨q1,q2⟩:=QS o s.1 s.2.1 (rg t ((s.2.2-1:Nat):Int));refine⟨?_,by unfold Tg;exact⟨by simp[v1,q1],by simp[v2,q2],by show m<=s.2.2-1;omega,by show s.2.2-1<=_;omega⟩⟩;obtain⟨u,F,I,e1,L,M,N,Q,T⟩:=JK hg;unfold stK Tg;simp only[di];rw[show((p+1:Nat):Int)-1=(p:Int)by omega,Ze,zD,v];simp only[zG];rw[h];simp only[zG,ce];rw[Ze,zD,Ze,zD];simp only[CS,zG];rw[ad (n:=(s.2.2:Int)-1) (by omega),show(s.2.2:Int)-1=((s.2.2-1:Nat):Int)by omega,ad (n:=(w.length:Int)-R) (by omega),show((w.length:Int)-R).toNat=t.length by omega,show((w.length:Int)).toNat-t.length=R.toNat by omega,Nat.sub_zero];have K:s.2.2-1<t.length:=by omega
  generalize s.2.2-1=n at*;unfold QR;simp only[e1,L,M,Int.toNat_natCast];rw[bp (show u<s.2.1.length by omega)];simp only[zG];rw[jc (show u<s.2.1.length by omega)];simp only[zG];rw[bp K];simp only[zG];rw[U5 K];simp only[zG];rw[bp N];simp only[zG];rw[HF (show u<s.1.length by omega)];simp only[zG];rw[bp Q];simp only[zG];rw[U6];have D: ∀x:Int,(s.1.set u x).length=s.1.length:=by simp
  have ha1:(s.2.1.set u 0).length=s.2.1.length:=by simp
  rw[HF (show F<(s.1.set u (rg t (n:Int))).length by rw[D];omega)];simp only[zG];rw[bp T];simp only[zG];rw[HF (show I<(s.1.set u (rg t (n:Int))).length by rw[D];omega)];simp only[zG];rw[bp (show F<(s.2.1.set u 0).length by omega)];simp only[zG];rw[jc (show F<(s.2.1.set u 0).length by omega)];simp only[zG];generalize hP:par o _ _=P;generalize X:(s.2.1.set u 0).set F _=A2;have Z:A2.length=s.2.1.length:=by rw[<-X];simp
  rw[bp (show I<A2.length by omega)];simp only[zG];rw[jc (show I<A2.length by omega)];simp only[zG];rw[ad (n:=(p:Int)-1) (by omega)]
 rep:=by
  intro p q d l s m o e A h z J g E;obtain⟨H,v⟩:=kN C h;obtain⟨h3,V⟩:=kN C J;unfold stK;simp only[di];rw[show((p+1:Nat):Int)-1=(p:Int)by omega,Ze,zD,v];simp only[zG];rw[h];simp only[zG,ce];rw[zB z,zC,ad (n:=((q+1:Nat):Int)-1) (by omega),show((q+1:Nat):Int)-1=(q:Int)by omega,V];simp only[zG];rw[J];simp only[zG,ce];rw[bp g];simp only[zG];rw[ad (n:=(p:Int)-1) (by omega),ad (n:=(d:Int)+1) (by omega)];rfl
 nxt:=by
  intro p d l s m o A h hto z g hl hl2 E;obtain⟨H,v⟩:=kN C h;have y:=wU (upd l d (l d-1)) g;rw[om]at y;unfold upd at y;unfold stK;simp only[di];rw[show((p+1:Nat):Int)-1=(p:Int)by omega,Ze,zD,v];simp only[zG];rw[h];simp only[zG,ce];rw[Ze,zD,zB z,zC,ad (n:=((d+1:Nat):Int)-1) (by omega),show((d+1:Nat):Int)-1=(d:Int)by omega,bp g];simp only[zG];rw[wU l g,Zj,y,Zf,zC];rw[ad (n:=((A+1:Nat):Int)-2) (by omega),show((A+1:Nat):Int)-2=(A:Int)-1 by omega];rfl
 out:=by
  intro p d l s m o A h z g hl E;obtain⟨H,v⟩:=kN C h;have y:=wU (upd l d (l d-1)) g;rw[om]at y;unfold upd at y;unfold stK;simp only[di];rw[show((p+1:Nat):Int)-1=(p:Int)by omega,Ze,zD,v];simp only[zG];rw[h];simp only[zG,ce];rw[Ze,zD,zB z,zC,ad (n:=((d+1:Nat):Int)-1) (by omega),show((d+1:Nat):Int)-1=(d:Int)by omega,bp g];simp only[zG];rw[wU l g,Zj,y,Ze,zD,ad (n:=(p:Int)-1) (by omega)];rfl
section
variable {R:Int} {l:List ci} {f:Fo}
theorem SO (h:Prg R l f){a:Zd}{e0 e1:Int}(F:r.length=R.toNat)(D:a.length=R.toNat)(H:f.n<=t.length)(o:t.length<=1000000)(I:w.length=t.length+R.toNat):
  ∃b0 b1 b2 b3 u v y z,aq (di R (e0,w) (e1,f.bare.code 0)) cx (IntKind.i64.wrap (((f.bare.code 0).length:Int)-1),0,(f.n:Int),t++r,a,0,0,0,0,0,0,0,0)=O (t++(ku f r a t).1,(ku f r a t).2.1,b0,b1,b2,b3,u,v,y,z):=by
 obtain⟨g,_,q,C⟩:=GF (m:=0) (l:=λ_=>0) (s:=((r,a,f.n):BS)) (d:=0) (p:=0) (A:=[]) (B:=[]) (Ks (ay6 (e0:=e0) (e1:=e1) (t:=t) h.clen h.R1 o I)) f.bare (by simp) rfl (Fo.bare_ok f h.ok) f.bare_pos h.hi h.good ⟨F,D,by rw[Fo.bare_n];exact Nat.le_refl _,H⟩;rw[Fo.bare_unroll]at q C;have E:=h.clen;rw[Fo.code_len]at E
 have:=E5 q h.steps (c:=(t++(ku f r a t).1,(ku f r a t).2.1,g 0,g 1,g 2,g 3,g 4,g 5,g 6,g 7)) (by
  unfold stK;simp only[di];rw[Zf,zC]
  rfl)
 have e:stK t (0+f.bare.len) 0 (λ_=>0) ((r,a,f.n):BS)=(IntKind.i64.wrap (((f.bare.code 0).length:Int)-1),0,(f.n:Int),t++r,a,0,0,0,0,0,0,0,0):=by
  unfold stK;rw[Fo.code_len,Zi,Nat.zero_add];rfl
 rw[e]at this;exact⟨_,_,_,_,_,_,_,_,this⟩
end
end
section
open Bool renaming not_true -> aB
open Int renaming toNat_of_nonneg -> aD, mul_le_mul_of_nonneg_left -> bB
open List renaming length_append -> bD, length_take -> cB
section
variable {c:Cx}
def Bl (c:Cx)(i:Nat):Nat:=c.off 8+i*c.sl.toNat
def kO (s:Dy):Int:=if s.q<0 then s.p else s.q
structure InvB (c:Cx)(s:Dy):Prop where
 w:Wd c s.W
 L:s.L=c.len
 p:0<=s.p/\s.p<=s.L
 q: -1<=s.q/\s.q<=s.L
 qp:0<=s.q->s.p=s.q
 lv:s.lv=c.fixed+c.sl*kO s
 pk:s.lv<=s.pk/\s.pk<=c.words
def yM (c:Cx)(W:Zd)(i:Nat):Zd:=seg W (Bl c i) c.fl.n
def CU (c:Cx)(W:Zd)(i:Nat):Zd:=seg W (Bl c i+c.fl.n) c.R.toNat
def Kr (c:Cx)(W:Zd)(i:Nat):BS:=ku c.fl (CU c W i) (fill c.R (seg W (c.off 5) c.X.length)) (yM c W i)
def F4 (c:Cx)(a n:Int)(s:Dy):Int×Dy:=
 if a=8 then(if n≠0 then(2,s)else if 0<=s.q then(18,s)else if s.p=s.L then(17,s)else
  (0,{s with p:=s.p+1,c1:=s.c1+1,lv:=s.lv+c.sl,pk:=max s.pk (s.lv+c.sl),W:=put (put (put s.W (c.off 2) (jo c s.W s.p).1) (Bl c s.p.toNat) ((jo c s.W s.p).2.1++(jo c s.W s.p).1)) (c.off 1) ((jo c s.W s.p).1.take c.X.length)}))
 else if a=5 then(if n≠0 then(2,s)else if 0<=s.q then(18,s)else if s.p≠s.L then(17,s)else
  (0,{s with q:=s.L,c2:=s.c2+1,c3:=s.c3+1,z:=rg (ol c s.W (seg s.W (c.off 1) c.X.length)).1 0,pk:=max s.pk (s.lv+c.fk.n),W:=OI c s.W (seg s.W (c.off 1) c.X.length)}))
 else if a=9 then(if n≠0 then(2,s)else if s.q<1 then(18,s)else
  (0,{s with p:=s.q-1,q:=s.q-1,c3:=s.c3+1,lv:=s.lv-c.sl,W:=put (DY c s.W (Kr c s.W (s.q-1).toNat).2.1) (c.off 1) ((Kr c s.W (s.q-1).toNat).1.take c.X.length)}))
 else(2,s)
theorem Ep (h:c.Ok)(o:c.mode=3)(hi:i<c.ns.toNat):c.sl.toNat=c.fl.n+c.R.toNat/\c.sl=(c.fl.n:Int)+c.R/\Bl c i+c.sl.toNat<=c.off 9/\c.off 8<=Bl c i:=by
 have n:=h.num;have g:=n.sl;rw[zE o]at g;have d:=h.ns;have q:=n.R
 have e:(c.sl*c.ns).toNat=c.ns.toNat*c.sl.toNat:=by
  have:c.sl*c.ns=((c.ns.toNat*c.sl.toNat:Nat):Int):=by
   rw[Int.natCast_mul,aD d.1,aD (by omega),Int.mul_comm]
  rw[this];rfl
 have p:c.off 9=c.off 8+c.ns.toNat*c.sl.toNat:=by rw[MC,e]
 have m:(i+1)*c.sl.toNat<=c.ns.toNat*c.sl.toNat:=Nat.mul_le_mul_right _ hi;rw[Nat.succ_mul]at m;unfold Bl;omega
theorem Rk (h:c.Ok)(g:c.mode=3)(hi:i<c.ns.toNat){a0 a1 a4 a5 a6 a7 a8 a9 a10 a11 a12 a13 a14 a15 a16 a17:Int}{X T:Zd}{k:List ci}{b0 b1 b2 b3:Int}:i7 (i:Int) a0 a1 c.sl a4 a5 a6 a7 a8 a9 a10 a11 a12 a13 a14 a15 a16 a17 X T l k c.P b0 b1 b2 b3 W=O (Bl c i:Int):=by
 obtain⟨m,o,d,p⟩:=Ep h g hi;have q:=h.off9_le;have n:=h.num;have u:=n.words;have v:=n.R;unfold i7;rw[show ix 8 c.P.length=O 8 from bp (k:=8) (by rw[Cx.P_len];omega)];simp only[zG];rw[Cx.P_get (show 8<10 by omega)];simp only[zG];have e:(i:Int)*c.sl=((i*c.sl.toNat:Nat):Int):=by rw[Int.natCast_mul,aD (by omega)]
 unfold Bl at d;rw[e,ad (n:=((i*c.sl.toNat:Nat):Int)) (by omega),Zi];unfold Bl
 congr 1
theorem SB (h:c.Ok)(m:c.mode=3)(hi:InvB c s):0<=s.lv/\s.lv+c.tp<=c.words/\c.words<=1048576/\0<=c.tp/\(kO s<c.ns->s.lv+c.sl<=c.words)/\(0<kO s->c.sl<=s.lv)/\c.ns=s.L:=by
 have n:=h.num;have y:=hi.lv;have z:=h.fit;have A:=n.fixed;have C:=h.ns;have u:=n.sl;rw[zE m]at u;have M:=n.R;have K:=n.Q;have N:=n.words;have H:=h.base m;have F:=hi.L;have I:=hi.p;have J:=hi.q;have g:0<=kO s/\kO s<=c.ns:=by unfold kO;split<;>omega
 have D:1<=c.sl:=by omega
 have e:c.sl*kO s<=c.sl*c.ns:=bB g.2 (by omega);have E:0<=c.sl*kO s:=Int.mul_nonneg (by omega) g.1;have d:0<=c.tp:=by rw[n.tp];split<;>omega
 refine⟨by omega,by omega,by omega,d,λv=> ?_,λo=> ?_,by omega⟩
 .have e:c.sl*(kO s+1)<=c.sl*c.ns:=bB (by omega) (by omega);rw[Int.mul_add,Int.mul_one]at e;omega
 .have e:c.sl*1<=c.sl*kO s:=bB (by omega) (by omega);omega
theorem IE (h:c.Ok)(q:c.mode=3)(o:Wd c W)(hi:i<c.ns.toNat):
  seg W (Bl c i) c.sl.toNat=yM c W i++CU c W i/\(yM c W i).length=c.fl.n/\(CU c W i).length=c.R.toNat/\(fill c.R (seg W (c.off 5) c.X.length)).length=c.R.toNat/\(Kr c W i).1.length=c.R.toNat/\(Kr c W i).2.1.length=c.R.toNat:=by
 obtain⟨y,z,A,C⟩:=Ep h q hi;obtain⟨I,J⟩:=o.tk h;have n:=h.num;have F:=n.R;have E:=n.xtR;have H:=n.n;have D:(seg W (c.off 5) c.X.length).length=c.X.length:=fg (o.in' h (i:=5) (by omega));have e:(yM c W i).length=c.fl.n:=fg (by omega);have g:(CU c W i).length=c.R.toNat:=fg (by omega);have m:(fill c.R (seg W (c.off 5) c.X.length)).length=c.R.toNat:=tN (by omega);obtain⟨_,u,v⟩:=pW h.pl g m (t:=yM c W i) (Nat.le_of_eq e.symm) (by omega);refine⟨?_,e,g,m,u,v⟩;apply List.ext_getElem?;intro j;rw[Hi];by_cases p:j<c.fl.n
 .rw[Zg,List.getElem?_append_left (by omega)];unfold yM;rw[Hi,zE p]
 .rw[List.getElem?_append_right (by omega),e];unfold CU;rw[Hi];by_cases d:j<c.sl.toNat
  .rw[zE d,Zg]
   congr 1
   omega
  .rw[zF d,Zh]
theorem plain1 (h:c.Ok)(F:c.mode=3)(hi:InvB c s)(hc:Dp B s)(hB:B<=2305843009213693952){n:Int}:
  lj a n c.fixed c.tp c.sl c.ns c.mode c.R c.Q c.len c.words s.L s.p s.q s.c0 s.c1 s.c2 s.c3 s.z c.X c.T c.l c.k c.P c.tk s.lv s.pk c.words s.W=O (aA1 c (F4 c a n s)):=by
 have H:=h.num;have C:=hi.w;have hL:=hi.L;have hp:=hi.p;have hq:=hi.q;have J:=hi.pk;have hns:=h.ns;have nR:=H.R;have n1:=H.xtR;have nx:=H.x;have nt:=H.t;have nn:=H.n;have nlen:=H.len;obtain⟨k0,k1,k2,k3⟩:=hc.in' hB;obtain⟨g1,g2,g3,g4,g5,g6,g7⟩:=SB h F hi;have htp:=H.tp;rw[zE F]at htp;obtain⟨t1,t2⟩:=C.tk h;unfold lj F4;by_cases a8:a=8
 .subst a8;rw[zB (show(8:Int)=8 from rfl),zA (show¬(8:Int)=5 by decide)];simp only[zC,zG,aB,zD,reduceIte];by_cases e:n≠0
  .rw[zE e,zB e];rfl
  rw[zF e,zA e];simp only[zD,zG];by_cases d:0<=s.q
  .rw[zE d,zB d];rfl
  rw[zF d,zA d];simp only[zD,zG];by_cases m:s.p=s.L
  .rw[zE m,zB m];rfl
  rw[zF m,zA m];simp only[BEq.rfl,aB,zD,zG,cb];have v:kO s=s.p:=by unfold kO;rw[Zg]
  have y:s.p.toNat<c.ns.toNat:=by omega
  have M:s.p=((s.p.toNat:Nat):Int):=by omega
  obtain⟨s1,s2,K,s4⟩:=Ep h F y;obtain⟨f1,f2,f3⟩:=iE h C s.p;have w1:=xN h C s.p;have N:=g5 (by rw[v];omega);rw[pT (by omega) g1 N (by omega)];simp only[zG];rw[aE4 h C];simp only[zG];have A:=Rk h F y (a0:=c.fixed) (a1:=c.tp) (a4:=c.ns) (a5:=c.mode) (a6:=c.R) (a7:=c.Q) (a8:=c.len) (a9:=c.words) (a10:=s.L) (a11:=s.p) (a12:=s.q) (a13:=s.c0) (a14:=IntKind.i64.wrap (s.c1+1)) (a15:=s.c2) (a16:=s.c3) (a17:=s.z) (X:=c.X) (T:=c.T) (l:=c.l) (k:=c.k) (b0:=c.tk) (b1:=s.lv+c.sl) (b2:=max s.pk (s.lv+c.sl)) (b3:=c.words) (W:=put s.W (c.off 2) (jo c s.W s.p).1);rw[<-M]at A;rw[A];simp only[zG];have I:((jo c s.W s.p).2.1++(jo c s.W s.p).1).length=c.sl.toNat:=by rw[bD];omega
  rw[bt (by omega) (by omega)];obtain⟨u1,u2⟩:=w1.tk h;unfold Cx.tk;rw[se (by rw[I];exact K) u1 u2];simp only[zG];rw[Zk,bz,show((c.X.length:Int)).toNat-0=c.X.length by omega,List.drop_zero,show((c.off 9:Nat):Int)=c.tk from rfl,Jy (ii:=1) (i:=1) h (w1.put h (by rw[I];exact K)) rfl (by omega) (by rw[cB,show c.sz 1=c.X.length from rfl];omega)];simp only[zG];rw[ad (n:=s.p+1) (by omega),ad (n:=s.c1+1) (by omega)];rfl
 rw[zA a8,zF a8];simp only[zD,zG];by_cases a5:a=5
 .subst a5;rw[zB (show(5:Int)=5 from rfl)];simp only[zC,aB,zD,reduceIte];by_cases e:n≠0
  .rw[zE e,zB e];rfl
  rw[zF e,zA e];simp only[zD,zG];by_cases d:0<=s.q
  .rw[zE d,zB d];rfl
  rw[zF d,zA d];simp only[zD,zG];by_cases m:s.p≠s.L
  .rw[zE m,zA m];rfl
  rw[zF m,zB (show s.p=s.L by omega)];simp only[BEq.rfl,aB,zD,zG,cb];rw[aK3 h C g1 J.1 (by omega) g3];simp only[zG];rw[ad (n:=s.c2+1) (by omega),ad (n:=s.c3+1) (by omega)];rfl
 rw[zA a5,zF a5];simp only[zD,Bool.not_false,zC];by_cases a9:a=9
 .subst a9;rw[zA (show¬((9:Int)≠9)from λk=>k rfl)];simp only[reduceIte];by_cases e:n≠0
  .rw[zE e,zB e];rfl
  rw[zF e,zA e];simp only[zD,zG];by_cases D:s.q<1
  .rw[zE D,zB D];rfl
  rw[zF D,zA D];simp only[zD,zG,cb];have v:kO s=s.q:=by unfold kO;rw[Zh]
  have y:(s.q-1).toNat<c.ns.toNat:=by omega
  have M:s.q-1=(((s.q-1).toNat:Nat):Int):=by omega
  obtain⟨s1,s2,K,s4⟩:=Ep h F y;obtain⟨b1,b2,b3,b4,b5,b6⟩:=IE h F C y;rw[ad (n:=s.q-1) (by omega)];have A:=Rk h F y (a0:=c.fixed) (a1:=c.tp) (a4:=c.ns) (a5:=c.mode) (a6:=c.R) (a7:=c.Q) (a8:=c.len) (a9:=c.words) (a10:=s.L) (a11:=s.q-1) (a12:=s.q-1) (a13:=s.c0) (a14:=s.c1) (a15:=s.c2) (a16:=s.c3) (a17:=s.z) (X:=c.X) (T:=c.T) (l:=c.l) (k:=c.k) (b0:=c.tk) (b1:=s.lv) (b2:=s.pk) (b3:=c.words) (W:=s.W);rw[<-M]at A;rw[A];simp only[zG]
  have hrd:db (Bl c (s.q-1).toNat:Int) c.sl c.tk s.W=O (0,yM c s.W (s.q-1).toNat++CU c s.W (s.q-1).toNat):=by
   have:=yv (W:=s.W) (o:=Bl c (s.q-1).toNat) (n:=c.sl.toNat) K t1 t2;rw[aD (by omega),b1]at this;exact this
  rw[hrd];simp only[zG];generalize (s.q-1).toNat=i at*;have E:(yM c s.W i++CU c s.W i).length=c.fl.n+c.R.toNat:=by rw[bD];omega
  have hwr:IntKind.i64.wrap (((yM c s.W i++CU c s.W i).length:Int)-c.R)=(c.fl.n:Int):=by rw[E,Zi];omega
  simp only[hwr];rw[Zk,bz,Zk,bz,Qj (ii:=5) (i:=5) h C rfl (by omega)];simp only[zG];have l5:(seg s.W (c.off 5) c.X.length).length=c.X.length:=fg (C.in' h (i:=5) (by omega));rw[show c.sz 5=c.X.length from rfl,JR nR (by omega)];simp only[zG];rw[ET h.pl,h.pl.writes];simp only[zG];rw[zA (show¬((0:Int)≠0)by simp),zD];rw[zA (show¬((((((yM c s.W i++CU c s.W i).length:Int)).toNat-((c.fl.n:Int)).toNat:Nat):Int)≠c.R)by omega),zD,zA (show¬(((fill c.R (seg s.W (c.off 5) c.X.length)).length:Int)≠c.R)by omega),zD,zA (show¬(((((c.fl.n:Int)).toNat-0:Nat):Int)<(c.fl.n:Int))by omega),zD];obtain⟨z0,z1,z2,z3,z4,z5,z6,z7,hz⟩:=SO h.pl (e0:=0) (e1:=0) (t:=yM c s.W i) (r:=CU c s.W i) (a:=fill c.R (seg s.W (c.off 5) c.X.length)) (w:=yM c s.W i++CU c s.W i) b3 b4 (Nat.le_of_eq b2.symm) (by omega) (by rw[E,b2])
  rw[hz];simp only[zG];have eK:ku c.fl (CU c s.W i) (fill c.R (seg s.W (c.off 5) c.X.length)) (yM c s.W i)=Kr c s.W i:=rfl;rw[eK];generalize Kr c s.W i=u at*;obtain⟨v1,v2,v3⟩:=mS h (a:=u.2.1) C (by omega) (by omega);rw[Jy (ii:=4) (i:=4) h C rfl (by omega) (by rw[show c.sz 4=max c.R.toNat c.Q.toNat from rfl];omega)];simp only[zG];rw[Zk,bz,show((c.X.length:Int)).toNat-0=c.X.length by omega,List.drop_zero,Jy (ii:=5) (i:=5) h v1 rfl (by omega) (by rw[cB,show c.sz 5=c.X.length from rfl];omega)];simp only[zG];rw[Qj (ii:=6) (i:=6) h v2 rfl (by omega)];simp only[zG];rw[show c.sz 6=c.T.length from rfl];have hg:(seg (put (put s.W (c.off 4) u.2.1) (c.off 5) (u.2.1.take c.X.length)) (c.off 6) c.T.length).length=c.T.length:=fg (v2.in' h (i:=6) (by omega));rw[GB (f:=rR c.X u.2.1 _) (X:=c.X) (a:=u.2.1) (g:=seg (put (put s.W (c.off 4) u.2.1) (c.off 5) (u.2.1.take c.X.length)) (c.off 6) c.T.length) (by omega) (by omega) (by omega) (λs=>rfl)]
  simp only[zG];rw[Jy (ii:=6) (i:=6) h v2 rfl (by omega) (by rw[AZ,hg];exact Nat.le_refl _)];simp only[zG];have Z:(yM c s.W i++u.1).length=c.fl.n+c.R.toNat:=by rw[bD];omega
  rw[ad (n:=(c.fl.n:Int)+(c.X.length:Int)) (by omega),Zk,bz,show((c.fl.n:Int)+(c.X.length:Int)).toNat-((c.fl.n:Int)).toNat=c.X.length by omega,Int.toNat_natCast];have V:(yM c s.W i++u.1).drop c.fl.n=u.1:=List.drop_left' b2;rw[V];have eB:put (put (put s.W (c.off 4) u.2.1) (c.off 5) (u.2.1.take c.X.length)) (c.off 6) (RX c.X.length (seg (put (put s.W (c.off 4) u.2.1) (c.off 5) (u.2.1.take c.X.length)) (c.off 6) c.T.length) u.2.1)=DY c s.W u.2.1:=rfl;rw[eB,Jy (ii:=1) (i:=1) h v3 rfl (by omega) (by rw[cB,show c.sz 1=c.X.length from rfl];omega)];simp only[zG];rw[uL (by omega) (g6 (by rw[v];omega)) J.1 (by omega)];simp only[zG];rw[ad (n:=s.c3+1) (by omega)];rfl
 rw[zF a9,zB a9];by_cases e:n≠0
 .rw[zB e];rfl
 .rw[zA e];rfl
theorem do1 (h:c.Ok)(d:c.mode=3)(hi:InvB c s)(g:Dp B s)(e:B<=2305843009213693952){n:Int}:
  oV a n c.fixed c.tp c.sl c.ns c.mode c.R c.Q c.len c.words s.L s.p s.q s.c0 s.c1 s.c2 s.c3 s.z c.X c.T c.l c.k c.P c.tk s.lv s.pk c.words s.W=O (aA1 c (F4 c a n s)):=by
 unfold oV fR;simp only[zG];rw[zB d,zC,plain1 h d hi g e];rfl
end
end
section
open Int renaming le_refl -> aB, mul_comm -> bB
open List renaming getElem?_replicate -> cB
open Nat renaming le_refl -> aD, zero_add -> bD
theorem Wm {m:Int}{x t:Nat}{R:Int}{Q:Int}{k:List ci}{n:Int}(p:OpsOk l)(o:OpsOk k)(h:(fi m x t R l Q k n b).2.2.2.2=0):
  rb m x t R l Q k n b=0/\∃g,fi m x t R l Q k n b=(qZ x t R Q,qt m l k,qs m x R l,g,0)/\(0<=g/\g<=1048576)/\qZ x t R Q+qt m l k+qs m x R l*g<=b/\(m=3->g=n):=by
 unfold fi at h⊢;by_cases d:rb m x t R l Q k n b≠0
 .rw[zE d]at h;exact(d h).elim
 rw[zF d]at h⊢;have d:rb m x t R l Q k n b=0:=by omega
 have s:=LJ p o d;have f:=Ce p o d;have z:=f.mode;have A:=f.len;have C:=f.bud;have D:=s.xs;have E:=s.ts;have F:=s.r;have H:=s.r';have I:=s.tp;have J:=s.sl;have y:0<=qZ x t R Q/\qZ x t R Q<=1000:=by unfold qZ;omega
 split at h
 .cases h
 rename_i c;rw[zF c];refine⟨d,_,rfl, ?_, ?_,λq=>zE q⟩
 .split
  .omega
  .rename_i e;unfold least at c;rw[zF e]at c;have v:(b-qZ x t R Q-qt m l k) / qs m x R l<=b-qZ x t R Q-qt m l k:=Int.ediv_le_self _ (by omega);have u:0<=(b-qZ x t R Q-qt m l k) / qs m x R l:=Int.ediv_nonneg (by omega) (by omega);omega
 .unfold least at c;split
  .rename_i e;rw[zE e,bB]at c;omega
  .rename_i e;rw[zF e]at c;have:=Int.mul_ediv_self_le (x:=b-qZ x t R Q-qt m l k) (k:=qs m x R l) (by omega);omega
theorem aU3 {m:Int}{X T:Zd}{R:Int}{Q:Int}{k:List ci}{n:Int}(o:OpsOk l)(g:OpsOk k)(h:(fi m X.length T.length R l Q k n b).2.2.2.2=0):
  ∃c:Cx,c.Ok/\c.mode=m/\c.X=X/\c.T=T/\c.R=R/\c.l=l/\c.Q=Q/\c.k=k/\c.len=n/\c.words=b/\fi m X.length T.length R l Q k n b=(c.fixed,c.tp,c.sl,c.ns,0):=by
 obtain⟨p,ns,v,y,z,A⟩:=Wm o g h;obtain⟨C,D⟩:=Wk (M6 p).1;obtain⟨u,e⟩:=Yx o C;obtain⟨q,d⟩:=Yx g D;exact⟨⟨m,R,Q,n,b,X,T,l,k,u,q,qZ X.length T.length R Q,qt m l k,qs m X.length R l,ns⟩,⟨o,g,p,e,d,rfl,rfl,rfl,y,z,A⟩,rfl,rfl,rfl,rfl,rfl,rfl,rfl,rfl,rfl,v⟩
section
variable {c:Cx}
theorem Cx.Ok.plan (h:c.Ok):fi c.mode c.X.length c.T.length c.R c.l c.Q c.k c.len c.words=(c.fixed,c.tp,c.sl,c.ns,0)->gm c.mode c.X c.T c.R c.l c.Q c.k c.len c.words=O (c.fixed,c.tp,c.sl,c.ns,0):=λe=>by
 rw[Be h.hl h.hk,e]
theorem an4 (h:c.Ok): ∀i,i<10->pre [((c.T.length:Nat):Int),((c.X.length:Nat):Int),c.R,c.Q,max c.R c.Q,((c.X.length:Nat):Int),((c.T.length:Nat):Int),c.tp,c.sl*c.ns] i=(c.off i:Int):=by
 have n:=h.num;have o:=n.R;have m:=n.Q;have p:=n.mul;have e:0<=c.tp:=by rw[n.tp];split<;>omega
 have d: ∀i,i<9->([((c.T.length:Nat):Int),((c.X.length:Nat):Int),c.R,c.Q,max c.R c.Q,((c.X.length:Nat):Int),((c.T.length:Nat):Int),c.tp,c.sl*c.ns]:Zd).getD i 0=(c.sz i:Int):=λi hi=>by
  rcases(show i=0∨i=1∨i=2∨i=3∨i=4∨i=5∨i=6∨i=7∨i=8 by omega)with rfl|rfl|rfl|rfl|rfl|rfl|rfl|rfl|rfl
  .rfl
  .rfl
  .show c.R=(c.R.toNat:Int);omega
  .show c.Q=(c.Q.toNat:Int);omega
  .show max c.R c.Q=((max c.R.toNat c.Q.toNat:Nat):Int);omega
  .rfl
  .rfl
  .show c.tp=(c.tp.toNat:Int);omega
  .show c.sl*c.ns=((c.sl*c.ns).toNat:Int);omega
 intro i;induction i with
 |zero=>intro _;rfl
 |succ i g=>
  intro hi;simp only[pre];rw[g (by omega),d i (by omega)];show(c.off i:Int)+(c.sz i:Int)=((c.off i+c.sz i:Nat):Int);omega
theorem SN (h:c.Ok)(e:fi c.mode c.X.length c.T.length c.R c.l c.Q c.k c.len c.words=(c.fixed,c.tp,c.sl,c.ns,0)):uX c.mode c.X c.T c.R c.l c.Q c.k c.len c.words=O (0,c.P):=by
 have s:=LJ h.hl h.hk h.hc;have g:SFacts c.X.length c.T.length c.R c.Q c.tp c.sl:=by rw[h.tp,h.sl];exact s
 unfold uX;rw[h.plan e];simp only[zG];rw[zA (by simp),zD,Lj h.hl h.hk h.hc];simp only[zG];have d:=S9 (n:=c.ns) g h.ns;rw[<-h.tp,<-h.sl,QP d];simp only[zG]
 congr 2
 unfold Cx.P;apply List.map_congr_left;intro i hi;exact an4 h i (List.mem_range.1 hi)
theorem MQ (h:l.length<=4096):fA l=O l:=by
 unfold fA;rw[bt (by omega) (by omega)]
theorem vM {l:Zd}(h:l.length<=1048576):ak l=O l:=by
 unfold ak;rw[bt (by omega) (by omega)]
theorem G7 (h:c.Ok)(e:fi c.mode c.X.length c.T.length c.R c.l c.Q c.k c.len c.words=(c.fixed,c.tp,c.sl,c.ns,0)):
  qM c.mode c.X c.T c.R c.l c.Q c.k c.len c.words=O (.inr (c.fixed,c.tp,c.sl,c.ns,c.mode,c.R,c.Q,c.len,c.words,c.len,c.X,c.T,c.l,c.k,c.P)):=by
 have n:=h.num;have g:=n.x;have d:=n.t;unfold qM;rw[h.plan e];simp only[zG];rw[zA (by simp),zD,MQ h.hl.len,MQ h.hk.len,vM (by omega),vM (by omega)];simp only[zG];rw[SN h e];rfl
def Ya (c:Cx)(W:Zd):Zd:=put (put W (c.off 0) c.T) (c.off 1) c.X
def new1 (c:Cx):Dy:=⟨c.len,0,-1,0,0,0,0,0,c.fixed,c.fixed,Ya c (gr c.words.toNat)⟩
def new2 (c:Cx):Dy:=⟨c.len,0,-1,0,0,0,0,0,c.fixed,c.fixed,Ya c (put (gr c.words.toNat) (c.off 8) (gr (c.sl*c.ns).toNat))⟩
theorem Bo :Wd c (gr c.words.toNat):=cy _
theorem vS (h:c.Ok):0<=c.fixed/\c.fixed<=c.words/\1<=c.fixed/\c.fixed=(c.off 7:Int):=by
 have n:=h.num;have o:=n.R;have m:=n.Q;have e:=n.fixed;have p:=n.mul;have g:=h.fit;have d:0<=c.tp:=by rw[n.tp];split<;>omega
 refine⟨by omega,by omega,by omega, ?_⟩;rw[aK0,e];omega
theorem GZ (h:c.Ok)(e:Wd c W):Wd c (put W (c.off 0) c.T)/\Wd c (Ya c W)/\fZ c W (Ya c W):=by
 have q:=nY (c:=c) (i:=0) (j:=9) (by omega);have u:=nY (c:=c) (i:=1) (j:=9) (by omega);have m:c.sz 0=c.T.length:=rfl;have p:c.sz 1=c.X.length:=rfl;have d:=e.put h (w:=c.T) (o:=c.off 0) (by omega);have g:=d.put h (w:=c.X) (o:=c.off 1) (by omega);exact⟨d,g,fZ.put h (fZ.put h (fZ.refl W) e (i:=0) (by omega) (Nat.le_of_eq m.symm)) d (i:=1) (by omega) (Nat.le_of_eq p.symm)⟩
theorem ML (h:c.Ok):vn c.words=O (gr c.words.toNat):=by
 have f:=vS h;have n:=h.num;have d:=n.words;unfold vn qJ;rw[Ze,zD,Ze,zD];simp only[zG];rw[zA (by simp),zD,VJ (by omega)];rfl
theorem Ng (h:c.Ok):zl c.words=O (0,0,c.words):=by
 have n:=h.num;have d:=n.words;unfold zl pn;rw[zA (show¬(0:Int)<0 by omega),zA (show¬c.words<0 by omega)];rfl
theorem Fa {o n:Nat}(h:o+n<=W.length)(d:W.length<=1048576):cv (n:Int) (o:Int) W=O ((o:Int),0,((o+n:Nat):Int)):=by
 unfold cv rH;rw[Ze,zD];simp only[zG];rw[ad (n:=(W.length:Int)-o) (by omega),Ze,zD,ad (n:=(o:Int)+n) (by omega)]
 congr 2
theorem aS7 (h:c.Ok)(u:c.mode=3)(e:fi c.mode c.X.length c.T.length c.R c.l c.Q c.k c.len c.words=(c.fixed,c.tp,c.sl,c.ns,0)):
  rS c.mode c.X c.T c.R c.l c.Q c.k c.len c.words=O (.inr (.inl (c.fixed,c.tp,c.sl,c.ns,c.mode,c.R,c.Q,c.len,c.words,c.len,c.X,c.T,c.l,c.k,c.P,c.tk,c.fixed,c.fixed,c.words,(new1 c).W))):=by
 have f:=vS h;have n:=h.num;have A:=n.words;have z:=n.mul;have y:=h.off9_le;have q:c.off 9=c.off 8+(c.sl*c.ns).toNat:=MC;have g:(gr c.words.toNat).length=c.words.toNat:=cy _;obtain⟨v,C,D⟩:=GZ h (Bo (c:=c));unfold rS;rw[G7 h e];simp only[zG,cb];rw[ML h,Ng h];simp only[zG];rw[pT (by omega) (by omega) (by omega) (by omega)];simp only[zG];rw[show ix 8 c.P.length=O 8 from bp (k:=8) (by rw[Cx.P_len];omega)];simp only[zG];rw[Cx.P_get (show 8<10 by omega)];simp only[zG];rw[show cv (c.off 8:Int) 0 (gr c.words.toNat)=O (((0:Nat):Int),0,((0+c.off 8:Nat):Int))from Fa (o:=0) (n:=c.off 8) (by rw[bD,g];omega) (by omega)];unfold fR;simp only[zG];rw[zB u,zC,bB,ad (n:=c.sl*c.ns) (by omega),show c.sl*c.ns=((c.sl*c.ns).toNat:Int)by omega,Fa (by omega) (by omega)]
 simp only[zG,gH];have d:((0+c.off 8+(c.sl*c.ns).toNat:Nat):Int)=c.tk:=by unfold Cx.tk;omega
 rw[d,Jy (ii:=0) (i:=0) h Bo rfl (by omega) (aD _)];simp only[zG];rw[Jy (ii:=1) (i:=1) h v rfl (by omega) (aD _)];simp only[zG];have m:(0:Int)+c.fixed=c.fixed:=by omega
 have p:max (0:Int) c.fixed=c.fixed:=by omega
 rw[m,p];rfl
theorem aH3 (h:c.Ok)(q:c.mode≠3)(e:fi c.mode c.X.length c.T.length c.R c.l c.Q c.k c.len c.words=(c.fixed,c.tp,c.sl,c.ns,0)):
  rS c.mode c.X c.T c.R c.l c.Q c.k c.len c.words=O (.inr (.inr (c.fixed,c.tp,c.sl,c.ns,c.mode,c.R,c.Q,c.len,c.words,c.len,c.X,c.T,c.l,c.k,c.P,c.tk,(c.off 8:Int),c.ns,(c.X.length:Int),c.fixed,c.fixed,c.words,(new2 c).W))):=by
 have f:=vS h;have n:=h.num;have F:=n.words;have E:=n.mul;have H:=n.x;have A:=h.ns;have D:=h.off9_le;have z:c.off 9=c.off 8+(c.sl*c.ns).toNat:=MC;have p:(gr c.words.toNat).length=c.words.toNat:=cy _;have d:=n.sl;rw[zF q]at d;have u:Wd c (put (gr c.words.toNat) (c.off 8) (gr (c.sl*c.ns).toNat)):=(Bo (c:=c)).put h (by rw[cy];omega);obtain⟨C,I,J⟩:=GZ h u;unfold rS;rw[G7 h e];simp only[zG,cb];rw[ML h,Ng h];simp only[zG];rw[pT (by omega) (by omega) (by omega) (by omega)];simp only[zG];rw[show ix 8 c.P.length=O 8 from bp (k:=8) (by rw[Cx.P_len];omega)];simp only[zG];rw[Cx.P_get (show 8<10 by omega)];simp only[zG];rw[show cv (c.off 8:Int) 0 (gr c.words.toNat)=O (((0:Nat):Int),0,((0+c.off 8:Nat):Int))from Fa (o:=0) (n:=c.off 8) (by rw[bD,p];omega) (by omega)];unfold fR
 simp only[zG];rw[zA q,zD];unfold Dv ly eb;rw[zB (show 0<=c.ns by omega),zB (show c.ns<=1048576 by omega),zB (show 1<=(c.X.length:Int)by omega),zB (show(c.X.length:Int)<=64 by omega)];simp only[zC,zD,Bool.not_true,zG];rw[ad (n:=(c.X.length:Int)+1) (by omega),<-d,bB c.ns,ad (n:=c.sl*c.ns) (by omega)];have g:c.sl*c.ns=(((c.sl*c.ns).toNat:Nat):Int):=by omega
 rw[show cv (c.sl*c.ns) ((0+c.off 8:Nat):Int) (gr c.words.toNat)=O (((0+c.off 8:Nat):Int),0,((0+c.off 8+(c.sl*c.ns).toNat:Nat):Int))from by
  conv=>lhs;rw[g]
  exact Fa (by omega) (by omega)]
 simp only[zG];rw[zA (by simp),zD,VJ (by omega),show List.replicate (c.sl*c.ns).toNat (0:Int)=gr (c.sl*c.ns).toNat from rfl,se (by rw[cy];exact aD _) (by omega) (by omega),bD];simp only[zG,cb];have m:((c.off 8+(c.sl*c.ns).toNat:Nat):Int)=c.tk:=by unfold Cx.tk;omega
 rw[m,Ic (ii:=0) (i:=0) h u rfl (by omega) (aD _)];simp only[zG];rw[Ic (ii:=1) (i:=1) h C rfl (by omega) (aD _)];simp only[zG];have v:(0:Int)+c.fixed=c.fixed:=by omega
 have y:max (0:Int) c.fixed=c.fixed:=by omega
 rw[v,y];rfl
theorem X8 (h:c.Ok)(e:c.mode=3):InvB c (new1 c):=by
 have f:=vS h;have n:=h.num;have g:=n.len;refine⟨(GZ h Bo).2.1,rfl,⟨aB _,by show 0<=c.len;omega⟩,⟨by show(-1:Int)<= -1;omega,by show(-1:Int)<=c.len;omega⟩,λd=> ?_, ?_,⟨aB _,f.2.1⟩⟩
 .have d:(0:Int)<= -1:=d;omega
 .show c.fixed=c.fixed+c.sl*0;omega
theorem Ld (h:c.Ok)(g:c.mode≠3)(e:k<c.ns.toNat):iA c (new2 c).W k=0:=by
 have p:=h.off9_le;have q:=h.num.words;have d:c.off 9=c.off 8+(c.sl*c.ns).toNat:=MC;have m:Wd c (put (gr c.words.toNat) (c.off 8) (gr (c.sl*c.ns).toNat)):=(Bo (c:=c)).put h (by rw[cy];omega);obtain⟨v,y,o⟩:=GZ h m;show iA c (Ya c _) k=0;rw[o.tag];obtain⟨u,_,_⟩:=wW h g e;unfold iA rg;rw[Int.toNat_natCast,List.getD_eq_getElem?_getD,O7 (by rw[cy,cy];omega)];unfold gr;split
 .rw[cB];split<;>rfl
 .rw[cB];split<;>rfl
theorem X9 (h:c.Ok)(e:c.mode≠3):Inv c (new2 c):=by
 have f:=vS h;have n:=h.num;have q:=n.len;have u:=n.words;have p:=h.off9_le;have g:c.off 9=c.off 8+(c.sl*c.ns).toNat:=MC;have o:Wd c (put (gr c.words.toNat) (c.off 8) (gr (c.sl*c.ns).toNat)):=(Bo (c:=c)).put h (by rw[cy];omega)
 have m:iP c (new2 c).W=0:=by
  unfold iP;rw[List.countP_eq_zero];intro k d;rw[Ld h e (List.mem_range.1 d)];decide
 refine⟨(GZ h o).2.1,⟨by show 0<=c.len;omega,by show c.len<=65535;omega⟩,⟨aB _,by show 0<=c.len;omega⟩,⟨by show(-1:Int)<= -1;omega,by show(-1:Int)<=c.len;omega⟩,λk d=> ?_, ?_,⟨aB _,f.2.1⟩⟩
 .rw[Ld h e d];exact⟨aB _,by show(0:Int)<=c.len+1;omega⟩
 .rw[m];show c.fixed=c.fixed+c.sl*0;omega
end
end
section
open Go.IntKind renaming wrap -> zH, i64 -> zI, u64 -> zJ
open Bool renaming not_true -> aB
open Int renaming mul_comm -> aD, mul_le_mul_of_nonneg_left -> bB
theorem dne {i:Decidable (x≠x)}: @Zc (x≠x) i=Zb:=zA λk=>k rfl
section
variable {c:Cx}
def Re (c:Cx)(s:Dy):Int×Int×Int×Int×Int×Int×Int×Int×Int×Int×Int×Int×Int×Int×Int×Int:=
 (zH zJ c.mode,zH zJ s.L,zH zJ s.p,zH zJ (zH zI (s.q+1)),zH zJ c.ns,zH zJ s.c0,zH zJ s.c1,zH zJ s.c2,zH zJ s.c3,zH zJ s.lv,zH zJ s.pk,s.z,0,0,0,0)
theorem WQ (s:Dy):jJ c.fixed c.tp c.sl c.ns c.mode c.R c.Q c.len c.words s.L s.p s.q s.c0 s.c1 s.c2 s.c3 s.z c.X c.T c.l c.k c.P c.tk s.lv s.pk c.words s.W=O (Re c s):=by
 unfold jJ qv lY kg ki;simp only[zG];have d:aq (ql c.ns c.mode s.L s.p s.q s.c0 s.c1 s.c2 s.c3 s.lv s.pk) cx ((0,0,0,0,0,0,0,0,0,0,0,0,0,0,0,0,0))=O (zH zJ c.mode,zH zJ s.L,zH zJ s.p,zH zJ (zH zI (s.q+1)),zH zJ c.ns,zH zJ s.c0,zH zJ s.c1,zH zJ s.c2,zH zJ s.c3,zH zJ s.lv,zH zJ s.pk,0,0,0,0,0):=by kernel_rfl
 rw[d];rfl
theorem PN (s:Dy){sb sn sx:Int}:gy c.fixed c.tp c.sl c.ns c.mode c.R c.Q c.len c.words s.L s.p s.q s.c0 s.c1 s.c2 s.c3 s.z c.X c.T c.l c.k c.P c.tk sb sn sx s.lv s.pk c.words s.W=O (Re c s):=by
 unfold gy oA iI kg ki;simp only[zG];have d:aq (oW c.ns c.mode s.L s.p s.q s.c0 s.c1 s.c2 s.c3 s.lv s.pk) cx ((0,0,0,0,0,0,0,0,0,0,0,0,0,0,0,0,0))=O (zH zJ c.mode,zH zJ s.L,zH zJ s.p,zH zJ (zH zI (s.q+1)),zH zJ c.ns,zH zJ s.c0,zH zJ s.c1,zH zJ s.c2,zH zJ s.c3,zH zJ s.lv,zH zJ s.pk,0,0,0,0,0):=by kernel_rfl
 rw[d];rfl
theorem WJ {l:Zd}(m:l.length<1000000):aq (gX l) cx (0,0)=O ((l.countP λt=>Zc (0<=t):Nat):Int):=by
 have h: ∀i,((l.take i).countP λt=>Zc (0<=t))<=l.length:=λi=>Nat.le_trans List.countP_le_length (by simp;omega)
 have d:aq (gX l) cx (0,(((l.take 0).countP λt=>Zc (0<=t):Nat):Int))=O (((l.take l.length).countP λt=>Zc (0<=t):Nat):Int):=by
  refine fP (n:=l.length) (λi=>(((l.take i).countP λt=>Zc (0<=t):Nat):Int)) (by omega) (λi hi=> ?_) ?_
  .have g:=h i;unfold gX;simp only;rw[zB (show(i:Int)<(l.length:Int)by omega),zC,bp hi];simp only[zG];rw[List.getElem?_eq_getElem hi];simp only[zG];rw[ad (n:=(i:Int)+1) (by omega),List.take_succ_eq_append_getElem hi,List.countP_append,ag];by_cases e:0<=l[i]
   .rw[zE e,Zi];simp[e]
   .rw[zF e];simp[e]
  .unfold gX;simp only;rw[Ze,zD]
 rw[List.take_length]at d;exact d
theorem WK (W:Zd):((lV c W).countP λt=>Zc (0<=t))=iP c W:=by
 unfold lV iP;rw[List.countP_map];apply List.countP_congr;intro k _;simp only[Function.comp,decide_eq_true_eq];omega
theorem Pn (h:c.Ok)(e:c.mode≠3)(p:Wd c W)(u: ∀k,k<c.ns.toNat->0<=iA c W k/\iA c W k<=65536):rB (c.off 8:Int) c.ns (c.X.length:Int) c.tk W=O (.inr ((c.off 8:Int),c.ns,(c.X.length:Int))):=by
 have n:=h.num;have F:=n.x;have z:=h.ns;have y:=n.mul;have E:=n.words;have d:=n.sl;rw[zF e]at d;have D:=h.off9_le;have q:c.off 9=c.off 8+(c.sl*c.ns).toNat:=MC;obtain⟨A,C⟩:=p.tk h;unfold rB ly eb;rw[zB (show 0<=c.ns by omega),zB (show c.ns<=1048576 by omega),zB (show 1<=(c.X.length:Int)by omega),zB (show(c.X.length:Int)<=64 by omega)];simp only[zC,zD,aB,zG];rw[ad (n:=(c.X.length:Int)+1) (by omega),<-d,aD c.ns,ad (n:=c.sl*c.ns) (by omega)]
 have g:db (c.off 8:Int) (c.sl*c.ns) c.tk W=O (0,seg W (c.off 8) (c.sl*c.ns).toNat):=by
  have:=yv (W:=W) (o:=c.off 8) (n:=(c.sl*c.ns).toNat) (tk:=c.off 9) (by omega) A C;rw[Int.toNat_of_nonneg y]at this;exact this
 rw[g];simp only[zG];rw[zA (by simp),zD]
 have m:aq (nz (c.off 8:Int) c.ns (c.X.length:Int) c.tk W) cx 0=O (.inr ()):=by
  refine sq (n:=c.ns.toNat) (by omega) (λi hi=> ?_) ?_
  .have v:=u i hi;unfold nz;rw[Zf,zC,yI h e hi];simp only[zG];rw[Hl h e p hi];simp only[zG];rw[Ze,zD,Zi];rfl
  .unfold nz;rw[Ze,zD]
 rw[m];rfl
def TK (c:Cx)(s:Dy):Int×Int×Int×Int×Int×Int×Int×Int×Int×Int×Int×Int×Int×Int×Int×Int×Int×(Zd)×(Zd)×(List (Int×Int×Int×Int×Int))×(List (Int×Int×Int×Int×Int))×(Zd)×Int×Int×Int×Int×Zd:=
 (c.fixed,c.tp,c.sl,c.ns,c.mode,c.R,c.Q,c.len,c.words,s.L,s.p,s.q,s.c0,s.c1,s.c2,s.c3,s.z,c.X,c.T,c.l,c.k,c.P,c.tk,s.lv,s.pk,c.words,s.W)
def MV (c:Cx)(s:Dy):Int×Int×Int×Int×Int×Int×Int×Int×Int×Int×Int×Int×Int×Int×Int×Int×Int×(Zd)×(Zd)×(List (Int×Int×Int×Int×Int))×(List (Int×Int×Int×Int×Int))×(Zd)×Int×Int×Int×Int×Int×Int×Int×Zd:=
 (c.fixed,c.tp,c.sl,c.ns,c.mode,c.R,c.Q,c.len,c.words,s.L,s.p,s.q,s.c0,s.c1,s.c2,s.c3,s.z,c.X,c.T,c.l,c.k,c.P,c.tk,(c.off 8:Int),c.ns,(c.X.length:Int),s.lv,s.pk,c.words,s.W)
theorem wIU {n:Int}(h:0<=n/\n<=9223372036854775807):zH zI (zH zJ n)=n:=by
 rw[Zj,Zi]
theorem Km (h:c.Ok)(d:Wd c W):wX W=O (.inr W):=by
 have f:=vS h;have e:=h.num.words;unfold Wd at d;unfold wX qJ;rw[Ze,zD,Ze,zD];simp only[zG];rw[zA (by simp),zD,vM (by omega)];rfl
theorem Qy {lv pk:Int}(h:0<=lv)(d:lv<=pk)(e:pk<=b):pn b lv pk=O (.inr (lv,pk,b)):=by
 unfold pn;rw[Ze,zD,Ze,zD,Ze,zD]
def Gp (c:Cx)(s:Dy):Prop:=c.mode≠2->s.L=c.len
theorem ay0 (h:c.Ok)(u:c.mode≠3)(e:fi c.mode c.X.length c.T.length c.R c.l c.Q c.k c.len c.words=(c.fixed,c.tp,c.sl,c.ns,0))(hi:Inv c s)(V:Gp c s)(hc:Dp B s)(N:B<=2305843009213693952):
  ic c.mode c.X c.T c.R c.l c.Q c.k c.len c.words s.W (zH zJ c.mode) (zH zJ s.L) (zH zJ s.p) (zH zJ (zH zI (s.q+1))) (zH zJ c.ns) (zH zJ s.c0) (zH zJ s.c1) (zH zJ s.c2) (zH zJ s.c3) (zH zJ s.lv) (zH zJ s.pk) s.z 0 0 0 0=O (.inr (.inr (MV c s))):=by
 have n:=h.num;have f:=vS h;have nw:=n.words;have nns:=h.ns;have nm:=n.mul;have I:=n.len;have F:=n.mode;have v:=hi.w;have hp:=hi.p;have hq:=hi.q;have D:=hi.L;have y:=hi.pk;obtain⟨k0,k1,k2,k3⟩:=hc.in' N;obtain⟨J,g2,g3,g4⟩:=GW h hi;have h9:=h.off9_le;have M:c.off 9=c.off 8+(c.sl*c.ns).toNat:=MC;obtain⟨t1,t2⟩:=v.tk h;have Z:s.W.length=c.words.toNat:=v;unfold ic;rw[G7 h e];simp only[zG,cb];rw[cd (n:=((s.W.length:Nat):Int)) (by omega),cd (n:=c.words) (by omega),zA (show¬(((s.W.length:Nat):Int)≠c.words)by omega),zD,dne,zD,dne,zD]
 have m:iB (zH zJ s.L) c.fixed c.tp c.sl c.ns c.mode c.R c.Q c.len c.words c.len 0 (-1) 0 0 0 0 0 c.X c.T c.l c.k c.P=O Za:=by
  unfold iB;rw[ag];by_cases C:c.mode=2
  .rw[zE C,Zj,Zf]
  .rw[zF C,V C,zB rfl]
 rw[m];simp only[zG,aB,zD];have E:zH zI (s.q+1)=s.q+1:=ad (by omega);rw[E,cd (n:=s.L) (by omega),cd (n:=s.p) (by omega),cd (n:=s.q+1) (by omega),cd (n:=s.L+1) (by omega),cd (n:=s.lv) (by omega),cd (n:=s.pk) (by omega),zA (show¬s.L<s.p by omega),zD,zA (show¬s.L+1<s.q+1 by omega),zD,zA (show¬c.words<s.lv by omega),zD,zA (show¬c.words<s.pk by omega),zD,Km h v];simp only[zG,cb];rw[show ix 8 c.P.length=O 8 from bp (k:=8) (by rw[Cx.P_len];omega)];simp only[zG];rw[Cx.P_get (show 8<10 by omega)];simp only[zG]
 have A:cv (zH zI ((c.off 8:Int)+zH zI (c.ns*c.sl))) 0 s.W=O (0,0,c.tk):=by
  rw[aD,ad (n:=c.sl*c.ns) (by omega),Zi,show(c.off 8:Int)+c.sl*c.ns=((c.off 9:Nat):Int)by omega];have:=Fa (o:=0) (n:=c.off 9) (W:=s.W) (by omega) (by omega);rw[Nat.zero_add]at this;exact this
 rw[A];simp only[zG];rw[ad (n:=s.L) (by omega),ad (n:=s.p) (by omega),ad (n:=s.q+1) (by omega),ad (n:=s.q+1-1) (by omega),show s.q+1-1=s.q by omega];unfold je eY;simp only[zG];rw[zA u,zD,show ix 8 c.P.length=O 8 from bp (k:=8) (by rw[Cx.P_len];omega)];simp only[zG];rw[Cx.P_get (show 8<10 by omega)];simp only[zG];have d: ∀k,k<c.ns.toNat->0<=iA c s.W k/\iA c s.W k<=65536:=λk hk=>by have:=hi.tag k hk;omega
 rw[Pn h u v d];simp only[zG,cb];unfold oB
 have g:(lV c s.W).length<1000000:=by
  rw[pX];rcases Nat.eq_zero_or_pos c.ns.toNat with h0|h0
  .omega
  .have:=(wW h u h0).2.2;omega
 rw[Hm h u v d];simp only[zG];rw[Cf D hp hq g (Hn hi.tag)];simp only[zG,cb,aB,zD];unfold oD kR;simp only[zG];rw[zA u,Bool.not_false,zC];unfold pz;rw[Hm h u v d];simp only[zG];rw[WJ g,WK];simp only[zG];have hlv:=hi.lv;have hul:=UH c s.W;have H:1<=c.sl:=by have:=n.sl;rw[zF u]at this;omega
 have h8:c.sl*(iP c s.W:Int)<=c.sl*c.ns:=bB (by omega) (by omega);have K:0<=c.sl*(iP c s.W:Int):=Int.mul_nonneg (by omega) (by omega);rw[aD ((iP c s.W:Nat):Int),ad (n:=c.sl*(iP c s.W:Int)) (by omega),ad (n:=c.fixed+c.sl*(iP c s.W:Int)) (by omega),ad (n:=s.lv) (by omega),zA (show¬(s.lv≠c.fixed+c.sl*(iP c s.W:Int))by omega),zD];simp only[zG,cb];rw[ad (n:=s.pk) (by omega),Qy J y.1 y.2];simp only[zG,cb];rw[wIU (by omega),wIU (by omega),wIU (by omega),wIU (by omega)];rfl
theorem ax9 (h:c.Ok)(u:c.mode=3)(e:fi c.mode c.X.length c.T.length c.R c.l c.Q c.k c.len c.words=(c.fixed,c.tp,c.sl,c.ns,0))(hi:InvB c s)(V:Dp B s)(M:B<=2305843009213693952):
  ic c.mode c.X c.T c.R c.l c.Q c.k c.len c.words s.W (zH zJ c.mode) (zH zJ s.L) (zH zJ s.p) (zH zJ (zH zI (s.q+1))) (zH zJ c.ns) (zH zJ s.c0) (zH zJ s.c1) (zH zJ s.c2) (zH zJ s.c3) (zH zJ s.lv) (zH zJ s.pk) s.z 0 0 0 0=O (.inr (.inl (TK c s))):=by
 have n:=h.num;have f:=vS h;have nw:=n.words;have nns:=h.ns;have nm:=n.mul;have H:=n.len;have D:=n.mode;have A:=hi.w;have hp:=hi.p;have hq:=hi.q;have y:=hi.L;have m:=hi.pk;have hqp:=hi.qp;obtain⟨k0,k1,k2,k3⟩:=V.in' M;obtain⟨I,g2,g3,g4,g5,g6,g7⟩:=SB h u hi;have h9:=h.off9_le;have K:c.off 9=c.off 8+(c.sl*c.ns).toNat:=MC;obtain⟨t1,t2⟩:=A.tk h;have N:s.W.length=c.words.toNat:=A;unfold ic;rw[G7 h e];simp only[zG,cb];rw[cd (n:=((s.W.length:Nat):Int)) (by omega),cd (n:=c.words) (by omega),zA (show¬(((s.W.length:Nat):Int)≠c.words)by omega),zD,dne,zD,dne,zD]
 have g:iB (zH zJ s.L) c.fixed c.tp c.sl c.ns c.mode c.R c.Q c.len c.words c.len 0 (-1) 0 0 0 0 0 c.X c.T c.l c.k c.P=O Za:=by
  unfold iB;rw[ag,Zh,y,zB rfl]
 rw[g];simp only[zG,aB,zD];have C:zH zI (s.q+1)=s.q+1:=ad (by omega);rw[C,cd (n:=s.L) (by omega),cd (n:=s.p) (by omega),cd (n:=s.q+1) (by omega),cd (n:=s.L+1) (by omega),cd (n:=s.lv) (by omega),cd (n:=s.pk) (by omega),zA (show¬s.L<s.p by omega),zD,zA (show¬s.L+1<s.q+1 by omega),zD,zA (show¬c.words<s.lv by omega),zD,zA (show¬c.words<s.pk by omega),zD,Km h A];simp only[zG,cb];rw[show ix 8 c.P.length=O 8 from bp (k:=8) (by rw[Cx.P_len];omega)];simp only[zG];rw[Cx.P_get (show 8<10 by omega)];simp only[zG]
 have v:cv (zH zI ((c.off 8:Int)+zH zI (c.ns*c.sl))) 0 s.W=O (0,0,c.tk):=by
  rw[aD,ad (n:=c.sl*c.ns) (by omega),Zi,show(c.off 8:Int)+c.sl*c.ns=((c.off 9:Nat):Int)by omega];have:=Fa (o:=0) (n:=c.off 9) (W:=s.W) (by omega) (by omega);rw[Nat.zero_add]at this;exact this
 rw[v];simp only[zG];rw[ad (n:=s.L) (by omega),ad (n:=s.p) (by omega),ad (n:=s.q+1) (by omega),ad (n:=s.q+1-1) (by omega),show s.q+1-1=s.q by omega];unfold je eY;simp only[zG];rw[zB u,zC];simp only[zG,gH,aB,zD];unfold oC eY;simp only[zG];rw[zB u,aB,zD]
 have d:cond (Zc (s.q<0)) (O s.p) (O s.q)=O (kO s):=by
  unfold kO;rw[ag];split<;>rfl
 rw[d];simp only[zG];have Z:=hi.lv;have E:0<=kO s/\kO s<=c.ns:=by unfold kO;split<;>omega
 have F:1<=c.sl:=by have:=n.sl;rw[zE u]at this;have:=n.R;omega
 have h8:c.sl*kO s<=c.sl*c.ns:=bB E.2 (by omega);have J:0<=c.sl*kO s:=Int.mul_nonneg (by omega) E.1;rw[aD (kO s),ad (n:=c.sl*kO s) (by omega),ad (n:=c.fixed+c.sl*kO s) (by omega),ad (n:=s.lv) (by omega),zA (show¬(s.lv≠c.fixed+c.sl*kO s)by omega),zD];simp only[zG,cb,gH];rw[ad (n:=s.pk) (by omega),Qy I m.1 m.2];simp only[zG,cb];rw[wIU (by omega),wIU (by omega),wIU (by omega),wIU (by omega)];rfl
end
end
section
open List renaming length_take -> aB
section
variable {c:Cx}
theorem an2 (h:c.Ok)(z:c.mode=3)(hi:InvB c s)(a n:Int):InvB c (F4 c a n s).2:=by
 have A:=h.num;have y:=hi.w;have C:=hi.L;have K:=hi.p;have N:=hi.q;have M:=hi.pk;have Q:=hi.qp;have J:=h.ns;have nR:=A.R;have n1:=A.xtR;have nx:=A.x;obtain⟨g1,g2,g3,g4,H,g6,g7⟩:=SB h z hi;have E:=A.tp;rw[zE z]at E;have T:(seg s.W (c.off 1) c.X.length).length=c.X.length:=fg (y.in' h (i:=1) (by omega));have z1:c.sz 1=c.X.length:=rfl;have o1:=nY (c:=c) (i:=1) (j:=9) (by omega);unfold F4;by_cases a8:a=8
 .rw[zE a8];by_cases u:n≠0
  .rw[zE u];exact hi
  rw[zF u];by_cases g:0<=s.q
  .rw[zE g];exact hi
  rw[zF g];by_cases e:s.p=s.L
  .rw[zE e];exact hi
  rw[zF e];have d:kO s=s.p:=by unfold kO;rw[Zg]
  have v:s.p.toNat<c.ns.toNat:=by omega
  obtain⟨s1,s2,V,s4⟩:=Ep h z v;obtain⟨f1,f2,f3⟩:=iE h y s.p;have w1:=xN h y s.p;have D:((jo c s.W s.p).2.1++(jo c s.W s.p).1).length=c.sl.toNat:=by rw[List.length_append];omega
  have w2:=w1.put h (w:=(jo c s.W s.p).2.1++(jo c s.W s.p).1) (o:=Bl c s.p.toNat) (by rw[D];exact V);have I:=H (by rw[d];omega);refine⟨w2.put h (by rw[aB];omega),C,⟨by show 0<=s.p+1;omega,by show s.p+1<=s.L;omega⟩,N,λm=> ?_, ?_, ?_⟩
  .have m:0<=s.q:=m;omega
  .show s.lv+c.sl=c.fixed+c.sl*(if s.q<0 then s.p+1 else s.q);rw[Zg,hi.lv,d,Int.mul_add,Int.mul_one];omega
  .show s.lv+c.sl<=max s.pk (s.lv+c.sl)/\max s.pk (s.lv+c.sl)<=c.words;omega
 rw[zF a8];by_cases a5:a=5
 .rw[zE a5];by_cases u:n≠0
  .rw[zE u];exact hi
  rw[zF u];by_cases g:0<=s.q
  .rw[zE g];exact hi
  rw[zF g];by_cases e:s.p≠s.L
  .rw[zE e];exact hi
  rw[zF e];refine⟨(B9 h y T).2,C,K,⟨by show-1<=s.L;omega,Int.le_refl _⟩,λ_=>by show s.p=s.L;omega, ?_, ?_⟩
  .show s.lv=c.fixed+c.sl*(if s.L<0 then s.p else s.L);rw[Zh,hi.lv];unfold kO;rw[Zg,show s.p=s.L by omega]
  .show s.lv<=max s.pk (s.lv+(c.fk.n:Int))/\max s.pk (s.lv+(c.fk.n:Int))<=c.words;omega
 rw[zF a5];by_cases F:a=9
 .rw[zE F];by_cases u:n≠0
  .rw[zE u];exact hi
  rw[zF u];by_cases m:s.q<1
  .rw[zE m];exact hi
  rw[zF m];have v:(s.q-1).toNat<c.ns.toNat:=by omega
  obtain⟨b1,b2,b3,b4,b5,b6⟩:=IE h z y v;obtain⟨v1,v2,Z⟩:=mS h (a:=(Kr c s.W (s.q-1).toNat).2.1) y (by omega) (by omega);refine⟨Z.put h (by rw[aB];omega),C,⟨by show 0<=s.q-1;omega,by show s.q-1<=s.L;omega⟩,⟨by show-1<=s.q-1;omega,by show s.q-1<=s.L;omega⟩,λ_=>rfl, ?_, ?_⟩
  .show s.lv-c.sl=c.fixed+c.sl*(if s.q-1<0 then s.q-1 else s.q-1);have d:kO s=s.q:=by unfold kO;rw[Zh]
   rw[Zh,hi.lv,d,Int.mul_sub,Int.mul_one];omega
  .show s.lv-c.sl<=s.pk/\s.pk<=c.words;have:=A.sl;rw[zE z]at this;omega
 rw[zF F];exact hi
theorem an1 (e:Dp B s)(a n:Int):Dp (B+65536) (F4 c a n s).2:=by
 have d:Dp (B+65536) s:=by unfold Dp at e⊢;omega
 unfold F4
 repeat' split
 all_goals first|exact d|(unfold Dp at e⊢;simp only;omega)
def wV (c:Cx)(s:Dy):Int×Dy:=if c.mode≠2 then(19,s)else if 0<=s.q then(19,s)else if s.L=65535 then(14,s)else(0,{s with L:=s.L+1})
theorem Nh (e:Dp B s):Dp (B+65536) (wV c s).2:=by
 have d:Dp (B+65536) s:=by unfold Dp at e⊢;omega
 unfold wV
 repeat' split
 all_goals first|exact d|(unfold Dp at e⊢;simp only;omega)
theorem SF (d:c.mode=3)(hi:InvB c s):InvB c (wV c s).2:=by
 unfold wV;rw[Zg];exact hi
theorem SG (hi:Inv c s):Inv c (wV c s).2:=by
 unfold wV;split
 .exact hi
 split
 .exact hi
 split
 .exact hi
 .have:=hi.L;have:=hi.p;have:=hi.q;exact⟨hi.w,⟨by show 0<=s.L+1;omega,by show s.L+1<=65535;omega⟩,⟨hi.p.1,by show s.p<=s.L+1;omega⟩,⟨hi.q.1,by show s.q<=s.L+1;omega⟩,λk d=>by have:=hi.tag k d;exact⟨this.1,by show iA c s.W k<=s.L+1+1;omega⟩,hi.lv,hi.pk⟩
theorem VY (e:Gp c s):Gp c (wV c s).2:=by
 intro d;unfold wV;rw[zE d];exact e d
theorem aI1 (a n:Int)(s:Dy):(HS c a n s).2.L=s.L:=by
 unfold HS;by_cases d:jQ a n=Zb∨7<a
 .rw[zE d]
 rw[zF d];by_cases e:(2<=a/\a<=4)/\c.ns<=n
 .rw[zE e]
 rw[zF e]
 have RB: ∀{P:Prop} [Decidable P] {x y:Int×Dy},x.2.L=s.L->y.2.L=s.L->(if P then x else y).2.L=s.L:=by
  intro P _ x y h m;by_cases g:P
  .rw[zE g];exact h
  .rw[zF g];exact m
 exact RB (RB rfl rfl) (RB (RB rfl rfl) (RB (RB rfl rfl) (RB (RB rfl rfl) (RB (RB rfl (RB rfl rfl)) (RB (RB rfl (RB rfl rfl)) (RB rfl (RB rfl rfl)))))))
theorem af4 (d:Gp c s)(a n:Int):Gp c (HS c a n s).2:=λe=>(aI1 a n s).trans (d e)
def ac9 (c:Cx)(x:Int×Int)(s:Dy):Int×Dy:=if x.1=0 then wV c s else F4 c x.1 x.2 s
theorem aJ7 (h:0<=s.L/\s.L<=65535):iH c.fixed c.tp c.sl c.ns c.mode c.R c.Q c.len c.words s.L s.p s.q s.c0 s.c1 s.c2 s.c3 s.z c.X c.T c.l c.k c.P c.tk (c.off 8:Int) c.ns (c.X.length:Int) s.lv s.pk c.words s.W=O ((wV c s).1,c.fixed,c.tp,c.sl,c.ns,c.mode,c.R,c.Q,c.len,c.words,(wV c s).2.L,s.p,s.q,s.c0,s.c1,s.c2,s.c3,s.z):=by
 unfold iH wV;rw[ag];by_cases d:c.mode≠2
 .rw[zE d,zE d]
 rw[zF d,zF d,ag];by_cases e:0<=s.q
 .rw[zE e,zE e]
 rw[zF e,zF e,ag];by_cases g:s.L=65535
 .rw[zE g,zE g]
 rw[zF g,zF g,Zi]
def WU (c:Cx)(x:Int×Int)(s:Dy):Int×Dy:=if x.1=0 then wV c s else HS c x.1 x.2 s
structure Well1 (c:Cx)(i:Nat)(s:Dy):Prop where
 inv:InvB c s
 cnt:Dp (65536*i) s
structure Well2 (c:Cx)(i:Nat)(s:Dy):Prop where
 inv:Inv c s
 cnt:Dp (65536*i) s
 len:Gp c s
theorem Well1.act (h:c.Ok)(d:c.mode=3)(w:Well1 c i s)(x:Int×Int):Well1 c (i+1) (ac9 c x s).2:=by
 have e:(65536:Int)*((i+1:Nat):Int)=65536*i+65536:=by omega
 unfold ac9;split
 .exact⟨SF d w.inv,by rw[e];exact Nh w.cnt⟩
 .exact⟨an2 h d w.inv _ _,by rw[e];exact an1 w.cnt _ _⟩
theorem Well2.act (h:c.Ok)(d:c.mode≠3)(w:Well2 c i s)(x:Int×Int):Well2 c (i+1) (WU c x s).2:=by
 have e:(65536:Int)*((i+1:Nat):Int)=65536*i+65536:=by omega
 unfold WU;split
 .exact⟨SG w.inv,by rw[e];exact Nh w.cnt,VY w.len⟩
 .exact⟨af3 h d w.inv _ _,by rw[e];exact af2 w.cnt _ _,af4 w.len _ _⟩
theorem Well1.L (h:c.Ok)(w:Well1 c i s):0<=s.L/\s.L<=65535:=by
 have:=w.inv.L;have:=h.num.len;omega
def aD4 (f:(Int×Int)->Dy->Int×Dy)(l:List (Int×Int))(s:Dy):Nat->Dy
 |0=>s
 |i+1=>(f (l.getD i (0,0)) (aD4 f l s i)).2
theorem Ul (s:Dy)(h:s.c0=0/\s.c1=0/\s.c2=0/\s.c3=0):Dp (65536*(0:Nat)) s:=by
 unfold Dp;omega
theorem NB (h:c.Ok)(d:c.mode=3)(l:List (Int×Int)): ∀i,Well1 c i (aD4 (ac9 c) l (new1 c) i)
 |0=>⟨X8 h d,Ul _ ⟨rfl,rfl,rfl,rfl⟩⟩
 |i+1=>(NB h d l i).act h d _
theorem NC (h:c.Ok)(d:c.mode≠3)(l:List (Int×Int)): ∀i,Well2 c i (aD4 (WU c) l (new2 c) i)
 |0=>⟨X9 h d,Ul _ ⟨rfl,rfl,rfl,rfl⟩,λ_=>rfl⟩
 |i+1=>(NC h d l i).act h d _
def F9 (c:Cx)(s:Dy):Int×Int×(Zd)×Zd:=if s.q≠0 then(0,19,[],[])else(s.z,0,seg s.W (c.off 5) c.X.length,seg s.W (c.off 6) c.T.length)
theorem an7 (h:c.Ok)(e:Wd c s.W):kE c.fixed c.tp c.sl c.ns c.mode c.R c.Q c.len c.words s.L s.p s.q s.c0 s.c1 s.c2 s.c3 s.z c.X c.T c.l c.k c.P c.tk s.lv s.pk c.words s.W=O (F9 c s):=by
 unfold kE F9;rw[ag];by_cases d:s.q≠0
 .rw[zE d,zE d]
 rw[zF d,zF d,Qj (ii:=5) (i:=5) h e rfl (by omega)];simp only[zG];rw[Qj (ii:=6) (i:=6) h e rfl (by omega)];rfl
theorem aB1 (h:c.Ok)(d:Wd c s.W):li c.fixed c.tp c.sl c.ns c.mode c.R c.Q c.len c.words s.L s.p s.q s.c0 s.c1 s.c2 s.c3 s.z c.X c.T c.l c.k c.P c.tk s.lv s.pk c.words s.W=O s.W:=by
 unfold li jB;rw[vM (d.tk h).2];rfl
theorem Uv (h:c.Ok)(e:Wd c s.W):gN c.fixed c.tp c.sl c.ns c.mode c.R c.Q c.len c.words s.L s.p s.q s.c0 s.c1 s.c2 s.c3 s.z c.X c.T c.l c.k c.P c.tk (c.off 8:Int) c.ns (c.X.length:Int) s.lv s.pk c.words s.W=O (F9 c s):=by
 unfold gN F9;rw[ag];by_cases d:s.q≠0
 .rw[zE d,zE d]
 rw[zF d,zF d,MA (ii:=5) (i:=5) h e rfl (by omega)];simp only[zG];rw[MA (ii:=6) (i:=6) h e rfl (by omega)];rfl
theorem XG (h:c.Ok)(d:Wd c s.W):ig c.fixed c.tp c.sl c.ns c.mode c.R c.Q c.len c.words s.L s.p s.q s.c0 s.c1 s.c2 s.c3 s.z c.X c.T c.l c.k c.P c.tk (c.off 8:Int) c.ns (c.X.length:Int) s.lv s.pk c.words s.W=O s.W:=by
 unfold ig jB;rw[vM (d.tk h).2];rfl
end
end
section
section
variable {c:Cx}
end
end
section
section
variable {a0:Int} {a1 a2:Zd} {a3:Int} {a4:List ci} {a5:Int} {a6:List ci} {a7 a8:Int}
theorem ap3 (u: ∀o∈a4,okV o)(v: ∀o∈a6,okV o):lK a0 a1 a2 a3 a4 a5 a6 a7 a8=O Zb∨(lK a0 a1 a2 a3 a4 a5 a6 a7 a8=O Za/\OpsOk a4/\OpsOk a6/\a1.length<=200/\a2.length<=200):=by
 unfold lK zY;by_cases d:(a4.length:Int)<=60
 .by_cases e:(a6.length:Int)<=60
  .by_cases g:(a1.length:Int)<=200
   .by_cases m:(a2.length:Int)<=200
    .have p:OpsOk a4:=⟨by omega,u⟩;have q:OpsOk a6:=⟨by omega,v⟩;rw[zB d,zB e,zB g,zB m];simp only[zC,zG,Bool.not_true,zD];rw[Lp p q (by omega) (by omega)];simp only[zG,ag]
     have h: ∀b:Bool,(O b=O Zb)∨(O b=O Za/\OpsOk a4/\OpsOk a6/\a1.length<=200/\a2.length<=200):=λb=>by
      cases b
      .exact .inl rfl
      .exact .inr ⟨rfl,p,q,by omega,by omega⟩
     repeat' split
     all_goals exact h _
    .rw[zB d,zB e,zB g,zA m];exact .inl rfl
   .rw[zB d,zB e,zA g];exact .inl rfl
  .rw[zB d,zA e];exact .inl rfl
 .rw[zA d];exact .inl rfl
end
end
section
open Nat renaming le_refl -> aB
def ch :Nat->Nat->Nat
 |_,0=>1
 |0,_+1=>0
 |n+1,k+1=>ch n k+ch n (k+1)
theorem Ox (n:Nat):ch n 0=1:=by cases n<;>rfl
theorem Jq (n k:Nat):ch (n+1) (k+1)=ch n k+ch n (k+1):=rfl
theorem Oy : ∀n k,ch (n+1) (k+1)*(k+1)=ch n k*(n+1)
 |0,0=>rfl
 |0,k+1=>by rw[Jq];simp[ch]
 |n+1,0=>by
  have h:=Oy n 0;rw[Ox]at h;rw[Jq (n+1) 0,Ox];omega
 |n+1,k+1=>by
  have d:=Oy n k;have e:=Oy n (k+1);rw[Jq (n+1) (k+1),Nat.add_mul,e,show k+1+1=(k+1)+1 from rfl,Nat.mul_add (ch (n+1) (k+1)),d,Nat.mul_one,Jq n k,Nat.mul_add (ch n k+ch n (k+1)) (n+1) 1,Nat.add_mul];omega
theorem Se : ∀{n k:Nat},k<=n->1<=ch n k
 |n,0,_=>by rw[Ox];exact aB _
 |n+1,k+1,h=>by rw[Jq];have:=Se (n:=n) (k:=k) (by omega);omega
theorem Oz : ∀{n k:Nat},n<k->ch n k=0
 |0,k+1,_=>rfl
 |n+1,k+1,h=>by rw[Jq,Oz (by omega),Oz (by omega)]
theorem TG (n:Nat):ch n n=1:=by
 induction n with
 |zero=>rfl
 |succ n d=>rw[Jq,d,Oz (by omega)]
theorem GJ : ∀s a b,a+b=s->ch s a=ch s b
 |0,a,b,h=>by rw[show a=0 by omega,show b=0 by omega]
 |s+1,0,b,h=>by rw[show b=s+1 by omega,Ox,TG]
 |s+1,a+1,0,h=>by rw[show a=s by omega,Ox,TG]
 |s+1,a+1,b+1,h=>by
  rw[Jq,Jq,GJ s a (b+1) (by omega),GJ s (a+1) b (by omega)];omega
theorem aH9 (d i:Nat):ch (d+i) i<=ch (d+(i+1)) (i+1):=by
 rw[show d+(i+1)=(d+i)+1 by omega,Jq];omega
theorem Xk (d:Nat)(h:i<=j):ch (d+i) i<=ch (d+j) j:=by
 induction j with
 |zero=>rw[show i=0 by omega];exact aB _
 |succ j e=>
  by_cases hi:i=j+1
  .rw[hi];exact aB _
  .exact Nat.le_trans (e (by omega)) (aH9 d j)
theorem JF {s:Nat}(d:1<=s): ∀l,l+1<=ch (s+l) l
 |0=>by rw[Ox];exact aB _
 |l+1=>by
  rw[show s+(l+1)=(s+l)+1 by omega,Jq];have:=JF d l;have:=Se (n:=s+l) (k:=l+1) (by omega);omega
def xh :Nat:=1099511627776
def Vn (n k:Int):Int:=if n<0∨k<0∨n<k then 0 else((min xh (ch n.toNat k.toNat):Nat):Int)
theorem ae3 {d:Nat}(hi:1<=i):ch (d+(i-1)) (i-1)*(d+i) / i=ch (d+i) i:=by
 have:=Oy (d+(i-1)) (i-1);rw[show i-1+1=i by omega,show d+(i-1)+1=d+i by omega]at this;rw[<-this];exact Nat.mul_div_cancel _ (by omega)
structure IsRep (l s r:Nat):Prop where
 up:l<=ch (s+r) r
 low: ∀x,x<r->ch (s+x) x<l
theorem IsRep.eq {l s r d:Nat}(h:IsRep l s r)(e:IsRep l s d):r=d:=by
 rcases Nat.lt_trichotomy r d with k|k|k
 .have:=e.low _ k;have:=h.up;omega
 .exact k
 .have:=h.low _ k;have:=e.up;omega
theorem IsRep.le {l s r:Nat}(h:IsRep l s r)(d:1<=s):r<=l:=by
 rcases Nat.lt_or_ge l r with k|k
 .have:=h.low _ k;have:=JF d l;omega
 .exact k
theorem aD2 {l s r:Nat}(h:l<=ch (s+r) r)(h':r=0∨ch (s+(r-1)) (r-1)<l):IsRep l s r:=
 ⟨h,λx d=>by
  rcases h' with h'|h'
  .omega
  .exact Nat.lt_of_le_of_lt (Xk s (show x<=r-1 by omega)) h'⟩
def spI (n c r:Int):Int:=max 1 (max (Vn (c+r-2) c) (n-Vn (c+r-1) (c-1)))
theorem Ow {n:Nat}(h:k<=n):Vn (n:Int) (k:Int)=((min xh (ch n k):Nat):Int):=by
 unfold Vn;rw[Zh];rfl
theorem az3 (n k:Int):0<=Vn n k/\Vn n k<=1099511627776:=by
 unfold Vn xh;split<;>omega
theorem aD8 {n c r:Nat}(z:2<=n)(y:1<=c)(m:IsRep n c r)(v:n<=65536):1<=spI n c r/\spI n c r<=n-1/\(c=1->spI n c r=n-1):=by
 have A:1<=r:=by
  rcases Nat.eq_zero_or_pos r with h|h
  .have:=m.up;rw[h,Ox]at this;omega
  .exact h
 have g:=m.low (r-1) (by omega)
 have a1:Vn ((c:Int)+r-2) c<=(n:Int)-1:=by
  unfold Vn;split
  .omega
  .rename_i h;rw[show((c:Int)+r-2).toNat=c+r-2 by omega,Int.toNat_natCast];have q:ch (c+(r-1)) (r-1)=ch (c+(r-1)) c:=GJ _ _ _ (by omega)
   have u:ch (c+r-2) c<=ch (c+(r-1)) c:=by
    obtain⟨d,rfl⟩: ∃d,c=d+1:=⟨c-1,by omega⟩
    rw[show d+1+(r-1)=(d+1+r-2)+1 by omega,Jq];omega
   omega
 have p:1<=Vn ((c:Int)+r-1) (c-1):=by
  rw[show(c:Int)+r-1=((c+r-1:Nat):Int)by omega,show(c:Int)-1=((c-1:Nat):Int)by omega,Ow (by omega)];have:=Se (n:=c+r-1) (k:=c-1) (by omega);unfold xh;omega
 unfold spI;refine⟨by omega,by omega,λe=> ?_⟩;subst e
 have o:Vn (((1:Nat):Int)+r-1) (((1:Nat):Int)-1)=1:=by
  rw[show(((1:Nat):Int))+r-1=((r:Nat):Int)by omega,show(((1:Nat):Int))-1=((0:Nat):Int)by omega,Ow (by omega),Ox];rfl
 rw[o];omega
end
section
open List renaming getElem_mem -> aB
structure Mc where
 L:Int
 p:Int
 q:Int
 t:Zd
def K9 (a:Int×Int)(m:Mc):Option Mc:=
 if a.1=1 then(if 1<=a.2/\a.2<=65535/\m.p+a.2<=m.L then O {m with p:=m.p+a.2}else Y)
 else if a.1=2 then(if 0<=a.2/\a.2<m.t.length/\m.t.getD a.2.toNat 0<0 then O {m with t:=m.t.set a.2.toNat m.p}else Y)
 else if a.1=3 then(if 0<=a.2/\a.2<m.t.length/\0<=m.t.getD a.2.toNat 0 then O {m with p:=m.t.getD a.2.toNat 0}else Y)
 else if a.1=4 then(if 0<=a.2/\a.2<m.t.length/\0<=m.t.getD a.2.toNat 0 then O {m with t:=m.t.set a.2.toNat (-1)}else Y)
 else if a.1=5 then(if a.2=0/\m.q= -1/\m.p=m.L then O {m with q:=m.p}else Y)
 else if a.1=6 then(if a.2=0/\m.q= -1/\m.p=m.L-1 then O {m with q:=m.p}else Y)
 else if a.1=7 then(if a.2=0/\0<m.q/\m.p=m.q-1 then O {m with q:=m.p}else Y)
 else Y
inductive Run (nx:Mc->Option (Int×Int)):Mc->List (Int×Int)->Mc->Prop
 |nil (m:Mc):Run nx m [] m
 |cons {m m' m'':Mc} {a:Int×Int} {l:List (Int×Int)}:nx m=O a->K9 a m=O m'->Run nx m' l m''->Run nx m (a::l) m''
theorem Run.append {e:Mc->Option (Int×Int)}{m m' d:Mc}{l l':List (Int×Int)}(h:Run e m l m')(g:Run e m' l' d):Run e m (l++l') d:=by
 induction h with
 |nil=>exact g
 |cons a b _ o=>exact .cons a b (o g)
theorem Run.one {d:Mc->Option (Int×Int)}{m m':Mc}{a:Int×Int}(e:d m=O a)(g:K9 a m=O m'):Run d m [a] m':= .cons e g (.nil _)
def mP (t:Zd):Int:=t.foldl max (-1)
def zP (t:Zd)(x:Int):Nat:=t.findIdx λy=>Zc (y=x)
def CO (t:Zd):Nat:=t.countP λy=>Zc (y<0)
def LY (t:Zd):Nat:=t.findIdx λy=>Zc (y<0)
def Hc (l s:Nat):Nat:=((List.range (l+1)).find? λr=>Zc (l<=ch (s+r) r)).getD 0
theorem Uu (l:Nat){s:Nat}(g:1<=s):IsRep l s (Hc l s):=by
 unfold Hc;cases h:(List.range (l+1)).find? λr=>Zc (l<=ch (s+r) r)with
 |none=>
  have:=List.find?_eq_none.1 h l (List.mem_range.2 (by omega));have:=JF g l;simp only[decide_eq_true_eq]at*;omega
 |some r=>
  obtain⟨d,e⟩:=List.find?_range_eq_some.1 h;refine⟨of_decide_eq_true d,λx m=> ?_⟩;have:=e.2 x m;simp only[Bool.not_eq_true',decide_eq_false_iff_not]at this;omega
def Bc (m:Mc):Option (Int×Int):=
 let e:=if m.q<0 then m.L else m.q
 if 0<=m.q/\e<=mP m.t then O (4,zP m.t (mP m.t))
 else if m.q=0 then Y
 else if m.q<0/\m.p=m.L then O (5,0)
 else if m.p=e-1 then(if 0<=m.q then O (7,0)else O (6,0))
 else if mP m.t<0 then(if e<=m.p then Y else O (2,0))
 else if m.p<mP m.t∨e<=m.p then O (3,zP m.t (mP m.t))
 else if mP m.t<m.p/\0<CO m.t then O (2,LY m.t)
 else if mP m.t<m.p then O (1,e-1-m.p)
 else O (1,spI (e-mP m.t) (CO m.t+1) (Hc (e-mP m.t).toNat (CO m.t+1)))
theorem uI (t:Zd): ∀x,x<=t.foldl max x/\(∀y∈t,y<=t.foldl max x)/\(t.foldl max x=x∨t.foldl max x∈t):=by
 induction t with
 |nil=>exact λx=>⟨Int.le_refl _,λy hy=>by(cases hy), .inl rfl⟩
 |cons z t e=>
  intro x;obtain⟨g,d,h3⟩:=e (max x z);rw[List.foldl_cons];refine⟨by omega,λy hy=> ?_, ?_⟩
  .rcases List.mem_cons.1 hy with rfl|hy
   .omega
   .exact d y hy
  .rcases h3 with h3|h3
   .rw[h3];rcases Int.le_total x z with k|k
    .exact .inr (by rw[Int.max_eq_right k];exact List.mem_cons_self ..)
    .exact .inl (Int.max_eq_left k)
   .exact .inr (List.mem_cons_of_mem _ h3)
theorem Io (g: -1<=x)(d: ∀y∈t,y<=x)(e:x= -1∨x∈t):mP t=x:=by
 obtain⟨a,b,c⟩:=uI t (-1);unfold mP
 have u:t.foldl max (-1)<=x:=by
  rcases c with c|c
  .omega
  .exact d _ c
 have v:x<=t.foldl max (-1):=by
  rcases e with h|h
  .omega
  .exact b _ h
 omega
theorem aE5 (e:0<=x)(d: ∀y∈t,y<x):mP t<x:=by
 obtain⟨a,b,c⟩:=uI t (-1);unfold mP;rcases c with c|c
 .omega
 .exact d _ c
theorem GY {y:Int}(h:y∈t.set k a):y∈t∨y=a:=List.mem_or_eq_of_mem_set h
theorem aq3 (g:0<=a)(d:k<t.length)(h: ∀y∈t,y<a):mP (t.set k a)=a:=
 Io (by omega) (λy e=>by rcases GY e with k|k;exact Int.le_of_lt (h y k);omega) (.inr (List.mem_set d a))
theorem ap0 (d:k<t.length)(h: ∀y∈t,y<a):zP (t.set k a) a=k:=by
 unfold zP;rw[List.findIdx_eq (by rw[List.length_set];exact d)];refine⟨by simp,λj e=> ?_⟩;have:=h t[j] (aB _);rw[List.getElem_set_ne (by omega)];exact zA (by omega)
theorem aa2 (h:0<CO t): ∃d:LY t<t.length,t[LY t]<0:=by
 unfold CO at h;obtain⟨y,g,e⟩:=List.countP_pos_iff.1 h;have d:LY t<t.length:=List.findIdx_lt_length_of_exists ⟨y,g,e⟩;refine⟨d,of_decide_eq_true (List.findIdx_getElem (w:=d))⟩
theorem ah1 (e:0<=a)(d:k<t.length)(h:t[k]<0):CO (t.set k a)+1=CO t:=by
 unfold CO;rw[List.countP_set d,zB h,zA (show¬a<0 by omega)];have:0<t.countP λy=>Zc (y<0):=List.countP_pos_iff.2 ⟨_,aB d,zB h⟩
 simp only[if_true,Bool.false_eq_true,if_false];omega
end
section
open Int renaming reduceEq -> aB, toNat_natCast -> aD
open List renaming length_set -> bB, getD_eq_getElem?_getD -> bD, getElem_mem -> cB
def YT (n c:Nat):Nat:=(spI n c (Hc n c)).toNat
theorem YU {n c:Nat}(m:2<=n)(d:1<=c)(g:n<=65536):1<=YT n c/\YT n c+1<=n/\(c=1->YT n c+1=n)/\((YT n c:Nat):Int)=spI n c (Hc n c):=by
 obtain⟨o,p,e⟩:=aD8 m d (Uu n d) g;unfold YT;exact⟨by omega,by omega,λh=>by have:=e h;omega,by omega⟩
def hld (t:Zd):List Bool:=t.map λy=>Zc (0<=y)
def pt :Nat->Bool->Nat->Nat->Nat->List Bool->Bool->List (Int×Int)
 |0,_,_,_,_,_,_=>[]
 |f+1,Zb,n,c,_,h,d=>if n=1 then [(if d then 6 else 7,0)]else(2,((h.findIdx λb=> !b:Nat):Int))::pt f Za n c (h.findIdx λb=> !b) (h.set (h.findIdx λb=> !b) Za) d
 |f+1,Za,n,c,k,h,d=>if n<=1 then [(7,0),(4,(k:Int))]else(1,(YT n c:Int))::(pt f Zb (n-YT n c) (c-1) 0 h d++(3,(k:Int))::pt f Za (YT n c) c k h Zb)
theorem ai0 (t:Zd):((hld t).findIdx λb=> !b)=LY t:=by
 unfold hld LY;rw[List.findIdx_map]
 congr 1
 funext y
 show(!Zc (0<=y))=Zc (y<0);by_cases h:0<=y
 .rw[zB h,Ze];rfl
 .rw[zA h,Zf];rfl
theorem ah9 (t:Zd)(k:Nat)(d:0<=a):hld (t.set k a)=(hld t).set k Za:=by
 unfold hld;rw[List.map_set,zB d]
theorem Qk (d:k<t.length):(t.set k a).getD k 0=a:=by
 rw[bD,List.getElem?_set_self d];rfl
structure At30 (L q a:Int)(n:Nat)(last:Bool):Prop where
 fa:0<=a
 fn:1<=n/\n<=65535
 fe:(if q<0 then L else q)=a+n
 fl:last=Za->q= -1
 fm:last=Zb->0<=q
 fL:a+n<=L
theorem YJ : ∀(f:Nat),(∀(n c k:Nat) (t:Zd) (d:Bool) (L q a:Int),2*n<=f->At30 L q a n d->(∀y∈t,y<a)->(∀y∈t,-1<=y)->CO t=c->(2<=n->1<=c)->Run Bc ⟨L,a,q,t⟩ (pt f Zb n c k (hld t) d) ⟨L,a,a,t⟩)/\
  (∀(n c k:Nat) (t:Zd) (d:Bool) (L q a:Int),2*n<=f+1->At30 L q a n d->(n=1->d=Zb)->(∀y∈t,y<a)->(∀y∈t,-1<=y)->(u:k<t.length)->t[k]<0->CO t=c->Run Bc ⟨L,a,q,t.set k a⟩ (pt f Za n c k (hld (t.set k a)) d) ⟨L,a,a,t⟩)
 |0=>⟨λn c k t d L q a v K=>by have:=K.fn;omega,λn c k t d L q a v K=>by have:=K.fn;omega⟩
 |f+1=>by
  obtain⟨ihp,I⟩:=YJ f;refine⟨λn c k t d L q a hf M g p N Q=> ?_,λn c k t d L q a hf M V g p u F N=> ?_⟩
  .obtain⟨A,hn,o,J,E,hL⟩:=M;have e:=aE5 (t:=t) A g;unfold pt;by_cases v:n=1
   .rw[zE v];cases d with
    |true=>
     have hq:=J rfl;rw[Zg]at o;rw[zE rfl];refine .one (m':=⟨L,a,a,t⟩) ?_ ?_
     .unfold Bc;simp only;rw[zE (show q<0 by omega),Zh,Zh,Zh,Zg,Zh]
     .unfold K9;simp only[aB,true_and,if_true,if_false];rw[Zg]
    |false=>
     have hq:=E rfl;rw[Zh]at o;rw[zF (by decide)];refine .one (m':=⟨L,a,a,t⟩) ?_ ?_
     .unfold Bc;simp only;rw[zF (show¬q<0 by omega),Zh,Zh,Zh,Zg,Zg]
     .unfold K9;simp only[aB,true_and,if_true,if_false];rw[Zg]
   .rw[zF v,ai0,<-ah9 t _ A];have D:0<CO t:=by have:=Q (by omega);omega
    obtain⟨hv,H⟩:=aa2 D;refine .cons (m':=⟨L,a,q,t.set (LY t) a⟩) ?_ ?_ (I n c (LY t) t d L q a (by omega) ⟨A,hn,o,J,E,hL⟩ (λh=>absurd h v) g p hv H N)
    .unfold Bc;simp only;rw[o,Zh,zF (by split at o<;>omega),zF (by split at o<;>omega),Zh];by_cases ht:mP t<0
     .rw[zE ht,Zh]
      have:LY t=0:=by
       unfold LY;rw[List.findIdx_eq (by omega)];refine⟨zB ?_,λj hj=>by omega⟩;have:=(uI t (-1)).2.1 _ (cB (show 0<t.length by omega));unfold mP at ht;omega
      rw[this];rfl
     .rw[zF ht,Zh,zE ⟨by omega,D⟩]
    .unfold K9;simp only[aB,true_and,if_false,if_true,aD];rw[bD,List.getElem?_eq_getElem hv,zE ⟨by omega,by omega,H⟩]
  .obtain⟨A,hn,o,J,E,hL⟩:=M;have e:=aq3 A u g;have z:=ap0 u g;have hfre:=ah1 A u F;have hsl:k<(t.set k a).length:=by rw[bB];exact u
   have C:(t.set k a).set k (-1)=t:=by
    have X:t[k]= -1:=by have:=p _ (cB u);omega
    rw[List.set_set,<-X,List.set_getElem_self]
   unfold pt;by_cases v:n<=1
   .have Z:n=1:=by omega
    have hq:=E (V Z);rw[Zh]at o;rw[zE v];refine .cons (m':=⟨L,a,a,t.set k a⟩) ?_ ?_ (.one (m':=⟨L,a,a,t⟩) ?_ ?_)
    .unfold Bc;simp only[e];rw[zF (show¬q<0 by omega),Zh,Zh,Zh,Zg,Zg]
    .unfold K9;simp only[aB,true_and,if_false,if_true];rw[Zg]
    .unfold Bc;simp only[e,z];rw[zF (show¬a<0 by omega),Zg]
    .unfold K9;simp only[aB,true_and,if_false,if_true,aD,Qk u,C];rw[zE (by rw[bB];omega)]
   .rw[zF v];obtain⟨m1,m2,m3,m4⟩:=YU (n:=n) (c:=c) (by omega) (by omega) (by omega);generalize hm':YT n c=m at*;refine .cons (m':=⟨L,a+m,q,t.set k a⟩) ?_ ?_ (.append (m':=⟨L,a+m,a+m,t.set k a⟩) (ihp (n-m) (c-1) 0 (t.set k a) d L q (a+m) (by omega) ⟨by omega,by omega,by omega,J,E,by omega⟩ (λy hy=>(GY hy).elim (λh=>by have:=g y h;omega) λh=>by omega) (λy hy=>(GY hy).elim (λh=>p y h) λh=>by omega) (by omega) (λh=> ?_)) (.cons (m':=⟨L,a,a+m,t.set k a⟩) ?_ ?_ (I m c k t Zb L (a+m) a (by omega) ⟨A,by omega,by rw[Zh],(λh=>by cases h),λ_=>by omega,by omega⟩ (λ_=>rfl) g p u F N)))
    .unfold Bc;simp only[e];rw[o,Zh,zF (by split at o<;>omega),zF (by split at o<;>omega),Zh,Zh,Zh,Zh,Zh];rw[show a+(n:Int)-a=(n:Int)by omega,aD,show((CO (t.set k a):Nat):Int)+1=(c:Int)by omega,show CO (t.set k a)+1=c by omega,m4]
    .unfold K9;simp only[aB,true_and,if_true];rw[Zg]
    .by_cases T:c=1
     .have:=m3 T;omega
     .omega
    .unfold Bc;simp only[e,z];rw[zF (show¬a+(m:Int)<0 by omega),Zh,Zh,Zh,Zh,Zh,Zg]
    .unfold K9;simp only[aB,true_and,if_false,if_true,aD,Qk u];rw[zE (by rw[bB];omega)]
end
end Go.V
