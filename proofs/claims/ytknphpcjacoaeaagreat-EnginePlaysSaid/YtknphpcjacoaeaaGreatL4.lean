/- A part of the proof. No condition. -/
import Derived.Test.YtknphpcjacoaeaaGreatL3
set_option linter.unusedVariables false
set_option linter.unusedSimpArgs false
set_option linter.unusedSectionVars false
namespace Go.V
open Go.Ab
open Option renaming some->O,none->Y
open Bool renaming true->Za,false->Zb
open Decidable renaming decide->Zc
variable {s:Dy}{T W W' X l r t w:Zd}{B Q a b m:Int}{i j k:Nat}
section
open Int renaming reduceEq -> aD, toNat_of_nonneg -> bB
open Nat renaming reduceSub -> aB
set_option maxRecDepth 100000
def Rm (a n p q L d:Int)(l:Zd):Int×Int×Int×Int×Int×Zd:=
 if jd a n=Zb∨7<a then(2,p,q,L,d,l)
 else if(2<=a/\a<=4)/\(l.length:Int)<=n then(2,p,q,L,d,l)
 else if a=1 then(if L-p<n then(17,p,q,L,d,l)else(0,p+n,q,L,d+n,l))
 else if a=2 then(if 0<=rg l n then(15,p,q,L,d,l)else(0,p,q,L,d,l.set n.toNat p))
 else if a=3 then(if rg l n<0 then(16,p,q,L,d,l)else(0,rg l n,q,L,d,l))
 else if a=4 then(if rg l n<0 then(16,p,q,L,d,l)else(0,p,q,L,d,l.set n.toNat (-1)))
 else if a=5 then(if q≠ -1 then(18,p,q,L,d,l)else if p≠L then(17,p,q,L,d,l)else(0,p,p,L,d,l))
 else if a=6 then(if q≠ -1 then(18,p,q,L,d,l)else if p≠L-1 then(17,p,q,L,d,l)else(0,p,p,L,d,l))
 else(if q<=0 then(18,p,q,L,d,l)else if p≠q-1 then(17,p,q,L,d,l)else(0,p,p,L,d,l))
theorem nbz :Nat.beq 0 0=Za:=rfl
theorem nbs (n:Nat):Nat.beq (n+1) 0=Zb:=rfl
theorem zt {n:Int}(h: ¬(jd a n=Zb∨7<a)):jd a n=Za/\(a=1∨a=2∨a=3∨a=4∨a=5∨a=6∨a=7):=by
 have d:jd a n=Za:=by
  cases g:jd a n with
  |true=>rfl
  |false=>exact(h (.inl g)).elim
 refine⟨d, ?_⟩;have o: ¬a<1:=λe=>by unfold jd at d;rw[zE e]at d;cases d
 omega
theorem uB {n:Int}(h:jd a n=Za)(e:1<=a/\a<=4):0<=n/\n<1048576/\(a=1->1<=n/\n<65536):=by
 unfold jd at h;rw[Zh,Zh]at h;by_cases d:a=1
 .rw[zE d]at h;have:=of_decide_eq_true h;omega
 .rw[zF d,Zg]at h;have:=of_decide_eq_true h;omega
theorem XW {n p q L u:Int}(M:0<=L/\L<=65535)(N:0<=p/\p<=L)(S: -1<=q/\q<=L)(U:0<=u/\u<=1000000000000):mZ a n p q L u l=O (Rm a n p q L u l):=by
 unfold mZ Rm;rw[Tw];simp only[zG];by_cases h1:jd a n=Zb∨7<a
 .rw[zE h1]
  have e:(cond (!jd a n) (O Za) (O (Zc (7<a))))=O Za:=by
   rcases h1 with h1|h1
   .rw[h1];rfl
   .rw[zB h1];cases jd a n<;>rfl
  rw[e];rfl
 rw[zF h1];obtain⟨A,K⟩:=zt h1;have J: ¬7<a:=λh=>h1 (.inr h)
 rw[A,zA J];simp only[Bool.not_true,zD,zG];by_cases v:(2<=a/\a<=4)/\(l.length:Int)<=n
 .rw[zE v,zB v.1.1,zB v.1.2,zB v.2];rfl
 rw[zF v]
 have e:(cond (Zc (2<=a)) (cond (Zc (a<=4)) (cond (Zc ((l.length:Int)<=n)) (O (Sum.inl ())) (O (Sum.inr ()))) (O (Sum.inr ()))) (O (Sum.inr ())):Option (Unit⊕Unit))=O (.inr ()):=by
  by_cases d:2<=a
  .rw[zB d];by_cases g:a<=4
   .rw[zB g,zA (λC=>v ⟨⟨d,g⟩,C⟩)];rfl
   .rw[zA g];rfl
  .rw[zA d];rfl
 rw[e];simp only[zG,bg,qA]
 have o:(2<=a/\a<=4)->0<=n/\n.toNat<l.length/\ix n l.length=O n.toNat/\l[n.toNat]?=O (rg l n):=λF=>by
  have E:=uB A ⟨by omega,F.2⟩
  have x:n.toNat<l.length:=by
   have: ¬(l.length:Int)<=n:=λC=>v ⟨F,C⟩
   omega
  have D:n=((n.toNat:Nat):Int):=by omega
  refine⟨E.1,x, ?_, ?_⟩
  .conv=>lhs;rw[D]
   exact bi x
  .have:=db x;rw[<-D]at this;exact this
 rcases K with rfl|rfl|rfl|rfl|rfl|rfl|rfl
 .have E:=uB A (by omega);rw[show ix 1 8=O 1 from rfl];simp only[zG,aB,nbz,nbs,zC,zD];rw[zE trivial];unfold pc;rw[ad (n:=L-p) (by omega),ag];by_cases d:L-p<n
  .rw[zE d,zE d];rfl
  .rw[zF d,zF d,ad (n:=p+n) (by omega),ad (n:=u+n) (by omega)];rfl
 .obtain⟨H,I,y,z⟩:=o (by omega);rw[show ix 2 8=O 2 from rfl];simp only[zG,aB,nbz,nbs,zC,zD];rw[zF (by decide),zE trivial];unfold qB;rw[y];simp only[zG];rw[z];simp only[zG,ag];by_cases d:0<=rg l n
  .rw[zE d,zE d];rfl
  .rw[zF d,zF d];rfl
 .obtain⟨H,I,y,z⟩:=o (by omega);rw[show ix 3 8=O 3 from rfl];simp only[zG,aB,nbz,nbs,zC,zD];rw[zF (by decide),zF (by decide),zE trivial];unfold pe;rw[y];simp only[zG];rw[z];simp only[zG,ag];by_cases d:rg l n<0
  .rw[zE d,zE d];rfl
  .rw[zF d,zF d];rfl
 .obtain⟨H,I,y,z⟩:=o (by omega);rw[show ix 4 8=O 4 from rfl];simp only[zG,aB,nbz,nbs,zC,zD];rw[zF (by decide),zF (by decide),zF (by decide),zE trivial];unfold rE;rw[y];simp only[zG];rw[z];simp only[zG,ag];by_cases d:rg l n<0
  .rw[zE d,zE d];rfl
  .rw[zF d,zF d];rfl
 .rw[show ix 5 8=O 5 from rfl];simp only[zG,aB,nbz,nbs,zC,zD];rw[zF (by decide),zF (by decide),zF (by decide),zF (by decide),zE trivial];unfold rF kt;rw[ad (n:=L-0) (by omega),ag];by_cases d:q≠ -1
  .rw[zE d,zE d];rfl
  .rw[zF d,zF d,zB (show q= -1 by omega),Bool.and_true,Int.sub_zero];by_cases g:p=L
   .rw[zB g,zF (λk=>k g)];rfl
   .rw[zA g,zE g];rfl
 .rw[show ix 6 8=O 6 from rfl];simp only[zG,aB,nbz,nbs,zC,zD];rw[zF (by decide),zF (by decide),zF (by decide),zF (by decide),zF (by decide),zE trivial];unfold rD kt;rw[ad (n:=L-1) (by omega),ag];by_cases d:q≠ -1
  .rw[zE d,zE d];rfl
  .rw[zF d,zF d,zB (show q= -1 by omega),Bool.and_true];by_cases g:p=L-1
   .rw[zB g,zF (λk=>k g)];rfl
   .rw[zA g,zE g];rfl
 .rw[show ix 7 8=O 7 from rfl];simp only[zG,aB,nbz,nbs,zC,zD];rw[zF (by decide),zF (by decide),zF (by decide),zF (by decide),zF (by decide),zF (by decide)];unfold pf;rw[ag];by_cases d:q<=0
  .rw[zE d,zE d];rfl
  .rw[zF d,zF d,ad (n:=q-1) (by omega),ag];by_cases g:p≠q-1
   .rw[zE g,zE g];rfl
   .rw[zF g,zF g];rfl
section
variable {c:Cx}
theorem Df {L:Int}(g: ∀k,k<c.ns.toNat->0<=ge c W k/\ge c W k<=L+1): ∀t∈mN c W,-1<=t/\t<=L:=λt d=>by
 unfold mN at d;obtain⟨k,e,rfl⟩:=List.mem_map.1 d;have:=g k (List.mem_range.1 e);omega
theorem ab9 {n:Int}(h:0<=n)(e:n.toNat<c.ns.toNat):rg (mN c W) n=ge c W n.toNat-1:=by
 have g:=IM (c:=c) (W:=W) e;have d:=db (r:=mN c W) (k:=n.toNat) (by rw[mz];exact e);rw[g,bB h]at d;injection d with d
 exact d.symm
theorem DD.in' (h:DD B s)(d:B<=2305843009213693952):(0<=s.c0/\s.c0<=2305843009213693952)/\(0<=s.c1/\s.c1<=2305843009213693952)/\(0<=s.c2/\s.c2<=2305843009213693952)/\(0<=s.c3/\s.c3<=2305843009213693952):=by
 unfold DD at h;omega
theorem WZ (d:k<c.ns.toNat)(e:0<ge c W k):0<jw c W:=by
 unfold jw;exact List.countP_pos_iff.2 ⟨k,List.mem_range.2 d,zB e⟩
theorem VQ (h:c.Ok)(hi:Inv c s)(q:0<jw c s.W):c.sl<=s.lv:=by
 have n:=h.num;have e:=hi.lv;have g:=n.fixed;have d:=n.sl;have o:1<=c.sl:=by rw[d];have:=n.R;split<;>omega
 have p:c.sl*1<=c.sl*(jw c s.W:Int):=Int.mul_le_mul_of_nonneg_left (by omega) (by omega);have:=n.R;have:=n.Q;omega
theorem do2 (h:c.Ok)(D:c.mode≠3)(hi:Inv c s)(hc:DD B s)(hB:B<=2305843009213693952){n:Int}:
  nI a n c.fixed c.tp c.sl c.ns c.mode c.R c.Q c.len c.words s.L s.p s.q s.c0 s.c1 s.c2 s.c3 s.z c.X c.T c.l c.k c.P c.tk (c.off 8:Int) c.ns (c.X.length:Int) s.lv s.pk c.words s.W=O (ba0 c (HF c a n s)):=by
 have nm:=h.num;have I:=hi.w;have Z:=hi.L;have hp:=hi.p;have hq:=hi.q;have E:=hi.pk;have S:=h.ns;obtain⟨k0,k1,k2,k3⟩:=hc.in' hB;obtain⟨K,g2,M,g4⟩:=DY h hi;have U:=nm.tp;rw[zF D]at U
 have g:(mN c s.W).length<1000000:=by
  rw[mz];rcases Nat.eq_zero_or_pos c.ns.toNat with h0|h0
  .omega
  .have:=(tn h D h0).2.2;omega
 unfold nI oY;simp only[zG];rw[zA D,zD];unfold de;rw[LV h D I (λk N=>by have:=hi.tag k N;omega)];simp only[zG];rw[Gs Z hp hq g (Df hi.tag)];simp only[zG,bg];rw[XW Z hp hq (by omega)];simp only[zG];unfold Rm HF;by_cases F:jd a n=Zb∨7<a
 .rw[zE F,zE F,zB (by simp),zC];rfl
 rw[zF F,zF F];obtain⟨V,N⟩:=zt F;rw[mz,bB S.1];by_cases H:(2<=a/\a<=4)/\c.ns<=n
 .rw[zE H,zE H,zB (by simp),zC];rfl
 rw[zF H,zF H]
 have y:(2<=a/\a<=4)->n=((n.toNat:Nat):Int)/\n.toNat<c.ns.toNat/\rg (mN c s.W) n=ge c s.W n.toNat-1:=λhs=>by
  have hn:=uB V ⟨by omega,hs.2⟩
  have o:n.toNat<c.ns.toNat:=by
   have: ¬c.ns<=n:=λh7=>H ⟨hs,h7⟩
   omega
  exact⟨by omega,o,ab9 hn.1 o⟩
 simp only[rn,bj,lZ,zG];have e: ∀l:Zd,l.length<1000000->gd (ip (0+l.length) 8) (O l)=O l:=λl hl=>ca (by omega) (by omega)
 have A: ∀(i:Nat) (x:Int),((mN c s.W).set i x).length<1000000:=λi x=>by simp only[List.length_set];exact g
 rcases N with rfl|rfl|rfl|rfl|rfl|rfl|rfl
 .have hn:=uB V (by omega);simp only[aD,reduceIte];by_cases d:s.L-s.p<n
  .rw[zE d,zE d,zB (by simp),zC];rfl
  rw[zF d,zF d,zA (by simp),zD,show ix 1 8=O 1 from rfl];simp only[zG,aB,nbz,nbs,zC,zD];have C:n=((n.toNat:Nat):Int):=by omega
  have v:=ao6 h I (m:=n.toNat) (L:=s.L) (p:=s.p) (q:=s.q) (c0:=s.c0) (c1:=s.c1) (c2:=s.c2) (c3:=s.c3) (z:=s.z) (sb:=(c.off 8:Int)) (sn:=c.ns) (sx:=(c.X.length:Int)) (lv:=s.lv) (pk:=s.pk) (bd:=c.words) (by omega) (by omega) (by omega);rw[<-C]at v;rw[v];simp only[zG];rw[e _ g];rfl
 .obtain⟨C,o,J⟩:=y (by omega);simp only[aD,reduceIte];rw[J];by_cases d:0<=ge c s.W n.toNat-1
  .rw[zE d,zE d,zB (by simp),zC];rfl
  rw[zF d,zF d,zA (by simp),zD,show ix 2 8=O 2 from rfl];simp only[zG,aB,nbz,nbs,zC,zD];have v:=be3 h D hi o (by omega);rw[<-C]at v;rw[v];simp only[zG];rw[e _ (A _ _)];rfl
 .obtain⟨C,o,J⟩:=y (by omega);simp only[aD,reduceIte];rw[J];by_cases d:ge c s.W n.toNat-1<0
  .rw[zE d,zE d,zB (by simp),zC];rfl
  rw[zF d,zF d,zA (by simp),zD,show ix 3 8=O 3 from rfl];simp only[zG,aB,nbz,nbs,zC,zD];have v:=az4 h D hi o (by omega);rw[<-C]at v;rw[v];simp only[zG];rw[e _ g];rfl
 .obtain⟨C,o,J⟩:=y (by omega);simp only[aD,reduceIte];rw[J];by_cases d:ge c s.W n.toNat-1<0
  .rw[zE d,zE d,zB (by simp),zC];rfl
  rw[zF d,zF d,zA (by simp),zD,show ix 4 8=O 4 from rfl];simp only[zG,aB,nbz,nbs,zC,zD];have v:=bj9 h D hi o (by omega) (VQ h hi (WZ o (by omega)));rw[<-C]at v;rw[v];simp only[zG];rw[e _ (A _ _)];rfl
 .simp only[aD,reduceIte];by_cases d:s.q≠ -1
  .rw[zE d,zE d,zB (by simp),zC];rfl
  rw[zF d,zF d];by_cases u:s.p≠s.L
  .rw[zE u,zE u,zB (by simp),zC];rfl
  rw[zF u,zF u,zA (by simp),zD,show ix 5 8=O 5 from rfl];simp only[zG,aB,nbz,nbs,zC,zD];rw[bp0 h I K E.1 (by omega) M];simp only[zG];rw[e _ g,ad (n:=s.c2+1) (by omega),ad (n:=s.c3+1) (by omega)];rfl
 .simp only[aD,reduceIte];by_cases d:s.q≠ -1
  .rw[zE d,zE d,zB (by simp),zC];rfl
  rw[zF d,zF d];by_cases u:s.p≠s.L-1
  .rw[zE u,zE u,zB (by simp),zC];rfl
  rw[zF u,zF u,zA (by simp),zD,show ix 6 8=O 6 from rfl];simp only[zG,aB,nbz,nbs,zC,zD];rw[bi0 h I K E.1 (by omega) M];simp only[zG];rw[e _ g,ad (n:=s.c1+1) (by omega),ad (n:=s.c2+1) (by omega),ad (n:=s.c3+1) (by omega),ad (n:=s.c3+1+1) (by omega)];rfl
 .simp only[aD,reduceIte];by_cases d:s.q<=0
  .rw[zE d,zE d,zB (by simp),zC];rfl
  rw[zF d,zF d];by_cases u:s.p≠s.q-1
  .rw[zE u,zE u,zB (by simp),zC];rfl
  rw[zF u,zF u,zA (by simp),zD,show ix 7 8=O 7 from rfl];simp only[zG,aB,nbz,nbs,zC,zD];rw[bA8 h I K E.1 (by omega) M];simp only[zG];rw[e _ g,ad (n:=s.c1+1) (by omega),ad (n:=s.c3+1) (by omega)];rfl
end
end
section
open Go.IntKind renaming wrap -> zH, i64 -> zI, u64 -> zJ
open Int renaming reduceEq -> aB, le_max_left -> cB, toNat_natCast -> cD
open List renaming getD_eq_getElem?_getD -> aD, range -> bD, length_take -> dB, countP_append -> eD
open Nat renaming le_of_eq -> bB, le_refl -> dD
section
variable {c:Cx}
def dv (c:Cx)(W W':Zd):Prop:= ∀i,c.off 8<=i->W'[i]?=W[i]?
theorem dv.refl (W:Zd):dv c W W:=λ_ _=>rfl
theorem dv.trans {W'':Zd}(h:dv c W W')(d:dv c W' W''):dv c W W'':=λi hi=>(d i hi).trans (h i hi)
theorem dv.put (h:c.Ok)(d:dv c W W')(e:Wd c W')(hi:i<8)(q:w.length<=c.sz i):dv c W (put W' (c.off i) w):=λj g=>by
 have o:=kc (c:=c) (i:=i) (j:=8) hi;have p:=e.in' h (i:=i) (by omega);rw[X8 (by omega) (.inr (by omega))];exact d j g
theorem dv.rg (h:dv c W W')(hi:c.off 8<=i):rg W' (i:Int)=rg W (i:Int):=by
 unfold Go.V.rg;rw[cD,aD,aD,h i hi]
theorem dv.tag (h:dv c W W')(k:Nat):ge c W' k=ge c W k:=h.rg (by unfold sp;omega)
theorem dv.used (h:dv c W W'):jw c W'=jw c W:=by
 unfold jw
 congr 1
 funext k
 rw[h.tag k]
theorem dv.seg (h:dv c W W'){o n:Nat}(d:c.off 8<=o):seg W' o n=seg W o n:=by
 apply List.ext_getElem?;intro i;rw[yv,yv];split
 .exact h _ (by omega)
 .rfl
theorem PL (h:c.Ok){a:Zd}(e:Wd c W)(o:c.X.length+c.T.length<=a.length)(d:a.length<=max c.R.toNat c.Q.toNat):dv c W (E2 c W a):=by
 obtain⟨p,g,q⟩:=re h e o d;unfold E2;refine dv.put h (dv.put h (dv.put h (dv.refl W) e (by omega) ?_) p (by omega) ?_) g (by omega) ?_
 .exact d
 .rw[dB];exact Nat.min_le_left _ _
 .rw[vp,cv (n:=c.T.length) (g.in' h (i:=6) (by omega))];exact dD _
theorem Lp (h:c.Ok){x:Zd}(d:Wd c W)(g:x.length=c.X.length):dv c W (Px c W x):=by
 have n:=h.num;have y:=n.R;have v:=n.Q;have u:=n.xtQ;have A:=n.x;have z:=n.m;obtain⟨q,e,o⟩:=DZ h d g;obtain⟨p,E⟩:=Gl h d g;obtain⟨_,C,D⟩:=tW h.pk e (a:=fill c.Q [1]) (t:=(lossR c W x).2.1) (ia (by simp;omega)) (bB o.symm) (by omega);exact(dv.put h (dv.refl W) d (i:=3) (by omega) (bB e)).trans (PL h p (by omega) (by omega))
theorem VN (h:c.Ok)(d:Wd c W)(e:r.length=c.R.toNat)(g:t.length=c.fl.n):dv c W (QH c W r t):=by
 have n:=h.num;have u:=n.R;have q:=n.xtR;have y:=n.x;have v:=n.n;obtain⟨o,p⟩:=LX h d e g;obtain⟨_,z,A⟩:=tW h.pl e o (bB g.symm) (by omega);exact PL h d (by omega) (by omega)
theorem RU (h:c.Ok)(d:Wd c W)(p:Int):dv c W (put W (c.off 2) (stepR c W p).1):=
 dv.put h (dv.refl W) d (i:=2) (by omega) (bB (mm h d p).2.1)
theorem On (h:c.Ok)(d:Wd c W)(p:Int):dv c W (al1 c W p)/\Wd c (al1 c W p):=by
 obtain⟨q,e,g⟩:=mm h d p;have o:=Ch h d p;exact⟨(RU h d p).trans (VN h o e g),(LX h o e g).2⟩
theorem am0 (h:c.Ok)(d:Wd c W)(p:Int):((stepR c W p).1.take c.X.length).length=c.X.length:=by
 have n:=h.num;have u:=n.R;have q:=n.xtR;obtain⟨e,g,o⟩:=mm h d p;rw[dB];omega
theorem Lo (h:c.Ok)(d:Wd c W)(p:Int):dv c W (RA c W p)/\Wd c (RA c W p):=by
 obtain⟨v,e,g⟩:=mm h d p;have q:=Ch h d p;have o:=am0 h d p;have u:=(Gl h q o).2;exact⟨((RU h d p).trans (Lp h q o)).trans (VN h u e g),(LX h u e g).2⟩
theorem at8 (h:c.Ok)(d:Wd c W)(p:Int):dv c W (adv1 c W p):=by
 obtain⟨_,e⟩:=IK h d p;obtain⟨g,o⟩:=Tz h d p;refine dv.put h (dv.put h (dv.refl W) d (i:=2) (by omega) (bB e)) g (i:=1) (by omega) ?_;rw[dB];exact Nat.min_le_left _ _
theorem Om (h:c.Ok){W:Zd}(d:Wd c W)(p:Int): ∀i,dv c W (advW c W p i)
 |0=>dv.refl W
 |i+1=>(Om h d p i).trans (at8 h (Oe h d p i) _)
theorem Ik {P P':Nat->Bool}{k:Nat}: ∀{n:Nat},k<n->P k=Zb->P' k=Za->(∀j,j<n->j≠k->P' j=P j)->(bD n).countP P'=(bD n).countP P+1
 |n+1,u,o,p,d=>by
  rw[List.range_succ,eD,eD];by_cases h:k=n
  .subst h
   have e:(bD k).countP P'=(bD k).countP P:=List.countP_congr λj q=>by
    have:=List.mem_range.1 q;rw[d j (by omega) (by omega)]
   rw[e];simp[o,p]
  .rw[Ik (n:=n) (by omega) o p λj q g=>d j (by omega) g];have:[n].countP P'=[n].countP P:=by simp[d n (by omega) (by omega)]
   omega
theorem aV1 (h:j<k):sp c j+(c.X.length+1)<=sp c k:=by
 have d:(j+1)*(c.X.length+1)<=k*(c.X.length+1):=Nat.mul_le_mul_right _ h;rw[Nat.succ_mul]at d;unfold sp;omega
theorem UL (d:sp c k+w.length<=W.length)(g:w.length=c.X.length+1)(e:j≠k):ge c (put W (sp c k) w) j=ge c W j:=by
 unfold ge rg;rw[cD,aD,aD,X8 d];rcases Nat.lt_or_ge j k with h|h
 .exact .inl (by have:=aV1 (c:=c) h;omega)
 .exact .inr (by have:=aV1 (c:=c) (show k<j by omega);omega)
theorem GJ (d:sp c k+w.length<=W.length)(e:w.length=c.X.length+1):ge c (put W (sp c k) w) k=w.getD 0 0:=by
 unfold ge rg;rw[cD,aD,aD,Gw d,zE ⟨dD _,by omega⟩,Nat.sub_self]
theorem Is {d:Dy}(hi:Inv c s)(v:Wd c d.W)(u:dv c s.W d.W)(h:d.L=s.L)(x:0<=d.p/\d.p<=s.L)(y: -1<=d.q/\d.q<=s.L)(e:d.lv=s.lv)(g:s.pk<=d.pk/\d.pk<=c.words):Inv c d:=
 ⟨v,by rw[h];exact hi.L,by rw[h];exact x,by rw[h];exact y,λk o=>by rw[u.tag,h];exact hi.tag k o,by rw[e,u.used];exact hi.lv,by rw[e];exact⟨Int.le_trans hi.pk.1 g.1,g.2⟩⟩
theorem Y0 (h:c.Ok)(D:c.mode≠3)(hi:Inv c s)(a n:Int):Inv c (HF c a n s).2:=by
 have nm:=h.num;have u:=hi.w;have hL:=hi.L;have C:=hi.p;have I:=hi.q;have E:=hi.pk;have hns:=h.ns;have nx:=nm.x;obtain⟨g1,g2,g3,g4⟩:=DY h hi;have S:=nm.tp;rw[zF D]at S;have N:=nm.sl;rw[zF D]at N;have Z:(seg s.W (c.off 1) c.X.length).length=c.X.length:=cv (u.in' h (i:=1) (by omega));unfold HF;by_cases J:jd a n=Zb∨7<a
 .rw[zE J];exact hi
 rw[zF J];obtain⟨h2,hk⟩:=zt J;by_cases K:(2<=a/\a<=4)/\c.ns<=n
 .rw[zE K];exact hi
 rw[zF K]
 have z:(2<=a/\a<=4)->n.toNat<c.ns.toNat:=λhs=>by
  have hn:=uB h2 ⟨by omega,hs.2⟩;have: ¬c.ns<=n:=λh7=>K ⟨hs,h7⟩
  omega
 rcases hk with rfl|rfl|rfl|rfl|rfl|rfl|rfl
 .have hn:=uB h2 (by omega);simp only[aB,reduceIte];by_cases e:s.L-s.p<n
  .rw[zE e];exact hi
  .rw[zF e];exact Is hi (Oe h u _ _) (Om h u _ _) rfl ⟨by show 0<=s.p+n;omega,by show s.p+n<=s.L;omega⟩ I rfl ⟨Int.le_refl _,E.2⟩
 .have d:=z (by omega);simp only[aB,reduceIte];by_cases e:0<=ge c s.W n.toNat-1
  .rw[zE e];exact hi
  rw[zF e];generalize n.toNat=k at*;obtain⟨s1,s2,s3⟩:=tn h D d;obtain⟨t1,t2⟩:=u.tk h;have F:=hi.tag k d;have H:(zH zJ (zH zI (s.p+1))::seg s.W (c.off 1) c.X.length).length=c.X.length+1:=by simp[Z]
  have g:=GJ (c:=c) (W:=s.W) (k:=k) (w:=zH zJ (zH zI (s.p+1))::seg s.W (c.off 1) c.X.length) (by omega) H
  have V:(zH zJ (zH zI (s.p+1))::seg s.W (c.off 1) c.X.length).getD 0 0=s.p+1:=by
   show zH zJ (zH zI (s.p+1))=_;rw[Zi,Zj]
  rw[V]at g;have o: ∀j,j≠k->ge c (put s.W (sp c k) (zH zJ (zH zI (s.p+1))::seg s.W (c.off 1) c.X.length)) j=ge c s.W j:=λj v=>UL (by omega) H v
  have M:=RY h hi (RP d (by omega))
  have U:jw c (put s.W (sp c k) (zH zJ (zH zI (s.p+1))::seg s.W (c.off 1) c.X.length))=jw c s.W+1:=by
   unfold jw;exact Ik d (zA (by omega)) (zB (by rw[g];omega)) λj _ v=>by rw[o j v]
  refine⟨u.put h (by omega),hL,C,I,λj v=> ?_, ?_, ?_⟩
  .by_cases y:j=k
   .subst y;rw[g];show 0<=s.p+1/\s.p+1<=s.L+1;omega
   .rw[o j y];exact hi.tag j v
  .show s.lv+c.sl=c.fixed+c.sl*((jw c (put s.W (sp c k) _):Nat):Int);rw[U,hi.lv];rw[show(((jw c s.W+1:Nat)):Int)=(jw c s.W:Int)+1 by omega,Int.mul_add,Int.mul_one,Int.add_assoc]
  .show s.lv+c.sl<=max s.pk (s.lv+c.sl)/\max s.pk (s.lv+c.sl)<=c.words;omega
 .have d:=z (by omega);simp only[aB,reduceIte];by_cases e:ge c s.W n.toNat-1<0
  .rw[zE e];exact hi
  rw[zF e];obtain⟨s1,s2,s3⟩:=tn h D d;obtain⟨t1,t2⟩:=u.tk h;have F:=hi.tag _ d;have l2:(seg s.W (sp c n.toNat+1) c.X.length).length=c.X.length:=cv (by omega);have h1o:=kc (c:=c) (i:=1) (j:=9) (by omega);have z1:c.sz 1=c.X.length:=rfl;exact Is hi (u.put h (by rw[l2];omega)) (dv.put h (dv.refl s.W) u (i:=1) (by omega) (by rw[l2];exact dD _)) rfl ⟨by show 0<=ge c s.W n.toNat-1;omega,by show ge c s.W n.toNat-1<=s.L;omega⟩ I rfl ⟨Int.le_refl _,E.2⟩
 .have d:=z (by omega);simp only[aB,reduceIte];by_cases e:ge c s.W n.toNat-1<0
  .rw[zE e];exact hi
  rw[zF e];generalize n.toNat=k at*;obtain⟨s1,s2,s3⟩:=tn h D d;obtain⟨t1,t2⟩:=u.tk h;have F:=hi.tag k d;have H:(bp (c.X.length+1)).length=c.X.length+1:=bz _;have g:=GJ (c:=c) (W:=s.W) (k:=k) (w:=bp (c.X.length+1)) (by omega) H;have V:(bp (c.X.length+1)).getD 0 0=0:=rfl;rw[V]at g;have o: ∀j,j≠k->ge c (put s.W (sp c k) (bp (c.X.length+1))) j=ge c s.W j:=λj v=>UL (by omega) H v
  have U:jw c s.W=jw c (put s.W (sp c k) (bp (c.X.length+1)))+1:=by
   unfold jw;exact Ik d (zA (by omega)) (zB (by omega)) λj _ v=>by rw[o j v]
  refine⟨u.put h (by omega),hL,C,I,λj v=> ?_, ?_, ?_⟩
  .by_cases y:j=k
   .subst y;rw[g];show(0:Int)<=0/\0<=s.L+1;omega
   .rw[o j y];exact hi.tag j v
  .show s.lv-c.sl=c.fixed+c.sl*((jw c (put s.W (sp c k) (bp (c.X.length+1))):Nat):Int);rw[hi.lv,U];rw[show(((jw c (put s.W (sp c k) (bp (c.X.length+1)))+1:Nat)):Int)=(jw c (put s.W (sp c k) (bp (c.X.length+1))):Int)+1 by omega,Int.mul_add,Int.mul_one];omega
  .show s.lv-c.sl<=s.pk/\s.pk<=c.words;omega
 .simp only[aB,reduceIte];by_cases e:s.q≠ -1
  .rw[zE e];exact hi
  rw[zF e];by_cases A:s.p≠s.L
  .rw[zE A];exact hi
  rw[zF A];exact Is hi (Gl h u Z).2 (Lp h u Z) rfl C ⟨by show-1<=s.p;omega,C.2⟩ rfl ⟨cB _ _,by show max s.pk (s.lv+(c.fk.n:Int))<=c.words;omega⟩
 .simp only[aB,reduceIte];by_cases e:s.q≠ -1
  .rw[zE e];exact hi
  rw[zF e];by_cases A:s.p≠s.L-1
  .rw[zE A];exact hi
  rw[zF A];exact Is hi (Lo h u s.p).2 (Lo h u s.p).1 rfl C ⟨by show-1<=s.p;omega,C.2⟩ rfl ⟨cB _ _,by show max s.pk (s.lv+((c.fl.n:Int)+c.fk.n))<=c.words;omega⟩
 .simp only[aB,reduceIte];by_cases e:s.q<=0
  .rw[zE e];exact hi
  rw[zF e];by_cases A:s.p≠s.q-1
  .rw[zE A];exact hi
  rw[zF A];exact Is hi (On h u s.p).2 (On h u s.p).1 rfl C ⟨by show-1<=s.p;omega,C.2⟩ rfl ⟨cB _ _,by show max s.pk (s.lv+(c.fl.n:Int))<=c.words;omega⟩
theorem aH3 (g:DD B s)(a n:Int):DD (B+65536) (HF c a n s).2:=by
 have d:DD (B+65536) s:=by unfold DD at g⊢;omega
 unfold HF;by_cases e:jd a n=Zb∨7<a
 .rw[zE e];exact d
 rw[zF e];obtain⟨h,p⟩:=zt e;split
 .exact d
 split
 .rename_i o;have q:=uB h (by omega);split
  .exact d
  .unfold DD at g⊢;simp only;omega
 repeat' split
 all_goals first|exact d|(unfold DD at g⊢;simp only;omega)
end
end
section
open Nat renaming add_sub_cancel_left -> aB, le_add_right -> aD
theorem ae5 (h:j<t.length):(t++r)[0+j]?=O (rg t (j:Int)):=by
 rw[Nat.zero_add,List.getElem?_append_left h,db h]
theorem Me (h:j<r.length):(t++r)[t.length+j]?=O (rg r (j:Int)):=by
 rw[List.getElem?_append_right (aD _ _),aB,db h]
theorem ae6 {v:Int}:(t++r).set (t.length+j) v=t++r.set j v:=by
 rw[List.set_append_right _ _ (aD _ _),aB]
def stK (t:Zd)(p d:Nat)(l:Nat->Int)(s:BS):Int×Int×Int×(Zd)×(Zd)×Int×Int×Int×Int×Int×Int×Int×Int:=
 ((p:Int)-1,(d:Int),(s.2.2:Int),t++s.1,s.2.1,l 0,l 1,l 2,l 3,l 4,l 5,l 6,l 7)
theorem aZ5 {code:List AV}(C:code.length<=1000){R:Int}(hR:1<=R/\R<=64){e0 e1:Int}(hN:t.length<=1000000)(hw:w.length=t.length+R.toNat):Backs (dh R (e0,w) (e1,code)) code (stK t) (sq t) (VdB R.toNat t.length) (Xg R.toNat)where
 op:=by
  intro p d l s m o A h hg z g E;obtain⟨H,v⟩:=oU C h;obtain⟨v1,v2,v3,v4⟩:=E;obtain⟨q1,q2⟩:=P3 o s.1 s.2.1 (rg t ((s.2.2-1:Nat):Int));refine⟨?_,by unfold sq;exact⟨by simp[v1,q1],by simp[v2,q2],by show m<=s.2.2-1;omega,by show s.2.2-1<=_;omega⟩⟩;obtain⟨u,F,I,e1,L,M,N,S,U⟩:=B2 hg;unfold stK sq;simp only[dh];rw[show((p+1:Nat):Int)-1=(p:Int)by omega,Ze,zD,v];simp only[zG];rw[h];simp only[zG,ce];rw[Ze,zD,Ze,zD];simp only[G6,zG];rw[ad (n:=(s.2.2:Int)-1) (by omega),show(s.2.2:Int)-1=((s.2.2-1:Nat):Int)by omega,ad (n:=(w.length:Int)-R) (by omega),show((w.length:Int)-R).toNat=t.length by omega,show((w.length:Int)).toNat-t.length=R.toNat by omega,Nat.sub_zero];have K:s.2.2-1<t.length:=by omega
  generalize s.2.2-1=n at*;unfold LC;simp only[e1,L,M,Int.toNat_natCast];rw[bi (show u<s.2.1.length by omega)];simp only[zG];rw[db (show u<s.2.1.length by omega)];simp only[zG];rw[bi K];simp only[zG];rw[ae5 K];simp only[zG];rw[bi N];simp only[zG];rw[Me (show u<s.1.length by omega)];simp only[zG];rw[bi S];simp only[zG];rw[ae6];have D: ∀x:Int,(s.1.set u x).length=s.1.length:=by simp
  have ha1:(s.2.1.set u 0).length=s.2.1.length:=by simp
  rw[Me (show F<(s.1.set u (rg t (n:Int))).length by rw[D];omega)];simp only[zG];rw[bi U];simp only[zG];rw[Me (show I<(s.1.set u (rg t (n:Int))).length by rw[D];omega)];simp only[zG];rw[bi (show F<(s.2.1.set u 0).length by omega)];simp only[zG];rw[db (show F<(s.2.1.set u 0).length by omega)];simp only[zG];generalize hP:par o _ _=P;generalize Z:(s.2.1.set u 0).set F _=A2;have hA2:A2.length=s.2.1.length:=by rw[<-Z];simp
  rw[bi (show I<A2.length by omega)];simp only[zG];rw[db (show I<A2.length by omega)];simp only[zG];rw[ad (n:=(p:Int)-1) (by omega)]
 rep:=by
  intro p q d l s m o e A h z J g E;obtain⟨H,v⟩:=oU C h;obtain⟨h3,V⟩:=oU C J;unfold stK;simp only[dh];rw[show((p+1:Nat):Int)-1=(p:Int)by omega,Ze,zD,v];simp only[zG];rw[h];simp only[zG,ce];rw[zB z,zC,ad (n:=((q+1:Nat):Int)-1) (by omega),show((q+1:Nat):Int)-1=(q:Int)by omega,V];simp only[zG];rw[J];simp only[zG,ce];rw[bi g];simp only[zG];rw[ad (n:=(p:Int)-1) (by omega),ad (n:=(d:Int)+1) (by omega)];rfl
 nxt:=by
  intro p d l s m o A h hto z g hl hl2 E;obtain⟨H,v⟩:=oU C h;have y:=Br (upd l d (l d-1)) g;rw[sC]at y;unfold upd at y;unfold stK;simp only[dh];rw[show((p+1:Nat):Int)-1=(p:Int)by omega,Ze,zD,v];simp only[zG];rw[h];simp only[zG,ce];rw[Ze,zD,zB z,zC,ad (n:=((d+1:Nat):Int)-1) (by omega),show((d+1:Nat):Int)-1=(d:Int)by omega,bi g];simp only[zG];rw[Br l g,Zj,y,Zf,zC];rw[ad (n:=((A+1:Nat):Int)-2) (by omega),show((A+1:Nat):Int)-2=(A:Int)-1 by omega];rfl
 out:=by
  intro p d l s m o A h z g hl E;obtain⟨H,v⟩:=oU C h;have y:=Br (upd l d (l d-1)) g;rw[sC]at y;unfold upd at y;unfold stK;simp only[dh];rw[show((p+1:Nat):Int)-1=(p:Int)by omega,Ze,zD,v];simp only[zG];rw[h];simp only[zG,ce];rw[Ze,zD,zB z,zC,ad (n:=((d+1:Nat):Int)-1) (by omega),show((d+1:Nat):Int)-1=(d:Int)by omega,bi g];simp only[zG];rw[Br l g,Zj,y,Ze,zD,ad (n:=(p:Int)-1) (by omega)];rfl
section
variable {R:Int} {l:List bu} {f:Fo}
theorem X7 (h:Prg R l f){a:Zd}{e0 e1:Int}(E:r.length=R.toNat)(C:a.length=R.toNat)(F:f.n<=t.length)(o:t.length<=1000000)(H:w.length=t.length+R.toNat):
  ∃b0 b1 b2 b3 u v x y,am (dh R (e0,w) (e1,f.bare.code 0)) cj (IntKind.i64.wrap (((f.bare.code 0).length:Int)-1),0,(f.n:Int),t++r,a,0,0,0,0,0,0,0,0)=O (t++(mh f r a t).1,(mh f r a t).2.1,b0,b1,b2,b3,u,v,x,y):=by
 obtain⟨g,_,q,z⟩:=K9 (m:=0) (l:=λ_=>0) (s:=((r,a,f.n):BS)) (d:=0) (p:=0) (A:=[]) (B:=[]) (Pa (aZ5 (e0:=e0) (e1:=e1) (t:=t) h.clen h.R1 o H)) f.bare (by simp) rfl (Fo.bare_ok f h.ok) f.bare_pos h.hi h.good ⟨E,C,by rw[Fo.bare_n];exact Nat.le_refl _,F⟩;rw[Fo.bare_unroll]at q z;have D:=h.clen;rw[Fo.code_len]at D
 have:=ie q h.steps (c:=(t++(mh f r a t).1,(mh f r a t).2.1,g 0,g 1,g 2,g 3,g 4,g 5,g 6,g 7)) (by
  unfold stK;simp only[dh];rw[Zf,zC]
  rfl)
 have e:stK t (0+f.bare.len) 0 (λ_=>0) ((r,a,f.n):BS)=(IntKind.i64.wrap (((f.bare.code 0).length:Int)-1),0,(f.n:Int),t++r,a,0,0,0,0,0,0,0,0):=by
  unfold stK;rw[Fo.code_len,Zi,Nat.zero_add];rfl
 rw[e]at this;exact⟨_,_,_,_,_,_,_,_,this⟩
end
end
section
open Bool renaming not_true -> aB
open Int renaming toNat_of_nonneg -> aD, mul_le_mul_of_nonneg_left -> bB
open List renaming length_append -> bD, length_take -> cB
section
variable {c:Cx}
def oJ (c:Cx)(i:Nat):Nat:=c.off 8+i*c.sl.toNat
def iv (s:Dy):Int:=if s.q<0 then s.p else s.q
structure InvB (c:Cx)(s:Dy):Prop where
 w:Wd c s.W
 L:s.L=c.len
 p:0<=s.p/\s.p<=s.L
 q: -1<=s.q/\s.q<=s.L
 qp:0<=s.q->s.p=s.q
 lv:s.lv=c.fixed+c.sl*iv s
 pk:s.lv<=s.pk/\s.pk<=c.words
def Bu (c:Cx)(W:Zd)(i:Nat):Zd:=seg W (oJ c i) c.fl.n
def Ff (c:Cx)(W:Zd)(i:Nat):Zd:=seg W (oJ c i+c.fl.n) c.R.toNat
def JY (c:Cx)(W:Zd)(i:Nat):BS:=mh c.fl (Ff c W i) (fill c.R (seg W (c.off 5) c.X.length)) (Bu c W i)
def N8 (c:Cx)(a n:Int)(s:Dy):Int×Dy:=
 if a=8 then(if n≠0 then(2,s)else if 0<=s.q then(18,s)else if s.p=s.L then(17,s)else
  (0,{s with p:=s.p+1,c1:=s.c1+1,lv:=s.lv+c.sl,pk:=max s.pk (s.lv+c.sl),W:=put (put (put s.W (c.off 2) (stepR c s.W s.p).1) (oJ c s.p.toNat) ((stepR c s.W s.p).2.1++(stepR c s.W s.p).1)) (c.off 1) ((stepR c s.W s.p).1.take c.X.length)}))
 else if a=5 then(if n≠0 then(2,s)else if 0<=s.q then(18,s)else if s.p≠s.L then(17,s)else
  (0,{s with q:=s.L,c2:=s.c2+1,c3:=s.c3+1,z:=rg (lossR c s.W (seg s.W (c.off 1) c.X.length)).1 0,pk:=max s.pk (s.lv+c.fk.n),W:=Px c s.W (seg s.W (c.off 1) c.X.length)}))
 else if a=9 then(if n≠0 then(2,s)else if s.q<1 then(18,s)else
  (0,{s with p:=s.q-1,q:=s.q-1,c3:=s.c3+1,lv:=s.lv-c.sl,W:=put (E2 c s.W (JY c s.W (s.q-1).toNat).2.1) (c.off 1) ((JY c s.W (s.q-1).toNat).1.take c.X.length)}))
 else(2,s)
theorem AH (h:c.Ok)(p:c.mode=3)(hi:i<c.ns.toNat):c.sl.toNat=c.fl.n+c.R.toNat/\c.sl=(c.fl.n:Int)+c.R/\oJ c i+c.sl.toNat<=c.off 9/\c.off 8<=oJ c i:=by
 have n:=h.num;have g:=n.sl;rw[zE p]at g;have d:=h.ns;have u:=n.R
 have e:(c.sl*c.ns).toNat=c.ns.toNat*c.sl.toNat:=by
  have:c.sl*c.ns=((c.ns.toNat*c.sl.toNat:Nat):Int):=by
   rw[Int.natCast_mul,aD d.1,aD (by omega),Int.mul_comm]
  rw[this];rfl
 have q:c.off 9=c.off 8+c.ns.toNat*c.sl.toNat:=by rw[PZ,e]
 have o:(i+1)*c.sl.toNat<=c.ns.toNat*c.sl.toNat:=Nat.mul_le_mul_right _ hi;rw[Nat.succ_mul]at o;unfold oJ;omega
theorem WN (h:c.Ok)(g:c.mode=3)(hi:i<c.ns.toNat){a0 a1 a4 a5 a6 a7 a8 a9 a10 a11 a12 a13 a14 a15 a16 a17:Int}{l k:List bu}{b0 b1 b2 b3:Int}:mT (i:Int) a0 a1 c.sl a4 a5 a6 a7 a8 a9 a10 a11 a12 a13 a14 a15 a16 a17 X T l k c.P b0 b1 b2 b3 W=O (oJ c i:Int):=by
 obtain⟨o,p,d,q⟩:=AH h g hi;have u:=h.off9_le;have n:=h.num;have v:=n.words;have x:=n.R;unfold mT;rw[show ix 8 c.P.length=O 8 from bi (k:=8) (by rw[Cx.P_len];omega)];simp only[zG];rw[Cx.P_get (show 8<10 by omega)];simp only[zG];have e:(i:Int)*c.sl=((i*c.sl.toNat:Nat):Int):=by rw[Int.natCast_mul,aD (by omega)]
 unfold oJ at d;rw[e,ad (n:=((i*c.sl.toNat:Nat):Int)) (by omega),Zi];unfold oJ
 congr 1
theorem MC (h:c.Ok)(o:c.mode=3)(hi:InvB c s):0<=s.lv/\s.lv+c.tp<=c.words/\c.words<=1048576/\0<=c.tp/\(iv s<c.ns->s.lv+c.sl<=c.words)/\(0<iv s->c.sl<=s.lv)/\c.ns=s.L:=by
 have n:=h.num;have y:=hi.lv;have z:=h.fit;have A:=n.fixed;have C:=h.ns;have v:=n.sl;rw[zE o]at v;have M:=n.R;have K:=n.Q;have nw:=n.words;have H:=h.base o;have F:=hi.L;have I:=hi.p;have J:=hi.q;have g:0<=iv s/\iv s<=c.ns:=by unfold iv;split<;>omega
 have D:1<=c.sl:=by omega
 have e:c.sl*iv s<=c.sl*c.ns:=bB g.2 (by omega);have E:0<=c.sl*iv s:=Int.mul_nonneg (by omega) g.1;have d:0<=c.tp:=by rw[n.tp];split<;>omega
 refine⟨by omega,by omega,by omega,d,λx=> ?_,λu=> ?_,by omega⟩
 .have e:c.sl*(iv s+1)<=c.sl*c.ns:=bB (by omega) (by omega);rw[Int.mul_add,Int.mul_one]at e;omega
 .have e:c.sl*1<=c.sl*iv s:=bB (by omega) (by omega);omega
theorem Nl (h:c.Ok)(u:c.mode=3)(p:Wd c W)(hi:i<c.ns.toNat):
  seg W (oJ c i) c.sl.toNat=Bu c W i++Ff c W i/\(Bu c W i).length=c.fl.n/\(Ff c W i).length=c.R.toNat/\(fill c.R (seg W (c.off 5) c.X.length)).length=c.R.toNat/\(JY c W i).1.length=c.R.toNat/\(JY c W i).2.1.length=c.R.toNat:=by
 obtain⟨y,z,A,C⟩:=AH h u hi;obtain⟨I,J⟩:=p.tk h;have n:=h.num;have F:=n.R;have E:=n.xtR;have H:=n.n;have D:(seg W (c.off 5) c.X.length).length=c.X.length:=cv (p.in' h (i:=5) (by omega));have e:(Bu c W i).length=c.fl.n:=cv (by omega);have g:(Ff c W i).length=c.R.toNat:=cv (by omega);have o:(fill c.R (seg W (c.off 5) c.X.length)).length=c.R.toNat:=ia (by omega);obtain⟨_,v,x⟩:=tW h.pl g o (t:=Bu c W i) (Nat.le_of_eq e.symm) (by omega);refine⟨?_,e,g,o,v,x⟩;apply List.ext_getElem?;intro j;rw[yv];by_cases q:j<c.fl.n
 .rw[Zg,List.getElem?_append_left (by omega)];unfold Bu;rw[yv,zE q]
 .rw[List.getElem?_append_right (by omega),e];unfold Ff;rw[yv];by_cases d:j<c.sl.toNat
  .rw[zE d,Zg]
   congr 1
   omega
  .rw[zF d,Zh]
theorem plain1 (h:c.Ok)(H:c.mode=3)(hi:InvB c s)(hc:DD B s)(hB:B<=2305843009213693952){n:Int}:
  pq a n c.fixed c.tp c.sl c.ns c.mode c.R c.Q c.len c.words s.L s.p s.q s.c0 s.c1 s.c2 s.c3 s.z c.X c.T c.l c.k c.P c.tk s.lv s.pk c.words s.W=O (ba0 c (N8 c a n s)):=by
 have I:=h.num;have D:=hi.w;have hL:=hi.L;have hp:=hi.p;have hq:=hi.q;have K:=hi.pk;have hns:=h.ns;have nR:=I.R;have n1:=I.xtR;have nx:=I.x;have nt:=I.t;have nn:=I.n;have nlen:=I.len;obtain⟨k0,k1,k2,k3⟩:=hc.in' hB;obtain⟨g1,g2,g3,g4,g5,g6,g7⟩:=MC h H hi;have htp:=I.tp;rw[zE H]at htp;obtain⟨t1,t2⟩:=D.tk h;unfold pq N8;by_cases a8:a=8
 .subst a8;rw[zB (show(8:Int)=8 from rfl),zA (show¬(8:Int)=5 by decide)];simp only[zC,zG,aB,zD,reduceIte];by_cases e:n≠0
  .rw[zE e,zB e];rfl
  rw[zF e,zA e];simp only[zD,zG];by_cases d:0<=s.q
  .rw[zE d,zB d];rfl
  rw[zF d,zA d];simp only[zD,zG];by_cases u:s.p=s.L
  .rw[zE u,zB u];rfl
  rw[zF u,zA u];simp only[BEq.rfl,aB,zD,zG,bg];have y:iv s=s.p:=by unfold iv;rw[Zg]
  have A:s.p.toNat<c.ns.toNat:=by omega
  have N:s.p=((s.p.toNat:Nat):Int):=by omega
  obtain⟨s1,s2,M,s4⟩:=AH h H A;obtain⟨f1,f2,f3⟩:=mm h D s.p;have w1:=Ch h D s.p;have S:=g5 (by rw[y];omega);rw[tU (by omega) g1 S (by omega)];simp only[zG];rw[be4 h D];simp only[zG];have C:=WN h H A (a0:=c.fixed) (a1:=c.tp) (a4:=c.ns) (a5:=c.mode) (a6:=c.R) (a7:=c.Q) (a8:=c.len) (a9:=c.words) (a10:=s.L) (a11:=s.p) (a12:=s.q) (a13:=s.c0) (a14:=IntKind.i64.wrap (s.c1+1)) (a15:=s.c2) (a16:=s.c3) (a17:=s.z) (X:=c.X) (T:=c.T) (l:=c.l) (k:=c.k) (b0:=c.tk) (b1:=s.lv+c.sl) (b2:=max s.pk (s.lv+c.sl)) (b3:=c.words) (W:=put s.W (c.off 2) (stepR c s.W s.p).1);rw[<-N]at C;rw[C];simp only[zG];have J:((stepR c s.W s.p).2.1++(stepR c s.W s.p).1).length=c.sl.toNat:=by rw[bD];omega
  rw[ca (by omega) (by omega)];obtain⟨u1,u2⟩:=w1.tk h;unfold Cx.tk;rw[wN (by rw[J];exact M) u1 u2];simp only[zG];rw[Zk,bw,show((c.X.length:Int)).toNat-0=c.X.length by omega,List.drop_zero,show((c.off 9:Nat):Int)=c.tk from rfl,put1 (ii:=1) (i:=1) h (w1.put h (by rw[J];exact M)) rfl (by omega) (by rw[cB,show c.sz 1=c.X.length from rfl];omega)];simp only[zG];rw[ad (n:=s.p+1) (by omega),ad (n:=s.c1+1) (by omega)];rfl
 rw[zA a8,zF a8];simp only[zD,zG];by_cases a5:a=5
 .subst a5;rw[zB (show(5:Int)=5 from rfl)];simp only[zC,aB,zD,reduceIte];by_cases e:n≠0
  .rw[zE e,zB e];rfl
  rw[zF e,zA e];simp only[zD,zG];by_cases d:0<=s.q
  .rw[zE d,zB d];rfl
  rw[zF d,zA d];simp only[zD,zG];by_cases u:s.p≠s.L
  .rw[zE u,zA u];rfl
  rw[zF u,zB (show s.p=s.L by omega)];simp only[BEq.rfl,aB,zD,zG,bg];rw[bo9 h D g1 K.1 (by omega) g3];simp only[zG];rw[ad (n:=s.c2+1) (by omega),ad (n:=s.c3+1) (by omega)];rfl
 rw[zA a5,zF a5];simp only[zD,Bool.not_false,zC];by_cases a9:a=9
 .subst a9;rw[zA (show¬((9:Int)≠9)from λk=>k rfl)];simp only[reduceIte];by_cases e:n≠0
  .rw[zE e,zB e];rfl
  rw[zF e,zA e];simp only[zD,zG];by_cases E:s.q<1
  .rw[zE E,zB E];rfl
  rw[zF E,zA E];simp only[zD,zG,bg];have y:iv s=s.q:=by unfold iv;rw[Zh]
  have A:(s.q-1).toNat<c.ns.toNat:=by omega
  have N:s.q-1=(((s.q-1).toNat:Nat):Int):=by omega
  obtain⟨s1,s2,M,s4⟩:=AH h H A;obtain⟨b1,b2,b3,b4,b5,b6⟩:=Nl h H D A;rw[ad (n:=s.q-1) (by omega)];have C:=WN h H A (a0:=c.fixed) (a1:=c.tp) (a4:=c.ns) (a5:=c.mode) (a6:=c.R) (a7:=c.Q) (a8:=c.len) (a9:=c.words) (a10:=s.L) (a11:=s.q-1) (a12:=s.q-1) (a13:=s.c0) (a14:=s.c1) (a15:=s.c2) (a16:=s.c3) (a17:=s.z) (X:=c.X) (T:=c.T) (l:=c.l) (k:=c.k) (b0:=c.tk) (b1:=s.lv) (b2:=s.pk) (b3:=c.words) (W:=s.W);rw[<-N]at C;rw[C];simp only[zG]
  have Z:cy (oJ c (s.q-1).toNat:Int) c.sl c.tk s.W=O (0,Bu c s.W (s.q-1).toNat++Ff c s.W (s.q-1).toNat):=by
   have:=CQ (W:=s.W) (o:=oJ c (s.q-1).toNat) (n:=c.sl.toNat) M t1 t2;rw[aD (by omega),b1]at this;exact this
  rw[Z];simp only[zG];generalize (s.q-1).toNat=i at*;have F:(Bu c s.W i++Ff c s.W i).length=c.fl.n+c.R.toNat:=by rw[bD];omega
  have hwr:IntKind.i64.wrap (((Bu c s.W i++Ff c s.W i).length:Int)-c.R)=(c.fl.n:Int):=by rw[F,Zi];omega
  simp only[hwr];rw[Zk,bw,Zk,bw,Uc (ii:=5) (i:=5) h D rfl (by omega)];simp only[zG];have l5:(seg s.W (c.off 5) c.X.length).length=c.X.length:=cv (D.in' h (i:=5) (by omega));rw[show c.sz 5=c.X.length from rfl,Ow nR (by omega)];simp only[zG];rw[Jc h.pl,h.pl.writes];simp only[zG];rw[zA (show¬((0:Int)≠0)by simp),zD];rw[zA (show¬((((((Bu c s.W i++Ff c s.W i).length:Int)).toNat-((c.fl.n:Int)).toNat:Nat):Int)≠c.R)by omega),zD,zA (show¬(((fill c.R (seg s.W (c.off 5) c.X.length)).length:Int)≠c.R)by omega),zD,zA (show¬(((((c.fl.n:Int)).toNat-0:Nat):Int)<(c.fl.n:Int))by omega),zD];obtain⟨z0,z1,z2,z3,z4,z5,z6,z7,hz⟩:=X7 h.pl (e0:=0) (e1:=0) (t:=Bu c s.W i) (r:=Ff c s.W i) (a:=fill c.R (seg s.W (c.off 5) c.X.length)) (w:=Bu c s.W i++Ff c s.W i) b3 b4 (Nat.le_of_eq b2.symm) (by omega) (by rw[F,b2])
  rw[hz];simp only[zG];have eK:mh c.fl (Ff c s.W i) (fill c.R (seg s.W (c.off 5) c.X.length)) (Bu c s.W i)=JY c s.W i:=rfl;rw[eK];generalize JY c s.W i=v at*;obtain⟨v1,v2,v3⟩:=re h (a:=v.2.1) D (by omega) (by omega);rw[put1 (ii:=4) (i:=4) h D rfl (by omega) (by rw[show c.sz 4=max c.R.toNat c.Q.toNat from rfl];omega)];simp only[zG];rw[Zk,bw,show((c.X.length:Int)).toNat-0=c.X.length by omega,List.drop_zero,put1 (ii:=5) (i:=5) h v1 rfl (by omega) (by rw[cB,show c.sz 5=c.X.length from rfl];omega)];simp only[zG];rw[Uc (ii:=6) (i:=6) h v2 rfl (by omega)];simp only[zG];rw[show c.sz 6=c.T.length from rfl];have hg:(seg (put (put s.W (c.off 4) v.2.1) (c.off 5) (v.2.1.take c.X.length)) (c.off 6) c.T.length).length=c.T.length:=cv (v2.in' h (i:=6) (by omega));rw[K6 (f:=wq c.X v.2.1 _) (X:=c.X) (a:=v.2.1) (g:=seg (put (put s.W (c.off 4) v.2.1) (c.off 5) (v.2.1.take c.X.length)) (c.off 6) c.T.length) (by omega) (by omega) (by omega) (λs=>rfl)]
  simp only[zG];rw[put1 (ii:=6) (i:=6) h v2 rfl (by omega) (by rw[vp,hg];exact Nat.le_refl _)];simp only[zG];have V:(Bu c s.W i++v.1).length=c.fl.n+c.R.toNat:=by rw[bD];omega
  rw[ad (n:=(c.fl.n:Int)+(c.X.length:Int)) (by omega),Zk,bw,show((c.fl.n:Int)+(c.X.length:Int)).toNat-((c.fl.n:Int)).toNat=c.X.length by omega,Int.toNat_natCast];have U:(Bu c s.W i++v.1).drop c.fl.n=v.1:=List.drop_left' b2;rw[U];have eB:put (put (put s.W (c.off 4) v.2.1) (c.off 5) (v.2.1.take c.X.length)) (c.off 6) (Av c.X.length (seg (put (put s.W (c.off 4) v.2.1) (c.off 5) (v.2.1.take c.X.length)) (c.off 6) c.T.length) v.2.1)=E2 c s.W v.2.1:=rfl;rw[eB,put1 (ii:=1) (i:=1) h v3 rfl (by omega) (by rw[cB,show c.sz 1=c.X.length from rfl];omega)];simp only[zG];rw[zp (by omega) (g6 (by rw[y];omega)) K.1 (by omega)];simp only[zG];rw[ad (n:=s.c3+1) (by omega)];rfl
 rw[zF a9,zB a9];by_cases e:n≠0
 .rw[zB e];rfl
 .rw[zA e];rfl
theorem do1 (h:c.Ok)(d:c.mode=3)(hi:InvB c s)(g:DD B s)(e:B<=2305843009213693952){n:Int}:
  sZ a n c.fixed c.tp c.sl c.ns c.mode c.R c.Q c.len c.words s.L s.p s.q s.c0 s.c1 s.c2 s.c3 s.z c.X c.T c.l c.k c.P c.tk s.lv s.pk c.words s.W=O (ba0 c (N8 c a n s)):=by
 unfold sZ ic;simp only[zG];rw[zB d,zC,plain1 h d hi g e];rfl
end
end
section
open Int renaming le_refl -> aB, mul_comm -> bB
open List renaming getElem?_replicate -> cB
open Nat renaming le_refl -> aD, zero_add -> bD
theorem aj4 {x t:Nat}{R:Int}{l:List bu}{k:List bu}{n:Int}(p:OpsOk l)(o:OpsOk k)(h:(oX m x t R l Q k n b).2.2.2.2=0):
  A5 m x t R l Q k n b=0/\∃g,oX m x t R l Q k n b=(sX x t R Q,ri m l k,rh m x R l,g,0)/\(0<=g/\g<=1048576)/\sX x t R Q+ri m l k+rh m x R l*g<=b/\(m=3->g=n):=by
 unfold oX at h⊢;by_cases d:A5 m x t R l Q k n b≠0
 .rw[zE d]at h;exact(d h).elim
 rw[zF d]at h⊢;have d:A5 m x t R l Q k n b=0:=by omega
 have s:=MT p o d;have f:=Gq p o d;have z:=f.mode;have A:=f.len;have C:=f.bud;have D:=s.xs;have E:=s.ts;have F:=s.r;have H:=s.r';have I:=s.tp;have J:=s.sl;have y:0<=sX x t R Q/\sX x t R Q<=1000:=by unfold sX;omega
 split at h
 .cases h
 rename_i c;rw[zF c];refine⟨d,_,rfl, ?_, ?_,λq=>zE q⟩
 .split
  .omega
  .rename_i e;unfold least at c;rw[zF e]at c;have v:(b-sX x t R Q-ri m l k) / rh m x R l<=b-sX x t R Q-ri m l k:=Int.ediv_le_self _ (by omega);have u:0<=(b-sX x t R Q-ri m l k) / rh m x R l:=Int.ediv_nonneg (by omega) (by omega);omega
 .unfold least at c;split
  .rename_i e;rw[zE e,bB]at c;omega
  .rename_i e;rw[zF e]at c;have:=Int.mul_ediv_self_le (x:=b-sX x t R Q-ri m l k) (k:=rh m x R l) (by omega);omega
theorem bz8 {R:Int}{l:List bu}{k:List bu}{n:Int}(o:OpsOk l)(g:OpsOk k)(h:(oX m X.length T.length R l Q k n b).2.2.2.2=0):
  ∃c:Cx,c.Ok/\c.mode=m/\c.X=X/\c.T=T/\c.R=R/\c.l=l/\c.Q=Q/\c.k=k/\c.len=n/\c.words=b/\oX m X.length T.length R l Q k n b=(c.fixed,c.tp,c.sl,c.ns,0):=by
 obtain⟨p,ns,v,x,y,z⟩:=aj4 o g h;obtain⟨A,C⟩:=aj1 (Mx p).1;obtain⟨u,e⟩:=ay4 o A;obtain⟨q,d⟩:=ay4 g C;exact⟨⟨m,R,Q,n,b,X,T,l,k,u,q,sX X.length T.length R Q,ri m l k,rh m X.length R l,ns⟩,⟨o,g,p,e,d,rfl,rfl,rfl,x,y,z⟩,rfl,rfl,rfl,rfl,rfl,rfl,rfl,rfl,rfl,v⟩
section
variable {c:Cx}
theorem Cx.Ok.plan (h:c.Ok):oX c.mode c.X.length c.T.length c.R c.l c.Q c.k c.len c.words=(c.fixed,c.tp,c.sl,c.ns,0)->wv c.mode c.X c.T c.R c.l c.Q c.k c.len c.words=O (c.fixed,c.tp,c.sl,c.ns,0):=λe=>by
 rw[MJ h.hl h.hk,e]
theorem aM2 (h:c.Ok): ∀i,i<10->pre [((c.T.length:Nat):Int),((c.X.length:Nat):Int),c.R,c.Q,max c.R c.Q,((c.X.length:Nat):Int),((c.T.length:Nat):Int),c.tp,c.sl*c.ns] i=(c.off i:Int):=by
 have n:=h.num;have p:=n.R;have o:=n.Q;have q:=n.mul;have e:0<=c.tp:=by rw[n.tp];split<;>omega
 have d: ∀i,i<9->([((c.T.length:Nat):Int),((c.X.length:Nat):Int),c.R,c.Q,max c.R c.Q,((c.X.length:Nat):Int),((c.T.length:Nat):Int),c.tp,c.sl*c.ns]:Zd).getD i 0=(c.sz i:Int):=λi hi=>by
  rcases(show i=0∨i=1∨i=2∨i=3∨i=4∨i=5∨i=6∨i=7∨i=8 by omega)with rfl|rfl|rfl|rfl|rfl|rfl|rfl|rfl|rfl
  .rfl
  .rfl
  .show c.R=(c.R.toNat:Int);omega
  .show c.Q=(c.Q.toNat:Int);omega
  .show max c.R c.Q=((max c.R.toNat c.Q.toNat:Nat):Int);omega
  .rfl
  .rfl
  .show c.tp=(c.tp.toNat:Int);omega
  .show c.sl*c.ns=((c.sl*c.ns).toNat:Int);omega
 intro i;induction i with
 |zero=>intro _;rfl
 |succ i g=>
  intro hi;simp only[pre];rw[g (by omega),d i (by omega)];show(c.off i:Int)+(c.sz i:Int)=((c.off i+c.sz i:Nat):Int);omega
def Pl (c:Cx):Prop:=oX c.mode c.X.length c.T.length c.R c.l c.Q c.k c.len c.words=(c.fixed,c.tp,c.sl,c.ns,0)
theorem P1 (h:c.Ok)(e:Pl c):sE c.mode c.X c.T c.R c.l c.Q c.k c.len c.words=O (0,c.P):=by
 have s:=MT h.hl h.hk h.hc;have g:SFacts c.X.length c.T.length c.R c.Q c.tp c.sl:=by rw[h.tp,h.sl];exact s
 unfold sE;rw[h.plan e];simp only[zG];rw[zA (by simp),zD,Kr h.hl h.hk h.hc];simp only[zG];have d:=UG (n:=c.ns) g h.ns;rw[<-h.tp,<-h.sl,P2 d];simp only[zG]
 congr 2
 unfold Cx.P;apply List.map_congr_left;intro i hi;exact aM2 h i (List.mem_range.1 hi)
theorem RE {l:List bu}(h:l.length<=100):gg l=O l:=by
 unfold gg;rw[ca (by omega) (by omega)]
theorem Ax (h:l.length<=1048576):ar l=O l:=by
 unfold ar;rw[ca (by omega) (by omega)]
theorem LB (h:c.Ok)(e:Pl c):
  pS c.mode c.X c.T c.R c.l c.Q c.k c.len c.words=O (.inr (c.fixed,c.tp,c.sl,c.ns,c.mode,c.R,c.Q,c.len,c.words,c.len,c.X,c.T,c.l,c.k,c.P)):=by
 have n:=h.num;have g:=n.x;have d:=n.t;unfold pS;rw[h.plan e];simp only[zG];rw[zA (by simp),zD,RE h.hl.len,RE h.hk.len,Ax (by omega),Ax (by omega)];simp only[zG];rw[P1 h e];rfl
theorem aj5 {R:Int}{l:List bu}{k:List bu}{n:Int}(e:OpsOk l)(d:OpsOk k)(h:(oX m X.length T.length R l Q k n b).2.2.2.2≠0):pS m X T R l Q k n b=O (.inl (oX m X.length T.length R l Q k n b).2.2.2.2):=by
 unfold pS;rw[MJ e d];simp only[zG];rw[zB h,zC]
def Um (c:Cx)(W:Zd):Zd:=put (put W (c.off 0) c.T) (c.off 1) c.X
def new1 (c:Cx):Dy:=⟨c.len,0,-1,0,0,0,0,0,c.fixed,c.fixed,Um c (bp c.words.toNat)⟩
def new2 (c:Cx):Dy:=⟨c.len,0,-1,0,0,0,0,0,c.fixed,c.fixed,Um c (put (bp c.words.toNat) (c.off 8) (bp (c.sl*c.ns).toNat))⟩
theorem Fm :Wd c (bp c.words.toNat):=bz _
theorem vw (h:c.Ok):0<=c.fixed/\c.fixed<=c.words/\1<=c.fixed/\c.fixed=(c.off 7:Int):=by
 have n:=h.num;have p:=n.R;have o:=n.Q;have e:=n.fixed;have q:=n.mul;have g:=h.fit;have d:0<=c.tp:=by rw[n.tp];split<;>omega
 refine⟨by omega,by omega,by omega, ?_⟩;rw[bn0,e];omega
theorem Jl (h:c.Ok)(e:Wd c W):Wd c (put W (c.off 0) c.T)/\Wd c (Um c W)/\dv c W (Um c W):=by
 have u:=kc (c:=c) (i:=0) (j:=9) (by omega);have v:=kc (c:=c) (i:=1) (j:=9) (by omega);have p:c.sz 0=c.T.length:=rfl;have q:c.sz 1=c.X.length:=rfl;have d:=e.put h (w:=c.T) (o:=c.off 0) (by omega);have g:=d.put h (w:=c.X) (o:=c.off 1) (by omega);exact⟨d,g,dv.put h (dv.put h (dv.refl W) e (i:=0) (by omega) (Nat.le_of_eq p.symm)) d (i:=1) (by omega) (Nat.le_of_eq q.symm)⟩
theorem Ry (h:c.Ok):zZ c.words=O (bp c.words.toNat):=by
 have f:=vw h;have n:=h.num;have nw:=n.words;unfold zZ uY;rw[Ze,zD,Ze,zD];simp only[zG];rw[zA (by simp),zD,Ub (by omega)];rfl
theorem R0 (h:c.Ok):DF c.words=O (0,0,c.words):=by
 have n:=h.num;have nw:=n.words;unfold DF tB;rw[zA (show¬(0:Int)<0 by omega),zA (show¬c.words<0 by omega)];rfl
theorem Ju {o n:Nat}(h:o+n<=W.length)(d:W.length<=1048576):co (n:Int) (o:Int) W=O ((o:Int),0,((o+n:Nat):Int)):=by
 unfold co vW;rw[Ze,zD];simp only[zG];rw[ad (n:=(W.length:Int)-o) (by omega),Ze,zD,ad (n:=(o:Int)+n) (by omega)]
 congr 2
theorem bx7 (h:c.Ok)(v:c.mode=3)(e:Pl c):
  qY c.mode c.X c.T c.R c.l c.Q c.k c.len c.words=O (.inr (.inl (c.fixed,c.tp,c.sl,c.ns,c.mode,c.R,c.Q,c.len,c.words,c.len,c.X,c.T,c.l,c.k,c.P,c.tk,c.fixed,c.fixed,c.words,(new1 c).W))):=by
 have f:=vw h;have n:=h.num;have nw:=n.words;have z:=n.mul;have y:=h.off9_le;have u:c.off 9=c.off 8+(c.sl*c.ns).toNat:=PZ;have g:(bp c.words.toNat).length=c.words.toNat:=bz _;obtain⟨x,A,C⟩:=Jl h (Fm (c:=c));unfold qY;rw[LB h e];simp only[zG,bg];rw[Ry h,R0 h];simp only[zG];rw[tU (by omega) (by omega) (by omega) (by omega)];simp only[zG];rw[show ix 8 c.P.length=O 8 from bi (k:=8) (by rw[Cx.P_len];omega)];simp only[zG];rw[Cx.P_get (show 8<10 by omega)];simp only[zG];rw[show co (c.off 8:Int) 0 (bp c.words.toNat)=O (((0:Nat):Int),0,((0+c.off 8:Nat):Int))from Ju (o:=0) (n:=c.off 8) (by rw[bD,g];omega) (by omega)];unfold ic;simp only[zG];rw[zB v,zC,bB,ad (n:=c.sl*c.ns) (by omega),show c.sl*c.ns=((c.sl*c.ns).toNat:Int)by omega,Ju (by omega) (by omega)]
 simp only[zG,ej];have d:((0+c.off 8+(c.sl*c.ns).toNat:Nat):Int)=c.tk:=by unfold Cx.tk;omega
 rw[d,put1 (ii:=0) (i:=0) h Fm rfl (by omega) (aD _)];simp only[zG];rw[put1 (ii:=1) (i:=1) h x rfl (by omega) (aD _)];simp only[zG];have p:(0:Int)+c.fixed=c.fixed:=by omega
 have q:max (0:Int) c.fixed=c.fixed:=by omega
 rw[p,q];rfl
theorem bh7 (h:c.Ok)(u:c.mode≠3)(e:Pl c):
  qY c.mode c.X c.T c.R c.l c.Q c.k c.len c.words=O (.inr (.inr (c.fixed,c.tp,c.sl,c.ns,c.mode,c.R,c.Q,c.len,c.words,c.len,c.X,c.T,c.l,c.k,c.P,c.tk,(c.off 8:Int),c.ns,(c.X.length:Int),c.fixed,c.fixed,c.words,(new2 c).W))):=by
 have f:=vw h;have n:=h.num;have nw:=n.words;have E:=n.mul;have F:=n.x;have A:=h.ns;have D:=h.off9_le;have z:c.off 9=c.off 8+(c.sl*c.ns).toNat:=PZ;have q:(bp c.words.toNat).length=c.words.toNat:=bz _;have d:=n.sl;rw[zF u]at d;have w0:Wd c (put (bp c.words.toNat) (c.off 8) (bp (c.sl*c.ns).toNat)):=(Fm (c:=c)).put h (by rw[bz];omega);obtain⟨C,H,I⟩:=Jl h w0;unfold qY;rw[LB h e];simp only[zG,bg];rw[Ry h,R0 h];simp only[zG];rw[tU (by omega) (by omega) (by omega) (by omega)];simp only[zG];rw[show ix 8 c.P.length=O 8 from bi (k:=8) (by rw[Cx.P_len];omega)];simp only[zG];rw[Cx.P_get (show 8<10 by omega)];simp only[zG];rw[show co (c.off 8:Int) 0 (bp c.words.toNat)=O (((0:Nat):Int),0,((0+c.off 8:Nat):Int))from Ju (o:=0) (n:=c.off 8) (by rw[bD,q];omega) (by omega)];unfold ic
 simp only[zG];rw[zA u,zD];unfold HJ pI eu;rw[zB (show 0<=c.ns by omega),zB (show c.ns<=1048576 by omega),zB (show 1<=(c.X.length:Int)by omega),zB (show(c.X.length:Int)<=64 by omega)];simp only[zC,zD,Bool.not_true,zG];rw[ad (n:=(c.X.length:Int)+1) (by omega),<-d,bB c.ns,ad (n:=c.sl*c.ns) (by omega)];have g:c.sl*c.ns=(((c.sl*c.ns).toNat:Nat):Int):=by omega
 rw[show co (c.sl*c.ns) ((0+c.off 8:Nat):Int) (bp c.words.toNat)=O (((0+c.off 8:Nat):Int),0,((0+c.off 8+(c.sl*c.ns).toNat:Nat):Int))from by
  conv=>lhs;rw[g]
  exact Ju (by omega) (by omega)]
 simp only[zG];rw[zA (by simp),zD,Ub (by omega),show List.replicate (c.sl*c.ns).toNat (0:Int)=bp (c.sl*c.ns).toNat from rfl,wN (by rw[bz];exact aD _) (by omega) (by omega),bD];simp only[zG,bg];have p:((c.off 8+(c.sl*c.ns).toNat:Nat):Int)=c.tk:=by unfold Cx.tk;omega
 rw[p,ML (ii:=0) (i:=0) h w0 rfl (by omega) (aD _)];simp only[zG];rw[ML (ii:=1) (i:=1) h C rfl (by omega) (aD _)];simp only[zG];have v:(0:Int)+c.fixed=c.fixed:=by omega
 have y:max (0:Int) c.fixed=c.fixed:=by omega
 rw[v,y];rfl
theorem av7 (h:c.Ok)(e:c.mode=3):InvB c (new1 c):=by
 have f:=vw h;have n:=h.num;have g:=n.len;refine⟨(Jl h Fm).2.1,rfl,⟨aB _,by show 0<=c.len;omega⟩,⟨by show(-1:Int)<= -1;omega,by show(-1:Int)<=c.len;omega⟩,λd=> ?_, ?_,⟨aB _,f.2.1⟩⟩
 .have d:(0:Int)<= -1:=d;omega
 .show c.fixed=c.fixed+c.sl*0;omega
theorem PW (h:c.Ok)(g:c.mode≠3)(e:k<c.ns.toNat):ge c (new2 c).W k=0:=by
 have p:=h.off9_le;have nw:=h.num.words;have d:c.off 9=c.off 8+(c.sl*c.ns).toNat:=PZ;have w0:Wd c (put (bp c.words.toNat) (c.off 8) (bp (c.sl*c.ns).toNat)):=(Fm (c:=c)).put h (by rw[bz];omega);obtain⟨u,v,o⟩:=Jl h w0;show ge c (Um c _) k=0;rw[o.tag];obtain⟨q,_,_⟩:=tn h g e;unfold ge rg;rw[Int.toNat_natCast,List.getD_eq_getElem?_getD,Gw (by rw[bz,bz];omega)];unfold bp;split
 .rw[cB];split<;>rfl
 .rw[cB];split<;>rfl
theorem av8 (h:c.Ok)(e:c.mode≠3):Inv c (new2 c):=by
 have f:=vw h;have n:=h.num;have q:=n.len;have nw:=n.words;have p:=h.off9_le;have g:c.off 9=c.off 8+(c.sl*c.ns).toNat:=PZ;have w0:Wd c (put (bp c.words.toNat) (c.off 8) (bp (c.sl*c.ns).toNat)):=(Fm (c:=c)).put h (by rw[bz];omega)
 have o:jw c (new2 c).W=0:=by
  unfold jw;rw[List.countP_eq_zero];intro k d;rw[PW h e (List.mem_range.1 d)];decide
 refine⟨(Jl h w0).2.1,⟨by show 0<=c.len;omega,by show c.len<=65535;omega⟩,⟨aB _,by show 0<=c.len;omega⟩,⟨by show(-1:Int)<= -1;omega,by show(-1:Int)<=c.len;omega⟩,λk d=> ?_, ?_,⟨aB _,f.2.1⟩⟩
 .rw[PW h e d];exact⟨aB _,by show(0:Int)<=c.len+1;omega⟩
 .rw[o];show c.fixed=c.fixed+c.sl*0;omega
end
end
section
open Go.IntKind renaming wrap -> zH, i64 -> zI, u64 -> zJ
open Bool renaming not_true -> aB
open Int renaming mul_comm -> aD, mul_le_mul_of_nonneg_left -> bB
theorem dne {x:Int}{i:Decidable (x≠x)}: @Zc (x≠x) i=Zb:=zA λk=>k rfl
section
variable {c:Cx}
def Qq (c:Cx)(s:Dy):Int×Int×Int×Int×Int×Int×Int×Int×Int×Int×Int×Int×Int×Int×Int×Int:=
 (zH zJ c.mode,zH zJ s.L,zH zJ s.p,zH zJ (zH zI (s.q+1)),zH zJ c.ns,zH zJ s.c0,zH zJ s.c1,zH zJ s.c2,zH zJ s.c3,zH zJ s.lv,zH zJ s.pk,s.z,0,0,0,0)
theorem an8 (s:Dy):nO c.fixed c.tp c.sl c.ns c.mode c.R c.Q c.len c.words s.L s.p s.q s.c0 s.c1 s.c2 s.c3 s.z c.X c.T c.l c.k c.P c.tk s.lv s.pk c.words s.W=O (Qq c s):=by
 unfold nO qo qr oo oq;simp only[zG];have d:am (uE c.ns c.mode s.L s.p s.q s.c0 s.c1 s.c2 s.c3 s.lv s.pk) cj ((0,0,0,0,0,0,0,0,0,0,0,0,0,0,0,0,0))=O (zH zJ c.mode,zH zJ s.L,zH zJ s.p,zH zJ (zH zI (s.q+1)),zH zJ c.ns,zH zJ s.c0,zH zJ s.c1,zH zJ s.c2,zH zJ s.c3,zH zJ s.lv,zH zJ s.pk,0,0,0,0,0):=by kernel_rfl
 rw[d];rfl
theorem Vh (s:Dy){sb sn sx:Int}:ji c.fixed c.tp c.sl c.ns c.mode c.R c.Q c.len c.words s.L s.p s.q s.c0 s.c1 s.c2 s.c3 s.z c.X c.T c.l c.k c.P c.tk sb sn sx s.lv s.pk c.words s.W=O (Qq c s):=by
 unfold ji mn mq oo oq;simp only[zG];have d:am (ta c.ns c.mode s.L s.p s.q s.c0 s.c1 s.c2 s.c3 s.lv s.pk) cj ((0,0,0,0,0,0,0,0,0,0,0,0,0,0,0,0,0))=O (zH zJ c.mode,zH zJ s.L,zH zJ s.p,zH zJ (zH zI (s.q+1)),zH zJ c.ns,zH zJ s.c0,zH zJ s.c1,zH zJ s.c2,zH zJ s.c3,zH zJ s.lv,zH zJ s.pk,0,0,0,0,0):=by kernel_rfl
 rw[d];rfl
theorem an0 (o:l.length<1000000):am (kw l) cj (0,0)=O ((l.countP λt=>Zc (0<=t):Nat):Int):=by
 have h: ∀i,((l.take i).countP λt=>Zc (0<=t))<=l.length:=λi=>Nat.le_trans List.countP_le_length (by simp;omega)
 have d:am (kw l) cj (0,(((l.take 0).countP λt=>Zc (0<=t):Nat):Int))=O (((l.take l.length).countP λt=>Zc (0<=t):Nat):Int):=by
  refine cx (n:=l.length) (λi=>(((l.take i).countP λt=>Zc (0<=t):Nat):Int)) (by omega) (λi hi=> ?_) ?_
  .have g:=h i;unfold kw;simp only;rw[zB (show(i:Int)<(l.length:Int)by omega),zC,bi hi];simp only[zG];rw[List.getElem?_eq_getElem hi];simp only[zG];rw[ad (n:=(i:Int)+1) (by omega),List.take_succ_eq_append_getElem hi,List.countP_append,ag];by_cases e:0<=l[i]
   .rw[zE e,Zi];simp[e]
   .rw[zF e];simp[e]
  .unfold kw;simp only;rw[Ze,zD]
 rw[List.take_length]at d;exact d
theorem an1 (W:Zd):((mN c W).countP λt=>Zc (0<=t))=jw c W:=by
 unfold mN jw;rw[List.countP_map];apply List.countP_congr;intro k _;simp only[Function.comp,decide_eq_true_eq];omega
theorem UK (h:c.Ok)(e:c.mode≠3)(q:Wd c W)(v: ∀k,k<c.ns.toNat->0<=ge c W k/\ge c W k<=65536):vO (c.off 8:Int) c.ns (c.X.length:Int) c.tk W=O (.inr ((c.off 8:Int),c.ns,(c.X.length:Int))):=by
 have n:=h.num;have F:=n.x;have A:=h.ns;have z:=n.mul;have nw:=n.words;have d:=n.sl;rw[zF e]at d;have E:=h.off9_le;have u:c.off 9=c.off 8+(c.sl*c.ns).toNat:=PZ;obtain⟨C,D⟩:=q.tk h;unfold vO pI eu;rw[zB (show 0<=c.ns by omega),zB (show c.ns<=1048576 by omega),zB (show 1<=(c.X.length:Int)by omega),zB (show(c.X.length:Int)<=64 by omega)];simp only[zC,zD,aB,zG];rw[ad (n:=(c.X.length:Int)+1) (by omega),<-d,aD c.ns,ad (n:=c.sl*c.ns) (by omega)]
 have g:cy (c.off 8:Int) (c.sl*c.ns) c.tk W=O (0,seg W (c.off 8) (c.sl*c.ns).toNat):=by
  have:=CQ (W:=W) (o:=c.off 8) (n:=(c.sl*c.ns).toNat) (tk:=c.off 9) (by omega) C D;rw[Int.toNat_of_nonneg z]at this;exact this
 rw[g];simp only[zG];rw[zA (by simp),zD]
 have p:am (rT (c.off 8:Int) c.ns (c.X.length:Int) c.tk W) cj 0=O (.inr ()):=by
  refine oi (n:=c.ns.toNat) (by omega) (λi hi=> ?_) ?_
  .have y:=v i hi;unfold rT;rw[Zf,zC,C8 h e hi];simp only[zG];rw[LU h e q hi];simp only[zG];rw[Ze,zD,Zi];rfl
  .unfold rT;rw[Ze,zD]
 rw[p];rfl
def Y1 (c:Cx)(s:Dy):Int×Int×Int×Int×Int×Int×Int×Int×Int×Int×Int×Int×Int×Int×Int×Int×Int×(Zd)×(Zd)×(List (Int×Int×Int×Int×Int))×(List (Int×Int×Int×Int×Int))×(Zd)×Int×Int×Int×Int×Zd:=
 (c.fixed,c.tp,c.sl,c.ns,c.mode,c.R,c.Q,c.len,c.words,s.L,s.p,s.q,s.c0,s.c1,s.c2,s.c3,s.z,c.X,c.T,c.l,c.k,c.P,c.tk,s.lv,s.pk,c.words,s.W)
def RK (c:Cx)(s:Dy):Int×Int×Int×Int×Int×Int×Int×Int×Int×Int×Int×Int×Int×Int×Int×Int×Int×(Zd)×(Zd)×(List (Int×Int×Int×Int×Int))×(List (Int×Int×Int×Int×Int))×(Zd)×Int×Int×Int×Int×Int×Int×Int×Zd:=
 (c.fixed,c.tp,c.sl,c.ns,c.mode,c.R,c.Q,c.len,c.words,s.L,s.p,s.q,s.c0,s.c1,s.c2,s.c3,s.z,c.X,c.T,c.l,c.k,c.P,c.tk,(c.off 8:Int),c.ns,(c.X.length:Int),s.lv,s.pk,c.words,s.W)
theorem wIU {n:Int}(h:0<=n/\n<=9223372036854775807):zH zI (zH zJ n)=n:=by
 rw[Zj,Zi]
theorem O6 (h:c.Ok)(d:Wd c W):Bw W=O (.inr W):=by
 have f:=vw h;have nw:=h.num.words;unfold Wd at d;unfold Bw uY;rw[Ze,zD,Ze,zD];simp only[zG];rw[zA (by simp),zD,Ax (by omega)];rfl
theorem VY {lv pk:Int}(h:0<=lv)(d:lv<=pk)(e:pk<=b):tB b lv pk=O (.inr (lv,pk,b)):=by
 unfold tB;rw[Ze,zD,Ze,zD,Ze,zD]
def KN (c:Cx)(s:Dy):Prop:=c.mode≠2->s.L=c.len
theorem aY9 (h:c.Ok)(v:c.mode≠3)(e:Pl c)(hi:Inv c s)(S:KN c s)(V:DD B s)(N:B<=2305843009213693952):
  lj c.mode c.X c.T c.R c.l c.Q c.k c.len c.words s.W (zH zJ c.mode) (zH zJ s.L) (zH zJ s.p) (zH zJ (zH zI (s.q+1))) (zH zJ c.ns) (zH zJ s.c0) (zH zJ s.c1) (zH zJ s.c2) (zH zJ s.c3) (zH zJ s.lv) (zH zJ s.pk) s.z 0 0 0 0=O (.inr (.inr (RK c s))):=by
 have n:=h.num;have f:=vw h;have nw:=n.words;have nns:=h.ns;have nm:=n.mul;have I:=n.len;have F:=n.mode;have x:=hi.w;have hp:=hi.p;have hq:=hi.q;have D:=hi.L;have y:=hi.pk;obtain⟨k0,k1,k2,k3⟩:=V.in' N;obtain⟨J,g2,g3,g4⟩:=DY h hi;have h9:=h.off9_le;have M:c.off 9=c.off 8+(c.sl*c.ns).toNat:=PZ;obtain⟨t1,t2⟩:=x.tk h;have U:s.W.length=c.words.toNat:=x;unfold lj;rw[LB h e];simp only[zG,bg];rw[cn (n:=((s.W.length:Nat):Int)) (by omega),cn (n:=c.words) (by omega),zA (show¬(((s.W.length:Nat):Int)≠c.words)by omega),zD,dne,zD,dne,zD]
 have u:me (zH zJ s.L) c.fixed c.tp c.sl c.ns c.mode c.R c.Q c.len c.words c.len 0 (-1) 0 0 0 0 0 c.X c.T c.l c.k c.P=O Za:=by
  unfold me;rw[ag];by_cases C:c.mode=2
  .rw[zE C,Zj,Zf]
  .rw[zF C,S C,zB rfl]
 rw[u];simp only[zG,aB,zD];have E:zH zI (s.q+1)=s.q+1:=ad (by omega);rw[E,cn (n:=s.L) (by omega),cn (n:=s.p) (by omega),cn (n:=s.q+1) (by omega),cn (n:=s.L+1) (by omega),cn (n:=s.lv) (by omega),cn (n:=s.pk) (by omega),zA (show¬s.L<s.p by omega),zD,zA (show¬s.L+1<s.q+1 by omega),zD,zA (show¬c.words<s.lv by omega),zD,zA (show¬c.words<s.pk by omega),zD,O6 h x];simp only[zG,bg];rw[show ix 8 c.P.length=O 8 from bi (k:=8) (by rw[Cx.P_len];omega)];simp only[zG];rw[Cx.P_get (show 8<10 by omega)];simp only[zG]
 have A:co (zH zI ((c.off 8:Int)+zH zI (c.ns*c.sl))) 0 s.W=O (0,0,c.tk):=by
  rw[aD,ad (n:=c.sl*c.ns) (by omega),Zi,show(c.off 8:Int)+c.sl*c.ns=((c.off 9:Nat):Int)by omega];have:=Ju (o:=0) (n:=c.off 9) (W:=s.W) (by omega) (by omega);rw[Nat.zero_add]at this;exact this
 rw[A];simp only[zG];rw[ad (n:=s.L) (by omega),ad (n:=s.p) (by omega),ad (n:=s.q+1) (by omega),ad (n:=s.q+1-1) (by omega),show s.q+1-1=s.q by omega];unfold nh fm;simp only[zG];rw[zA v,zD,show ix 8 c.P.length=O 8 from bi (k:=8) (by rw[Cx.P_len];omega)];simp only[zG];rw[Cx.P_get (show 8<10 by omega)];simp only[zG];have d: ∀k,k<c.ns.toNat->0<=ge c s.W k/\ge c s.W k<=65536:=λk Z=>by have:=hi.tag k Z;omega
 rw[UK h v x d];simp only[zG,bg];unfold sI
 have g:(mN c s.W).length<1000000:=by
  rw[mz];rcases Nat.eq_zero_or_pos c.ns.toNat with h0|h0
  .omega
  .have:=(tn h v h0).2.2;omega
 rw[LV h v x d];simp only[zG];rw[Gs D hp hq g (Df hi.tag)];simp only[zG,bg,aB,zD];unfold sK pa;simp only[zG];rw[zA v,Bool.not_false,zC];unfold tI;rw[LV h v x d];simp only[zG];rw[an0 g,an1];simp only[zG];have hlv:=hi.lv;have hul:=ad0 c s.W;have H:1<=c.sl:=by have:=n.sl;rw[zF v]at this;omega
 have h8:c.sl*(jw c s.W:Int)<=c.sl*c.ns:=bB (by omega) (by omega);have K:0<=c.sl*(jw c s.W:Int):=Int.mul_nonneg (by omega) (by omega);rw[aD ((jw c s.W:Nat):Int),ad (n:=c.sl*(jw c s.W:Int)) (by omega),ad (n:=c.fixed+c.sl*(jw c s.W:Int)) (by omega),ad (n:=s.lv) (by omega),zA (show¬(s.lv≠c.fixed+c.sl*(jw c s.W:Int))by omega),zD];simp only[zG,bg];rw[ad (n:=s.pk) (by omega),VY J y.1 y.2];simp only[zG,bg];rw[wIU (by omega),wIU (by omega),wIU (by omega),wIU (by omega)];rfl
theorem aY8 (h:c.Ok)(v:c.mode=3)(e:Pl c)(hi:InvB c s)(S:DD B s)(M:B<=2305843009213693952):
  lj c.mode c.X c.T c.R c.l c.Q c.k c.len c.words s.W (zH zJ c.mode) (zH zJ s.L) (zH zJ s.p) (zH zJ (zH zI (s.q+1))) (zH zJ c.ns) (zH zJ s.c0) (zH zJ s.c1) (zH zJ s.c2) (zH zJ s.c3) (zH zJ s.lv) (zH zJ s.pk) s.z 0 0 0 0=O (.inr (.inl (Y1 c s))):=by
 have n:=h.num;have f:=vw h;have nw:=n.words;have Z:=h.ns;have nm:=n.mul;have H:=n.len;have D:=n.mode;have A:=hi.w;have hp:=hi.p;have hq:=hi.q;have y:=hi.L;have u:=hi.pk;have V:=hi.qp;obtain⟨k0,k1,k2,k3⟩:=S.in' M;obtain⟨I,g2,g3,g4,g5,g6,g7⟩:=MC h v hi;have h9:=h.off9_le;have K:c.off 9=c.off 8+(c.sl*c.ns).toNat:=PZ;obtain⟨t1,t2⟩:=A.tk h;have N:s.W.length=c.words.toNat:=A;unfold lj;rw[LB h e];simp only[zG,bg];rw[cn (n:=((s.W.length:Nat):Int)) (by omega),cn (n:=c.words) (by omega),zA (show¬(((s.W.length:Nat):Int)≠c.words)by omega),zD,dne,zD,dne,zD]
 have g:me (zH zJ s.L) c.fixed c.tp c.sl c.ns c.mode c.R c.Q c.len c.words c.len 0 (-1) 0 0 0 0 0 c.X c.T c.l c.k c.P=O Za:=by
  unfold me;rw[ag,Zh,y,zB rfl]
 rw[g];simp only[zG,aB,zD];have C:zH zI (s.q+1)=s.q+1:=ad (by omega);rw[C,cn (n:=s.L) (by omega),cn (n:=s.p) (by omega),cn (n:=s.q+1) (by omega),cn (n:=s.L+1) (by omega),cn (n:=s.lv) (by omega),cn (n:=s.pk) (by omega),zA (show¬s.L<s.p by omega),zD,zA (show¬s.L+1<s.q+1 by omega),zD,zA (show¬c.words<s.lv by omega),zD,zA (show¬c.words<s.pk by omega),zD,O6 h A];simp only[zG,bg];rw[show ix 8 c.P.length=O 8 from bi (k:=8) (by rw[Cx.P_len];omega)];simp only[zG];rw[Cx.P_get (show 8<10 by omega)];simp only[zG]
 have x:co (zH zI ((c.off 8:Int)+zH zI (c.ns*c.sl))) 0 s.W=O (0,0,c.tk):=by
  rw[aD,ad (n:=c.sl*c.ns) (by omega),Zi,show(c.off 8:Int)+c.sl*c.ns=((c.off 9:Nat):Int)by omega];have:=Ju (o:=0) (n:=c.off 9) (W:=s.W) (by omega) (by omega);rw[Nat.zero_add]at this;exact this
 rw[x];simp only[zG];rw[ad (n:=s.L) (by omega),ad (n:=s.p) (by omega),ad (n:=s.q+1) (by omega),ad (n:=s.q+1-1) (by omega),show s.q+1-1=s.q by omega];unfold nh fm;simp only[zG];rw[zB v,zC];simp only[zG,ej,aB,zD];unfold sJ fm;simp only[zG];rw[zB v,aB,zD]
 have d:cond (Zc (s.q<0)) (O s.p) (O s.q)=O (iv s):=by
  unfold iv;rw[ag];split<;>rfl
 rw[d];simp only[zG];have U:=hi.lv;have E:0<=iv s/\iv s<=c.ns:=by unfold iv;split<;>omega
 have F:1<=c.sl:=by have:=n.sl;rw[zE v]at this;have:=n.R;omega
 have h8:c.sl*iv s<=c.sl*c.ns:=bB E.2 (by omega);have J:0<=c.sl*iv s:=Int.mul_nonneg (by omega) E.1;rw[aD (iv s),ad (n:=c.sl*iv s) (by omega),ad (n:=c.fixed+c.sl*iv s) (by omega),ad (n:=s.lv) (by omega),zA (show¬(s.lv≠c.fixed+c.sl*iv s)by omega),zD];simp only[zG,bg,ej];rw[ad (n:=s.pk) (by omega),VY I u.1 u.2];simp only[zG,bg];rw[wIU (by omega),wIU (by omega),wIU (by omega),wIU (by omega)];rfl
end
end
section
open List renaming length_take -> aB
section
variable {c:Cx}
theorem ab4 (h:c.Ok)(A:c.mode=3)(hi:InvB c s)(a n:Int):InvB c (N8 c a n s).2:=by
 have C:=h.num;have z:=hi.w;have D:=hi.L;have M:=hi.p;have S:=hi.q;have N:=hi.pk;have U:=hi.qp;have K:=h.ns;have nR:=C.R;have n1:=C.xtR;have nx:=C.x;obtain⟨g1,g2,g3,g4,I,g6,g7⟩:=MC h A hi;have F:=C.tp;rw[zE A]at F;have V:(seg s.W (c.off 1) c.X.length).length=c.X.length:=cv (z.in' h (i:=1) (by omega));have z1:c.sz 1=c.X.length:=rfl;have o1:=kc (c:=c) (i:=1) (j:=9) (by omega);unfold N8;by_cases a8:a=8
 .rw[zE a8];by_cases v:n≠0
  .rw[zE v];exact hi
  rw[zF v];by_cases g:0<=s.q
  .rw[zE g];exact hi
  rw[zF g];by_cases e:s.p=s.L
  .rw[zE e];exact hi
  rw[zF e];have d:iv s=s.p:=by unfold iv;rw[Zg]
  have y:s.p.toNat<c.ns.toNat:=by omega
  obtain⟨s1,s2,Z,s4⟩:=AH h A y;obtain⟨f1,f2,f3⟩:=mm h z s.p;have w1:=Ch h z s.p;have E:((stepR c s.W s.p).2.1++(stepR c s.W s.p).1).length=c.sl.toNat:=by rw[List.length_append];omega
  have w2:=w1.put h (w:=(stepR c s.W s.p).2.1++(stepR c s.W s.p).1) (o:=oJ c s.p.toNat) (by rw[E];exact Z);have J:=I (by rw[d];omega);refine⟨w2.put h (by rw[aB];omega),D,⟨by show 0<=s.p+1;omega,by show s.p+1<=s.L;omega⟩,S,λu=> ?_, ?_, ?_⟩
  .have u:0<=s.q:=u;omega
  .show s.lv+c.sl=c.fixed+c.sl*(if s.q<0 then s.p+1 else s.q);rw[Zg,hi.lv,d,Int.mul_add,Int.mul_one];omega
  .show s.lv+c.sl<=max s.pk (s.lv+c.sl)/\max s.pk (s.lv+c.sl)<=c.words;omega
 rw[zF a8];by_cases a5:a=5
 .rw[zE a5];by_cases v:n≠0
  .rw[zE v];exact hi
  rw[zF v];by_cases g:0<=s.q
  .rw[zE g];exact hi
  rw[zF g];by_cases e:s.p≠s.L
  .rw[zE e];exact hi
  rw[zF e];refine⟨(Gl h z V).2,D,M,⟨by show-1<=s.L;omega,Int.le_refl _⟩,λ_=>by show s.p=s.L;omega, ?_, ?_⟩
  .show s.lv=c.fixed+c.sl*(if s.L<0 then s.p else s.L);rw[Zh,hi.lv];unfold iv;rw[Zg,show s.p=s.L by omega]
  .show s.lv<=max s.pk (s.lv+(c.fk.n:Int))/\max s.pk (s.lv+(c.fk.n:Int))<=c.words;omega
 rw[zF a5];by_cases H:a=9
 .rw[zE H];by_cases v:n≠0
  .rw[zE v];exact hi
  rw[zF v];by_cases u:s.q<1
  .rw[zE u];exact hi
  rw[zF u];have y:(s.q-1).toNat<c.ns.toNat:=by omega
  obtain⟨b1,b2,b3,b4,b5,b6⟩:=Nl h A z y;obtain⟨v1,v2,v3⟩:=re h (a:=(JY c s.W (s.q-1).toNat).2.1) z (by omega) (by omega);refine⟨v3.put h (by rw[aB];omega),D,⟨by show 0<=s.q-1;omega,by show s.q-1<=s.L;omega⟩,⟨by show-1<=s.q-1;omega,by show s.q-1<=s.L;omega⟩,λ_=>rfl, ?_, ?_⟩
  .show s.lv-c.sl=c.fixed+c.sl*(if s.q-1<0 then s.q-1 else s.q-1);have d:iv s=s.q:=by unfold iv;rw[Zh]
   rw[Zh,hi.lv,d,Int.mul_sub,Int.mul_one];omega
  .show s.lv-c.sl<=s.pk/\s.pk<=c.words;have:=C.sl;rw[zE A]at this;omega
 rw[zF H];exact hi
theorem aM0 (e:DD B s)(a n:Int):DD (B+65536) (N8 c a n s).2:=by
 have d:DD (B+65536) s:=by unfold DD at e⊢;omega
 unfold N8
 repeat' split
 all_goals first|exact d|(unfold DD at e⊢;simp only;omega)
def qh (c:Cx)(s:Dy):Int×Dy:=if c.mode≠2 then(19,s)else if 0<=s.q then(19,s)else if s.L=65535 then(14,s)else(0,{s with L:=s.L+1})
theorem R3 (e:DD B s):DD (B+65536) (qh c s).2:=by
 have d:DD (B+65536) s:=by unfold DD at e⊢;omega
 unfold qh
 repeat' split
 all_goals first|exact d|(unfold DD at e⊢;simp only;omega)
theorem XZ (d:c.mode=3)(hi:InvB c s):InvB c (qh c s).2:=by
 unfold qh;rw[Zg];exact hi
theorem X0 (hi:Inv c s):Inv c (qh c s).2:=by
 unfold qh;split
 .exact hi
 split
 .exact hi
 split
 .exact hi
 .have:=hi.L;have:=hi.p;have:=hi.q;exact⟨hi.w,⟨by show 0<=s.L+1;omega,by show s.L+1<=65535;omega⟩,⟨hi.p.1,by show s.p<=s.L+1;omega⟩,⟨hi.q.1,by show s.q<=s.L+1;omega⟩,λk d=>by have:=hi.tag k d;exact⟨this.1,by show ge c s.W k<=s.L+1+1;omega⟩,hi.lv,hi.pk⟩
theorem ai2 (e:KN c s):KN c (qh c s).2:=by
 intro d;unfold qh;rw[zE d];exact e d
theorem ar7 (a n:Int)(s:Dy):(HF c a n s).2.L=s.L:=by
 unfold HF;by_cases e:jd a n=Zb∨7<a
 .rw[zE e]
 rw[zF e];by_cases g:(2<=a/\a<=4)/\c.ns<=n
 .rw[zE g]
 rw[zF g]
 have d: ∀{P:Prop} [Decidable P] {x y:Int×Dy},x.2.L=s.L->y.2.L=s.L->(if P then x else y).2.L=s.L:=by
  intro P _ x y o p;by_cases h:P
  .rw[zE h];exact o
  .rw[zF h];exact p
 exact d (d rfl rfl) (d (d rfl rfl) (d (d rfl rfl) (d (d rfl rfl) (d (d rfl (d rfl rfl)) (d (d rfl (d rfl rfl)) (d rfl (d rfl rfl)))))))
theorem aH4 (d:KN c s)(a n:Int):KN c (HF c a n s).2:=λe=>(ar7 a n s).trans (d e)
def aF2 (c:Cx)(x:Int×Int)(s:Dy):Int×Dy:=if x.1=0 then qh c s else N8 c x.1 x.2 s
theorem bl1 (h:0<=s.L/\s.L<=65535):mp c.fixed c.tp c.sl c.ns c.mode c.R c.Q c.len c.words s.L s.p s.q s.c0 s.c1 s.c2 s.c3 s.z c.X c.T c.l c.k c.P c.tk (c.off 8:Int) c.ns (c.X.length:Int) s.lv s.pk c.words s.W=O ((qh c s).1,c.fixed,c.tp,c.sl,c.ns,c.mode,c.R,c.Q,c.len,c.words,(qh c s).2.L,s.p,s.q,s.c0,s.c1,s.c2,s.c3,s.z):=by
 unfold mp qh;rw[ag];by_cases d:c.mode≠2
 .rw[zE d,zE d]
 rw[zF d,zF d,ag];by_cases e:0<=s.q
 .rw[zE e,zE e]
 rw[zF e,zF e,ag];by_cases g:s.L=65535
 .rw[zE g,zE g]
 rw[zF g,zF g,Zi]
def ao2 (c:Cx)(x:Int×Int)(s:Dy):Int×Dy:=if x.1=0 then qh c s else HF c x.1 x.2 s
theorem PU (s:Dy):(qh c s).2={s with L:=(qh c s).2.L}:=by
 unfold qh
 repeat' split
 all_goals rfl
structure Well1 (c:Cx)(i:Nat)(s:Dy):Prop where
 inv:InvB c s
 cnt:DD (65536*i) s
structure Well2 (c:Cx)(i:Nat)(s:Dy):Prop where
 inv:Inv c s
 cnt:DD (65536*i) s
 len:KN c s
theorem Well1.act (h:c.Ok)(d:c.mode=3)(w:Well1 c i s)(x:Int×Int):Well1 c (i+1) (aF2 c x s).2:=by
 have e:(65536:Int)*((i+1:Nat):Int)=65536*i+65536:=by omega
 unfold aF2;split
 .exact⟨XZ d w.inv,by rw[e];exact R3 w.cnt⟩
 .exact⟨ab4 h d w.inv _ _,by rw[e];exact aM0 w.cnt _ _⟩
theorem Well2.act (h:c.Ok)(d:c.mode≠3)(w:Well2 c i s)(x:Int×Int):Well2 c (i+1) (ao2 c x s).2:=by
 have e:(65536:Int)*((i+1:Nat):Int)=65536*i+65536:=by omega
 unfold ao2;split
 .exact⟨X0 w.inv,by rw[e];exact R3 w.cnt,ai2 w.len⟩
 .exact⟨Y0 h d w.inv _ _,by rw[e];exact aH3 w.cnt _ _,aH4 w.len _ _⟩
def bd4 (f:(Int×Int)->Dy->Int×Dy)(l:List (Int×Int))(s:Dy):Nat->Dy
 |0=>s
 |i+1=>(f (l.getD i (0,0)) (bd4 f l s i)).2
theorem aa7 (s:Dy)(h:s.c0=0/\s.c1=0/\s.c2=0/\s.c3=0):DD (65536*(0:Nat)) s:=by
 unfold DD;omega
theorem Sz (h:c.Ok)(d:c.mode=3)(l:List (Int×Int)): ∀i,Well1 c i (bd4 (aF2 c) l (new1 c) i)
 |0=>⟨av7 h d,aa7 _ ⟨rfl,rfl,rfl,rfl⟩⟩
 |i+1=>(Sz h d l i).act h d _
theorem SA (h:c.Ok)(d:c.mode≠3)(l:List (Int×Int)): ∀i,Well2 c i (bd4 (ao2 c) l (new2 c) i)
 |0=>⟨av8 h d,aa7 _ ⟨rfl,rfl,rfl,rfl⟩,λ_=>rfl⟩
 |i+1=>(SA h d l i).act h d _
def Hy (c:Cx)(s:Dy):Int×Int×(Zd)×Zd:=if s.q≠0 then(0,19,[],[])else(s.z,0,seg s.W (c.off 5) c.X.length,seg s.W (c.off 6) c.T.length)
theorem aM7 (h:c.Ok)(e:Wd c s.W):oL c.fixed c.tp c.sl c.ns c.mode c.R c.Q c.len c.words s.L s.p s.q s.c0 s.c1 s.c2 s.c3 s.z c.X c.T c.l c.k c.P c.tk s.lv s.pk c.words s.W=O (Hy c s):=by
 unfold oL Hy;rw[ag];by_cases d:s.q≠0
 .rw[zE d,zE d]
 rw[zF d,zF d,Uc (ii:=5) (i:=5) h e rfl (by omega)];simp only[zG];rw[Uc (ii:=6) (i:=6) h e rfl (by omega)];rfl
theorem be2 (h:c.Ok)(d:Wd c s.W):pp c.fixed c.tp c.sl c.ns c.mode c.R c.Q c.len c.words s.L s.p s.q s.c0 s.c1 s.c2 s.c3 s.z c.X c.T c.l c.k c.P c.tk s.lv s.pk c.words s.W=O (seg s.W (c.off 1) c.X.length):=by
 unfold pp;rw[Uc (ii:=1) (i:=1) h d rfl (by omega)];rfl
theorem at6 (h:c.Ok)(d:Wd c s.W):po c.fixed c.tp c.sl c.ns c.mode c.R c.Q c.len c.words s.L s.p s.q s.c0 s.c1 s.c2 s.c3 s.z c.X c.T c.l c.k c.P c.tk s.lv s.pk c.words s.W=O s.W:=by
 unfold po nH;rw[Ax (d.tk h).2];rfl
theorem ab8 (h:c.Ok)(e:Wd c s.W):kf c.fixed c.tp c.sl c.ns c.mode c.R c.Q c.len c.words s.L s.p s.q s.c0 s.c1 s.c2 s.c3 s.z c.X c.T c.l c.k c.P c.tk (c.off 8:Int) c.ns (c.X.length:Int) s.lv s.pk c.words s.W=O (Hy c s):=by
 unfold kf Hy;rw[ag];by_cases d:s.q≠0
 .rw[zE d,zE d]
 rw[zF d,zF d,PF (ii:=5) (i:=5) h e rfl (by omega)];simp only[zG];rw[PF (ii:=6) (i:=6) h e rfl (by omega)];rfl
theorem aA7 (h:c.Ok)(d:Wd c s.W):lq c.fixed c.tp c.sl c.ns c.mode c.R c.Q c.len c.words s.L s.p s.q s.c0 s.c1 s.c2 s.c3 s.z c.X c.T c.l c.k c.P c.tk (c.off 8:Int) c.ns (c.X.length:Int) s.lv s.pk c.words s.W=O (seg s.W (c.off 1) c.X.length):=by
 unfold lq;rw[PF (ii:=1) (i:=1) h d rfl (by omega)];rfl
theorem Ue (h:c.Ok)(d:Wd c s.W):lm c.fixed c.tp c.sl c.ns c.mode c.R c.Q c.len c.words s.L s.p s.q s.c0 s.c1 s.c2 s.c3 s.z c.X c.T c.l c.k c.P c.tk (c.off 8:Int) c.ns (c.X.length:Int) s.lv s.pk c.words s.W=O s.W:=by
 unfold lm nH;rw[Ax (d.tk h).2];rfl
theorem Js {f:Int->Option (Int⊕(Bool⊕Unit))}(e:l.length<1000000000)(d: ∀s,f s=cond (Zc (s<((l.length:Nat):Int))) ((rd l s).bind λx=>(rd l s).bind λy=>cond (Zc (x≠y)) (O (.inr (.inl Zb))) (O (.inl (IntKind.i64.wrap (s+1))))) (O (.inr (.inr ())))):am f cj 0=O (.inr ()):=by
 refine oi (n:=l.length) (by omega) (λi hi=> ?_) ?_
 .rw[d];rw[Zf,zC,bh hi];simp only[zG];rw[dne,zD,Zi];rfl
 .rw[d];rw[Ze,zD]
theorem Yr (d:l.length<1000000000):ua l l=O Za:=by
 unfold ua;rw[dne,zD,Js (f:=GQ l l) (l:=l) d λs=>rfl];rfl
theorem MR {z:Int}{k:Zd}(e:l.length<1000000000)(d:k.length<1000000000):jt z l k z l k=O Za:=by
 unfold jt;rw[dne,dne,dne,zD,zD,zD,Js (f:=GS l l) (l:=l) e λs=>rfl];simp only[zG,bg];rw[Js (f:=GU k k) (l:=k) d λs=>rfl];rfl
theorem Ys {p q:Int}(d:l.length<1000000000):uo p q l p q l=O Za:=by
 unfold uo;rw[dne,dne,dne,zD,zD,zD,Js (f:=GV l l) (l:=l) d λs=>rfl];rfl
end
end
section
section
variable {c:Cx}
end
end
section
section
variable {a0:Int} {a1 a2:Zd} {a3:Int} {a4:List bu} {a5:Int} {a6:List bu} {a7 a8:Int}
theorem aN5 (v: ∀o∈a4,Uq o)(x: ∀o∈a6,Uq o):u9 a0 a1 a2 a3 a4 a5 a6 a7 a8=O Zb∨(u9 a0 a1 a2 a3 a4 a5 a6 a7 a8=O Za/\OpsOk a4/\OpsOk a6/\a1.length<=200/\a2.length<=200):=by
 unfold u9 Ec;by_cases d:(a4.length:Int)<=60
 .by_cases e:(a6.length:Int)<=60
  .by_cases g:(a1.length:Int)<=200
   .by_cases p:(a2.length:Int)<=200
    .have q:OpsOk a4:=⟨by omega,v⟩;have u:OpsOk a6:=⟨by omega,x⟩;rw[zB d,zB e,zB g,zB p];simp only[zC,zG,Bool.not_true,zD];rw[LG q u];simp only[zG,ag]
     have h: ∀b:Bool,(O b=O Zb)∨(O b=O Za/\OpsOk a4/\OpsOk a6/\a1.length<=200/\a2.length<=200):=λb=>by
      cases b
      .exact .inl rfl
      .exact .inr ⟨rfl,q,u,by omega,by omega⟩
     repeat' split
     all_goals exact h _
    .rw[zB d,zB e,zB g,zA p];exact .inl rfl
   .rw[zB d,zB e,zA g];exact .inl rfl
  .rw[zB d,zA e];exact .inl rfl
 .rw[zA d];exact .inl rfl
theorem aF0 (e:OpsOk a4)(d:OpsOk a6)(h:(oX a0 a1.length a2.length a3 a4 a5 a6 a7 a8).2.2.2.2≠0):qY a0 a1 a2 a3 a4 a5 a6 a7 a8=O (.inl (oX a0 a1.length a2.length a3 a4 a5 a6 a7 a8).2.2.2.2):=by
 unfold qY;rw[aj5 e d h];simp only[zG,ej];rw[zB h,zC]
end
end
end Go.V
