/- A part of the proof. No condition. -/
import Derived.Test.YtlmlogmcgeijcaaGreatDoorL3
set_option linter.unusedVariables false
set_option linter.unusedSimpArgs false
set_option linter.unusedSectionVars false
namespace Go.V
open Go.Ab
open Option renaming some->O,none->Y
open Bool renaming true->Za,false->Zb
open Decidable renaming decide->Zc
variable {W W' at' ax l r st t w x:Zd}{s:Dy}{i j k:Nat}{B a:Int}
set_option maxRecDepth 100000
section
open Int renaming reduceEq -> aD, toNat_of_nonneg -> bB
open Nat renaming reduceSub -> aB
def aC8 (a n p q L b:Int)(l:Zd):Int×Int×Int×Int×Int×Zd:=
 if jT a n=Zb∨7<a then(2,p,q,L,b,l)
 else if(2<=a/\a<=4)/\(l.length:Int)<=n then(2,p,q,L,b,l)
 else if a=1 then(if L-p<n then(17,p,q,L,b,l)else(0,p+n,q,L,b+n,l))
 else if a=2 then(if 0<=rg l n then(15,p,q,L,b,l)else(0,p,q,L,b,l.set n.toNat p))
 else if a=3 then(if rg l n<0 then(16,p,q,L,b,l)else(0,rg l n,q,L,b,l))
 else if a=4 then(if rg l n<0 then(16,p,q,L,b,l)else(0,p,q,L,b,l.set n.toNat (-1)))
 else if a=5 then(if q≠ -1 then(18,p,q,L,b,l)else if p≠L then(17,p,q,L,b,l)else(0,p,p,L,b,l))
 else if a=6 then(if q≠ -1 then(18,p,q,L,b,l)else if p≠L-1 then(17,p,q,L,b,l)else(0,p,p,L,b,l))
 else(if q<=0 then(18,p,q,L,b,l)else if p≠q-1 then(17,p,q,L,b,l)else(0,p,p,L,b,l))
theorem UC :Nat.beq 0 0=Za:=rfl
theorem UB (n:Nat):Nat.beq (n+1) 0=Zb:=rfl
theorem Cg {n:Int}(h: ¬(jT a n=Zb∨7<a)):jT a n=Za/\(a=1∨a=2∨a=3∨a=4∨a=5∨a=6∨a=7):=by
 have b:jT a n=Za:=by
  cases e:jT a n with
  |true=>rfl
  |false=>exact(h (.inl e)).elim
 refine⟨b, ?_⟩;have g: ¬a<1:=λd=>by unfold jT at b;rw[zE d]at b;cases b
 omega
theorem Ch {n:Int}(h:jT a n=Za)(d:1<=a/\a<=4):0<=n/\n<1048576/\(a=1->1<=n/\n<65536):=by
 unfold jT at h;rw[Zh,Zh]at h;by_cases b:a=1
 .rw[zE b]at h;have:=of_decide_eq_true h;omega
 .rw[zF b,Zg]at h;have:=of_decide_eq_true h;omega
theorem SR {n p q L o:Int}(M:0<=L/\L<=65535)(N:0<=p/\p<=L)(Q: -1<=q/\q<=L)(V:0<=o/\o<=1000000000000):i9 a n p q L o l=O (aC8 a n p q L o l):=by
 unfold i9 aC8;rw[Ot];simp only[zG];by_cases h1:jT a n=Zb∨7<a
 .rw[zE h1]
  have e:(cond (!jT a n) (O Za) (O (Zc (7<a))))=O Za:=by
   rcases h1 with h1|h1
   .rw[h1];rfl
   .rw[zB h1];cases jT a n<;>rfl
  rw[e];rfl
 rw[zF h1];obtain⟨A,K⟩:=Cg h1;have J: ¬7<a:=λh=>h1 (.inr h)
 rw[A,zA J];simp only[Bool.not_true,zD,zG];by_cases u:(2<=a/\a<=4)/\(l.length:Int)<=n
 .rw[zE u,zB u.1.1,zB u.1.2,zB u.2];rfl
 rw[zF u]
 have e:(cond (Zc (2<=a)) (cond (Zc (a<=4)) (cond (Zc ((l.length:Int)<=n)) (O (Sum.inl ())) (O (Sum.inr ()))) (O (Sum.inr ()))) (O (Sum.inr ())):Option (Unit⊕Unit))=O (.inr ()):=by
  by_cases b:2<=a
  .rw[zB b];by_cases d:a<=4
   .rw[zB d,zA (λC=>u ⟨⟨b,d⟩,C⟩)];rfl
   .rw[zA d];rfl
  .rw[zA b];rfl
 rw[e];simp only[zG,ck,mp]
 have g:(2<=a/\a<=4)->0<=n/\n.toNat<l.length/\ix n l.length=O n.toNat/\l[n.toNat]?=O (rg l n):=λF=>by
  have E:=Ch A ⟨by omega,F.2⟩
  have v:n.toNat<l.length:=by
   have: ¬(l.length:Int)<=n:=λC=>u ⟨F,C⟩
   omega
  have D:n=((n.toNat:Nat):Int):=by omega
  refine⟨E.1,v, ?_, ?_⟩
  .conv=>lhs;rw[D]
   exact bq v
  .have:=iM v;rw[<-D]at this;exact this
 rcases K with rfl|rfl|rfl|rfl|rfl|rfl|rfl
 .have E:=Ch A (by omega);rw[show ix 1 8=O 1 from rfl];simp only[zG,aB,UC,UB,zC,zD];rw[zE trivial];unfold kV;rw[ad (n:=L-p) (by omega),ag];by_cases b:L-p<n
  .rw[zE b,zE b];rfl
  .rw[zF b,zF b,ad (n:=p+n) (by omega),ad (n:=o+n) (by omega)];rfl
 .obtain⟨H,I,y,z⟩:=g (by omega);rw[show ix 2 8=O 2 from rfl];simp only[zG,aB,UC,UB,zC,zD];rw[zF (by decide),zE trivial];unfold mq;rw[y];simp only[zG];rw[z];simp only[zG,ag];by_cases b:0<=rg l n
  .rw[zE b,zE b];rfl
  .rw[zF b,zF b];rfl
 .obtain⟨H,I,y,z⟩:=g (by omega);rw[show ix 3 8=O 3 from rfl];simp only[zG,aB,UC,UB,zC,zD];rw[zF (by decide),zF (by decide),zE trivial];unfold kW;rw[y];simp only[zG];rw[z];simp only[zG,ag];by_cases b:rg l n<0
  .rw[zE b,zE b];rfl
  .rw[zF b,zF b];rfl
 .obtain⟨H,I,y,z⟩:=g (by omega);rw[show ix 4 8=O 4 from rfl];simp only[zG,aB,UC,UB,zC,zD];rw[zF (by decide),zF (by decide),zF (by decide),zE trivial];unfold nb;rw[y];simp only[zG];rw[z];simp only[zG,ag];by_cases b:rg l n<0
  .rw[zE b,zE b];rfl
  .rw[zF b,zF b];rfl
 .rw[show ix 5 8=O 5 from rfl];simp only[zG,aB,UC,UB,zC,zD];rw[zF (by decide),zF (by decide),zF (by decide),zF (by decide),zE trivial];unfold nc gK;rw[ad (n:=L-0) (by omega),ag];by_cases b:q≠ -1
  .rw[zE b,zE b];rfl
  .rw[zF b,zF b,zB (show q= -1 by omega),Bool.and_true,Int.sub_zero];by_cases d:p=L
   .rw[zB d,zF (λk=>k d)];rfl
   .rw[zA d,zE d];rfl
 .rw[show ix 6 8=O 6 from rfl];simp only[zG,aB,UC,UB,zC,zD];rw[zF (by decide),zF (by decide),zF (by decide),zF (by decide),zF (by decide),zE trivial];unfold na gK;rw[ad (n:=L-1) (by omega),ag];by_cases b:q≠ -1
  .rw[zE b,zE b];rfl
  .rw[zF b,zF b,zB (show q= -1 by omega),Bool.and_true];by_cases d:p=L-1
   .rw[zB d,zF (λk=>k d)];rfl
   .rw[zA d,zE d];rfl
 .rw[show ix 7 8=O 7 from rfl];simp only[zG,aB,UC,UB,zC,zD];rw[zF (by decide),zF (by decide),zF (by decide),zF (by decide),zF (by decide),zF (by decide)];unfold kX;rw[ag];by_cases b:q<=0
  .rw[zE b,zE b];rfl
  .rw[zF b,zF b,ad (n:=q-1) (by omega),ag];by_cases d:p≠q-1
   .rw[zE d,zE d];rfl
   .rw[zF d,zF d];rfl
section
variable {c:Cx}
theorem Hm {L:Int}(e: ∀k,k<c.ns.toNat->0<=gX c W k/\gX c W k<=L+1): ∀t∈kR c W,-1<=t/\t<=L:=λt b=>by
 unfold kR at b;obtain⟨k,d,rfl⟩:=List.mem_map.1 b;have:=e k (List.mem_range.1 d);omega
theorem ap9 {n:Int}(h:0<=n)(d:n.toNat<c.ns.toNat):rg (kR c W) n=gX c W n.toNat-1:=by
 have e:=Ej (c:=c) (W:=W) d;have b:=iM (r:=kR c W) (k:=n.toNat) (by rw[nU];exact d);rw[e,bB h]at b;injection b with b
 exact b.symm
theorem De.in' (h:De B s)(b:B<=2305843009213693952):(0<=s.c0/\s.c0<=2305843009213693952)/\(0<=s.c1/\s.c1<=2305843009213693952)/\(0<=s.c2/\s.c2<=2305843009213693952)/\(0<=s.c3/\s.c3<=2305843009213693952):=by
 unfold De at h;omega
theorem ab6 (b:k<c.ns.toNat)(d:0<gX c W k):0<iI c W:=by
 unfold iI;exact List.countP_pos_iff.2 ⟨k,List.mem_range.2 b,zB d⟩
theorem Yd (h:c.Ok)(hi:Inv c s)(p:0<iI c s.W):c.sl<=s.lv:=by
 have n:=h.num;have d:=hi.lv;have e:=n.fixed;have b:=n.sl;have g:1<=c.sl:=by rw[b];have:=n.R;split<;>omega
 have o:c.sl*1<=c.sl*(iI c s.W:Int):=Int.mul_le_mul_of_nonneg_left (by omega) (by omega);have:=n.R;have:=n.Q;omega
theorem do2 (h:c.Ok)(C:c.mode≠3)(hi:Inv c s)(hc:De B s)(hB:B<=2305843009213693952){n:Int}:
  jD a n c.fixed c.tp c.sl c.ns c.mode c.R c.Q c.len c.words s.L s.p s.q s.c0 s.c1 s.c2 s.c3 s.z c.X c.T c.l c.k c.P c.tk (c.off 8:Int) c.ns (c.X.length:Int) s.lv s.pk c.words s.W=O (aA4 c (CC c a n s)):=by
 have nm:=h.num;have H:=hi.w;have hL:=hi.L;have hp:=hi.p;have hq:=hi.q;have D:=hi.pk;have N:=h.ns;obtain⟨k0,k1,k2,k3⟩:=hc.in' hB;obtain⟨J,g2,K,g4⟩:=GU h hi;have V:=nm.tp;rw[zF C]at V
 have e:(kR c s.W).length<1000000:=by
  rw[nU];rcases Nat.eq_zero_or_pos c.ns.toNat with h0|h0
  .omega
  .have:=(qA h C h0).2.2;omega
 unfold jD kS;simp only[zG];rw[zA C,zD];unfold dj;rw[Hl h C H (λk M=>by have:=hi.tag k M;omega)];simp only[zG];rw[B8 hL hp hq e (Hm hi.tag)];simp only[zG,ck];rw[SR hL hp hq (by omega)];simp only[zG];unfold aC8 CC;by_cases E:jT a n=Zb∨7<a
 .rw[zE E,zE E,zB (by simp),zC];rfl
 rw[zF E,zF E];obtain⟨Z,M⟩:=Cg E;rw[nU,bB N.1];by_cases F:(2<=a/\a<=4)/\c.ns<=n
 .rw[zE F,zE F,zB (by simp),zC];rfl
 rw[zF F,zF F]
 have v:(2<=a/\a<=4)->n=((n.toNat:Nat):Int)/\n.toNat<c.ns.toNat/\rg (kR c s.W) n=gX c s.W n.toNat-1:=λhs=>by
  have hn:=Ch Z ⟨by omega,hs.2⟩
  have g:n.toNat<c.ns.toNat:=by
   have: ¬c.ns<=n:=λh7=>F ⟨hs,h7⟩
   omega
  exact⟨by omega,g,ap9 hn.1 g⟩
 simp only[mW,bh,ie,zG];have d: ∀l:Zd,l.length<1000000->gd (fB (0+l.length) 8) (O l)=O l:=λl hl=>bp (by omega) (by omega)
 have y: ∀(i:Nat) (x:Int),((kR c s.W).set i x).length<1000000:=λi x=>by simp only[List.length_set];exact e
 rcases M with rfl|rfl|rfl|rfl|rfl|rfl|rfl
 .have hn:=Ch Z (by omega);simp only[aD,reduceIte];by_cases b:s.L-s.p<n
  .rw[zE b,zE b,zB (by simp),zC];rfl
  rw[zF b,zF b,zA (by simp),zD,show ix 1 8=O 1 from rfl];simp only[zG,aB,UC,UB,zC,zD];have A:n=((n.toNat:Nat):Int):=by omega
  have u:=Xc h H (m:=n.toNat) (L:=s.L) (p:=s.p) (q:=s.q) (c0:=s.c0) (c1:=s.c1) (c2:=s.c2) (c3:=s.c3) (z:=s.z) (sb:=(c.off 8:Int)) (sn:=c.ns) (sx:=(c.X.length:Int)) (lv:=s.lv) (pk:=s.pk) (bd:=c.words) (by omega) (by omega) (by omega);rw[<-A]at u;rw[u];simp only[zG];rw[d _ e];rfl
 .obtain⟨A,g,I⟩:=v (by omega);simp only[aD,reduceIte];rw[I];by_cases b:0<=gX c s.W n.toNat-1
  .rw[zE b,zE b,zB (by simp),zC];rfl
  rw[zF b,zF b,zA (by simp),zD,show ix 2 8=O 2 from rfl];simp only[zG,aB,UC,UB,zC,zD];have u:=aF3 h C hi g (by omega);rw[<-A]at u;rw[u];simp only[zG];rw[d _ (y _ _)];rfl
 .obtain⟨A,g,I⟩:=v (by omega);simp only[aD,reduceIte];rw[I];by_cases b:gX c s.W n.toNat-1<0
  .rw[zE b,zE b,zB (by simp),zC];rfl
  rw[zF b,zF b,zA (by simp),zD,show ix 3 8=O 3 from rfl];simp only[zG,aB,UC,UB,zC,zD];have u:=YU h C hi g (by omega);rw[<-A]at u;rw[u];simp only[zG];rw[d _ e];rfl
 .obtain⟨A,g,I⟩:=v (by omega);simp only[aD,reduceIte];rw[I];by_cases b:gX c s.W n.toNat-1<0
  .rw[zE b,zE b,zB (by simp),zC];rfl
  rw[zF b,zF b,zA (by simp),zD,show ix 4 8=O 4 from rfl];simp only[zG,aB,UC,UB,zC,zD];have u:=aK5 h C hi g (by omega) (Yd h hi (ab6 g (by omega)));rw[<-A]at u;rw[u];simp only[zG];rw[d _ (y _ _)];rfl
 .simp only[aD,reduceIte];by_cases b:s.q≠ -1
  .rw[zE b,zE b,zB (by simp),zC];rfl
  rw[zF b,zF b];by_cases o:s.p≠s.L
  .rw[zE o,zE o,zB (by simp),zC];rfl
  rw[zF o,zF o,zA (by simp),zD,show ix 5 8=O 5 from rfl];simp only[zG,aB,UC,UB,zC,zD];rw[aM7 h H J D.1 (by omega) K];simp only[zG];rw[d _ e,ad (n:=s.c2+1) (by omega),ad (n:=s.c3+1) (by omega)];rfl
 .simp only[aD,reduceIte];by_cases b:s.q≠ -1
  .rw[zE b,zE b,zB (by simp),zC];rfl
  rw[zF b,zF b];by_cases o:s.p≠s.L-1
  .rw[zE o,zE o,zB (by simp),zC];rfl
  rw[zF o,zF o,zA (by simp),zD,show ix 6 8=O 6 from rfl];simp only[zG,aB,UC,UB,zC,zD];rw[aJ2 h H J D.1 (by omega) K];simp only[zG];rw[d _ e,ad (n:=s.c1+1) (by omega),ad (n:=s.c2+1) (by omega),ad (n:=s.c3+1) (by omega),ad (n:=s.c3+1+1) (by omega)];rfl
 .simp only[aD,reduceIte];by_cases b:s.q<=0
  .rw[zE b,zE b,zB (by simp),zC];rfl
  rw[zF b,zF b];by_cases o:s.p≠s.q-1
  .rw[zE o,zE o,zB (by simp),zC];rfl
  rw[zF o,zF o,zA (by simp),zD,show ix 7 8=O 7 from rfl];simp only[zG,aB,UC,UB,zC,zD];rw[aW2 h H J D.1 (by omega) K];simp only[zG];rw[d _ e,ad (n:=s.c1+1) (by omega),ad (n:=s.c3+1) (by omega)];rfl
end
end
section
open Go.IntKind renaming wrap -> zH, i64 -> zI, u64 -> zJ
open Int renaming reduceEq -> aB, le_max_left -> cB, toNat_natCast -> cD
open List renaming getD_eq_getElem?_getD -> aD, range -> bD, length_take -> cK, countP_append -> cM
open Nat renaming le_of_eq -> bB, le_refl -> cL
section
variable {c:Cx}
def dy (c:Cx)(W W':Zd):Prop:= ∀i,c.off 8<=i->W'[i]?=W[i]?
theorem dy.refl (W:Zd):dy c W W:=λ_ _=>rfl
theorem dy.trans {W'':Zd}(h:dy c W W')(b:dy c W' W''):dy c W W'':=λi hi=>(b i hi).trans (h i hi)
theorem dy.put (h:c.Ok)(b:dy c W W')(d:Wd c W')(hi:i<8)(p:w.length<=c.sz i):dy c W (put W' (c.off i) w):=λj e=>by
 have g:=ga (c:=c) (i:=i) (j:=8) hi;have o:=d.in' h (i:=i) (by omega);rw[Tc (by omega) (.inr (by omega))];exact b j e
theorem dy.rg (h:dy c W W')(hi:c.off 8<=i):rg W' (i:Int)=rg W (i:Int):=by
 unfold Go.V.rg;rw[cD,aD,aD,h i hi]
theorem dy.tag (h:dy c W W')(k:Nat):gX c W' k=gX c W k:=h.rg (by unfold sp;omega)
theorem dy.used (h:dy c W W'):iI c W'=iI c W:=by
 unfold iI
 congr 1
 funext k
 rw[h.tag k]
theorem dy.seg (h:dy c W W'){o n:Nat}(b:c.off 8<=o):seg W' o n=seg W o n:=by
 apply List.ext_getElem?;intro i;rw[zy,zy];split
 .exact h _ (by omega)
 .rfl
theorem Lf (h:c.Ok){a:Zd}(d:Wd c W)(g:c.X.length+c.T.length<=a.length)(b:a.length<=max c.R.toNat c.Q.toNat):dy c W (yj c W a):=by
 obtain⟨o,e,p⟩:=mR h d g b;unfold yj;refine dy.put h (dy.put h (dy.put h (dy.refl W) d (by omega) ?_) o (by omega) ?_) e (by omega) ?_
 .exact b
 .rw[cK];exact Nat.min_le_left _ _
 .rw[yh,dp (n:=c.T.length) (e.in' h (i:=6) (by omega))];exact cL _
theorem GQ (h:c.Ok)(b:Wd c W)(e:x.length=c.X.length):dy c W (HT c W x):=by
 have n:=h.num;have v:=n.R;have u:=n.Q;have q:=n.xtQ;have z:=n.x;have y:=n.m;obtain⟨p,d,g⟩:=zr h b e;obtain⟨o,A⟩:=B3 h b e;obtain⟨_,r2,r3⟩:=pB h.pk d (a:=fill c.Q [1]) (t:=(lossR c W x).2.1) (kw (by simp;omega)) (bB g.symm) (by omega);exact(dy.put h (dy.refl W) b (i:=3) (by omega) (bB d)).trans (Lf h o (by omega) (by omega))
theorem Qw (h:c.Ok)(b:Wd c W)(d:r.length=c.R.toNat)(e:t.length=c.fl.n):dy c W (L6 c W r t):=by
 have n:=h.num;have q:=n.R;have p:=n.xtR;have v:=n.x;have u:=n.n;obtain⟨g,o⟩:=Hq h b d e;obtain⟨_,r2,r3⟩:=pB h.pl d g (bB e.symm) (by omega);exact Lf h b (by omega) (by omega)
theorem Nm (h:c.Ok)(b:Wd c W)(p:Int):dy c W (put W (c.off 2) (stepR c W p).1):=
 dy.put h (dy.refl W) b (i:=2) (by omega) (bB (iq h b p).2.1)
theorem JX (h:c.Ok)(b:Wd c W)(p:Int):dy c W (WB c W p)/\Wd c (WB c W p):=by
 obtain⟨o,d,e⟩:=iq h b p;have g:=xB h b p;exact⟨(Nm h b p).trans (Qw h g d e),(Hq h g d e).2⟩
theorem WK (h:c.Ok)(b:Wd c W)(p:Int):((stepR c W p).1.take c.X.length).length=c.X.length:=by
 have n:=h.num;have q:=n.R;have o:=n.xtR;obtain⟨d,e,g⟩:=iq h b p;rw[cK];omega
theorem GP (h:c.Ok)(b:Wd c W)(p:Int):dy c W (MX c W p)/\Wd c (MX c W p):=by
 obtain⟨u,d,e⟩:=iq h b p;have o:=xB h b p;have g:=WK h b p;have q:=(B3 h o g).2;exact⟨((Nm h b p).trans (GQ h o g)).trans (Qw h q d e),(Hq h q d e).2⟩
theorem X5 (h:c.Ok)(b:Wd c W)(p:Int):dy c W (adv1 c W p):=by
 obtain⟨_,d⟩:=Eg h b p;obtain⟨e,g⟩:=Ov h b p;refine dy.put h (dy.put h (dy.refl W) b (i:=2) (by omega) (bB d)) e (i:=1) (by omega) ?_;rw[cK];exact Nat.min_le_left _ _
theorem JW (h:c.Ok){W:Zd}(b:Wd c W)(p:Int): ∀i,dy c W (advW c W p i)
 |0=>dy.refl W
 |i+1=>(JW h b p i).trans (X5 h (JQ h b p i) _)
theorem DS {P P':Nat->Bool}{k:Nat}: ∀{n:Nat},k<n->P k=Zb->P' k=Za->(∀j,j<n->j≠k->P' j=P j)->(bD n).countP P'=(bD n).countP P+1
 |n+1,u,o,p,b=>by
  rw[List.range_succ,cM,cM];by_cases g:k=n
  .subst g
   have e:(bD k).countP P'=(bD k).countP P:=List.countP_congr λj q=>by
    have:=List.mem_range.1 q;rw[b j (by omega) (by omega)]
   rw[e];simp[o,p]
  .rw[DS (n:=n) (by omega) o p λj q d=>b j (by omega) d];have:[n].countP P'=[n].countP P:=by simp[b n (by omega) (by omega)]
   omega
theorem UX (h:j<k):sp c j+(c.X.length+1)<=sp c k:=by
 have b:(j+1)*(c.X.length+1)<=k*(c.X.length+1):=Nat.mul_le_mul_right _ h;rw[Nat.succ_mul]at b;unfold sp;omega
theorem J5 (b:sp c k+w.length<=W.length)(e:w.length=c.X.length+1)(d:j≠k):gX c (put W (sp c k) w) j=gX c W j:=by
 unfold gX rg;rw[cD,aD,aD,Tc b];rcases Nat.lt_or_ge j k with h|h
 .exact .inl (by have:=UX (c:=c) h;omega)
 .exact .inr (by have:=UX (c:=c) (show k<j by omega);omega)
theorem xj (b:sp c k+w.length<=W.length)(d:w.length=c.X.length+1):gX c (put W (sp c k) w) k=w.getD 0 0:=by
 unfold gX rg;rw[cD,aD,aD,G9 b,zE ⟨cL _,by omega⟩,Nat.sub_self]
theorem D0 {b:Dy}(hi:Inv c s)(v:Wd c b.W)(u:dy c s.W b.W)(g:b.L=s.L)(y:0<=b.p/\b.p<=s.L)(z: -1<=b.q/\b.q<=s.L)(d:b.lv=s.lv)(e:s.pk<=b.pk/\b.pk<=c.words):Inv c b:=
 ⟨v,by rw[g];exact hi.L,by rw[g];exact y,by rw[g];exact z,λk o=>by rw[u.tag,g];exact hi.tag k o,by rw[d,u.used];exact hi.lv,by rw[d];exact⟨Int.le_trans hi.pk.1 e.1,e.2⟩⟩
theorem ag9 (h:c.Ok)(C:c.mode≠3)(hi:Inv c s)(a n:Int):Inv c (CC c a n s).2:=by
 have nm:=h.num;have o:=hi.w;have hL:=hi.L;have A:=hi.p;have H:=hi.q;have D:=hi.pk;have hns:=h.ns;have nx:=nm.x;obtain⟨g1,g2,g3,g4⟩:=GU h hi;have N:=nm.tp;rw[zF C]at N;have M:=nm.sl;rw[zF C]at M;have Z:(seg s.W (c.off 1) c.X.length).length=c.X.length:=dp (o.in' h (i:=1) (by omega));unfold CC;by_cases I:jT a n=Zb∨7<a
 .rw[zE I];exact hi
 rw[zF I];obtain⟨h2,hk⟩:=Cg I;by_cases J:(2<=a/\a<=4)/\c.ns<=n
 .rw[zE J];exact hi
 rw[zF J]
 have y:(2<=a/\a<=4)->n.toNat<c.ns.toNat:=λhs=>by
  have hn:=Ch h2 ⟨by omega,hs.2⟩;have: ¬c.ns<=n:=λh7=>J ⟨hs,h7⟩
  omega
 rcases hk with rfl|rfl|rfl|rfl|rfl|rfl|rfl
 .have hn:=Ch h2 (by omega);simp only[aB,reduceIte];by_cases d:s.L-s.p<n
  .rw[zE d];exact hi
  .rw[zF d];exact D0 hi (JQ h o _ _) (JW h o _ _) rfl ⟨by show 0<=s.p+n;omega,by show s.p+n<=s.L;omega⟩ H rfl ⟨Int.le_refl _,D.2⟩
 .have b:=y (by omega);simp only[aB,reduceIte];by_cases d:0<=gX c s.W n.toNat-1
  .rw[zE d];exact hi
  rw[zF d];generalize n.toNat=k at*;obtain⟨s1,s2,s3⟩:=qA h C b;obtain⟨t1,t2⟩:=o.tk h;have E:=hi.tag k b;have F:(zH zJ (zH zI (s.p+1))::seg s.W (c.off 1) c.X.length).length=c.X.length+1:=by simp[Z]
  have e:=xj (c:=c) (W:=s.W) (k:=k) (w:=zH zJ (zH zI (s.p+1))::seg s.W (c.off 1) c.X.length) (by omega) F
  have V:(zH zJ (zH zI (s.p+1))::seg s.W (c.off 1) c.X.length).getD 0 0=s.p+1:=by
   show zH zJ (zH zI (s.p+1))=_;rw[Zi,Zk]
  rw[V]at e;have g: ∀j,j≠k->gX c (put s.W (sp c k) (zH zJ (zH zI (s.p+1))::seg s.W (c.off 1) c.X.length)) j=gX c s.W j:=λj u=>J5 (by omega) F u
  have K:=Nr h hi (Nh b (by omega))
  have Q:iI c (put s.W (sp c k) (zH zJ (zH zI (s.p+1))::seg s.W (c.off 1) c.X.length))=iI c s.W+1:=by
   unfold iI;exact DS b (zA (by omega)) (zB (by rw[e];omega)) λj _ u=>by rw[g j u]
  refine⟨o.put h (by omega),hL,A,H,λj u=> ?_, ?_, ?_⟩
  .by_cases v:j=k
   .subst v;rw[e];show 0<=s.p+1/\s.p+1<=s.L+1;omega
   .rw[g j v];exact hi.tag j u
  .show s.lv+c.sl=c.fixed+c.sl*((iI c (put s.W (sp c k) _):Nat):Int);rw[Q,hi.lv];rw[show(((iI c s.W+1:Nat)):Int)=(iI c s.W:Int)+1 by omega,Int.mul_add,Int.mul_one,Int.add_assoc]
  .show s.lv+c.sl<=max s.pk (s.lv+c.sl)/\max s.pk (s.lv+c.sl)<=c.words;omega
 .have b:=y (by omega);simp only[aB,reduceIte];by_cases d:gX c s.W n.toNat-1<0
  .rw[zE d];exact hi
  rw[zF d];obtain⟨s1,s2,s3⟩:=qA h C b;obtain⟨t1,t2⟩:=o.tk h;have E:=hi.tag _ b;have l2:(seg s.W (sp c n.toNat+1) c.X.length).length=c.X.length:=dp (by omega);have h1o:=ga (c:=c) (i:=1) (j:=9) (by omega);have z1:c.sz 1=c.X.length:=rfl;exact D0 hi (o.put h (by rw[l2];omega)) (dy.put h (dy.refl s.W) o (i:=1) (by omega) (by rw[l2];exact cL _)) rfl ⟨by show 0<=gX c s.W n.toNat-1;omega,by show gX c s.W n.toNat-1<=s.L;omega⟩ H rfl ⟨Int.le_refl _,D.2⟩
 .have b:=y (by omega);simp only[aB,reduceIte];by_cases d:gX c s.W n.toNat-1<0
  .rw[zE d];exact hi
  rw[zF d];generalize n.toNat=k at*;obtain⟨s1,s2,s3⟩:=qA h C b;obtain⟨t1,t2⟩:=o.tk h;have E:=hi.tag k b;have F:(cj (c.X.length+1)).length=c.X.length+1:=cd _;have e:=xj (c:=c) (W:=s.W) (k:=k) (w:=cj (c.X.length+1)) (by omega) F;have V:(cj (c.X.length+1)).getD 0 0=0:=rfl;rw[V]at e;have g: ∀j,j≠k->gX c (put s.W (sp c k) (cj (c.X.length+1))) j=gX c s.W j:=λj u=>J5 (by omega) F u
  have Q:iI c s.W=iI c (put s.W (sp c k) (cj (c.X.length+1)))+1:=by
   unfold iI;exact DS b (zA (by omega)) (zB (by omega)) λj _ u=>by rw[g j u]
  refine⟨o.put h (by omega),hL,A,H,λj u=> ?_, ?_, ?_⟩
  .by_cases v:j=k
   .subst v;rw[e];show(0:Int)<=0/\0<=s.L+1;omega
   .rw[g j v];exact hi.tag j u
  .show s.lv-c.sl=c.fixed+c.sl*((iI c (put s.W (sp c k) (cj (c.X.length+1))):Nat):Int);rw[hi.lv,Q];rw[show(((iI c (put s.W (sp c k) (cj (c.X.length+1)))+1:Nat)):Int)=(iI c (put s.W (sp c k) (cj (c.X.length+1))):Int)+1 by omega,Int.mul_add,Int.mul_one];omega
  .show s.lv-c.sl<=s.pk/\s.pk<=c.words;omega
 .simp only[aB,reduceIte];by_cases d:s.q≠ -1
  .rw[zE d];exact hi
  rw[zF d];by_cases z:s.p≠s.L
  .rw[zE z];exact hi
  rw[zF z];exact D0 hi (B3 h o Z).2 (GQ h o Z) rfl A ⟨by show-1<=s.p;omega,A.2⟩ rfl ⟨cB _ _,by show max s.pk (s.lv+(c.fk.n:Int))<=c.words;omega⟩
 .simp only[aB,reduceIte];by_cases d:s.q≠ -1
  .rw[zE d];exact hi
  rw[zF d];by_cases z:s.p≠s.L-1
  .rw[zE z];exact hi
  rw[zF z];exact D0 hi (GP h o s.p).2 (GP h o s.p).1 rfl A ⟨by show-1<=s.p;omega,A.2⟩ rfl ⟨cB _ _,by show max s.pk (s.lv+((c.fl.n:Int)+c.fk.n))<=c.words;omega⟩
 .simp only[aB,reduceIte];by_cases d:s.q<=0
  .rw[zE d];exact hi
  rw[zF d];by_cases z:s.p≠s.q-1
  .rw[zE z];exact hi
  rw[zF z];exact D0 hi (JX h o s.p).2 (JX h o s.p).1 rfl A ⟨by show-1<=s.p;omega,A.2⟩ rfl ⟨cB _ _,by show max s.pk (s.lv+(c.fl.n:Int))<=c.words;omega⟩
theorem ag8 (e:De B s)(a n:Int):De (B+65536) (CC c a n s).2:=by
 have b:De (B+65536) s:=by unfold De at e⊢;omega
 unfold CC;by_cases d:jT a n=Zb∨7<a
 .rw[zE d];exact b
 rw[zF d];obtain⟨g,p⟩:=Cg d;split
 .exact b
 split
 .rename_i o;have q:=Ch g (by omega);split
  .exact b
  .unfold De at e⊢;simp only;omega
 repeat' split
 all_goals first|exact b|(unfold De at e⊢;simp only;omega)
end
end
section
open Nat renaming add_sub_cancel_left -> aB, le_add_right -> aD
theorem Vj (h:j<t.length):(t++r)[0+j]?=O (rg t (j:Int)):=by
 rw[Nat.zero_add,List.getElem?_append_left h,iM h]
theorem HF (h:j<r.length):(t++r)[t.length+j]?=O (rg r (j:Int)):=by
 rw[List.getElem?_append_right (aD _ _),aB,iM h]
theorem Vk {v:Int}:(t++r).set (t.length+j) v=t++r.set j v:=by
 rw[List.set_append_right _ _ (aD _ _),aB]
def stK (t:Zd)(p d:Nat)(l:Nat->Int)(s:BS):Int×Int×Int×(Zd)×(Zd)×Int×Int×Int×Int×Int×Int×Int×Int:=
 ((p:Int)-1,(d:Int),(s.2.2:Int),t++s.1,s.2.1,l 0,l 1,l 2,l 3,l 4,l 5,l 6,l 7)
theorem ay9 {code:List vT}(A:code.length<=8192){R:Int}(hR:1<=R/\R<=64){e0 e1:Int}(hN:t.length<=1000000)(hw:w.length=t.length+R.toNat):Backs (dk R (e0,w) (e1,code)) code (stK t) (qf t) (VdB R.toNat t.length) (SO R.toNat)where
 op:=by
  intro p d l s m o z h hg y b D;obtain⟨F,u⟩:=kQ A h;obtain⟨v1,v2,v3,v4⟩:=D;obtain⟨q1,q2⟩:=Lw o s.1 s.2.1 (rg t ((s.2.2-1:Nat):Int));refine⟨?_,by unfold qf;exact⟨by simp[v1,q1],by simp[v2,q2],by show m<=s.2.2-1;omega,by show s.2.2-1<=_;omega⟩⟩;obtain⟨g,E,H,e1,K,L,M,N,Q⟩:=GN hg;unfold stK qf;simp only[dk];rw[show((p+1:Nat):Int)-1=(p:Int)by omega,Ze,zD,u];simp only[zG];rw[h];simp only[zG,ce];rw[Ze,zD,Ze,zD];simp only[CJ,zG];rw[ad (n:=(s.2.2:Int)-1) (by omega),show(s.2.2:Int)-1=((s.2.2-1:Nat):Int)by omega,ad (n:=(w.length:Int)-R) (by omega),show((w.length:Int)-R).toNat=t.length by omega,show((w.length:Int)).toNat-t.length=R.toNat by omega,Nat.sub_zero];have J:s.2.2-1<t.length:=by omega
  generalize s.2.2-1=n at*;unfold Lv;simp only[e1,K,L,Int.toNat_natCast];rw[bq (show g<s.2.1.length by omega)];simp only[zG];rw[iM (show g<s.2.1.length by omega)];simp only[zG];rw[bq J];simp only[zG];rw[Vj J];simp only[zG];rw[bq M];simp only[zG];rw[HF (show g<s.1.length by omega)];simp only[zG];rw[bq N];simp only[zG];rw[Vk];have C: ∀x:Int,(s.1.set g x).length=s.1.length:=by simp
  have ha1:(s.2.1.set g 0).length=s.2.1.length:=by simp
  rw[HF (show E<(s.1.set g (rg t (n:Int))).length by rw[C];omega)];simp only[zG];rw[bq Q];simp only[zG];rw[HF (show H<(s.1.set g (rg t (n:Int))).length by rw[C];omega)];simp only[zG];rw[bq (show E<(s.2.1.set g 0).length by omega)];simp only[zG];rw[iM (show E<(s.2.1.set g 0).length by omega)];simp only[zG];generalize hP:par o _ _=P;generalize X:(s.2.1.set g 0).set E _=A2;have Z:A2.length=s.2.1.length:=by rw[<-X];simp
  rw[bq (show H<A2.length by omega)];simp only[zG];rw[iM (show H<A2.length by omega)];simp only[zG];rw[ad (n:=(p:Int)-1) (by omega)]
 rep:=by
  intro p q d l s m o e z h y I b D;obtain⟨F,u⟩:=kQ A h;obtain⟨h3,V⟩:=kQ A I;unfold stK;simp only[dk];rw[show((p+1:Nat):Int)-1=(p:Int)by omega,Ze,zD,u];simp only[zG];rw[h];simp only[zG,ce];rw[zB y,zC,ad (n:=((q+1:Nat):Int)-1) (by omega),show((q+1:Nat):Int)-1=(q:Int)by omega,V];simp only[zG];rw[I];simp only[zG,ce];rw[bq b];simp only[zG];rw[ad (n:=(p:Int)-1) (by omega),ad (n:=(d:Int)+1) (by omega)];rfl
 nxt:=by
  intro p d l s m o z h hto y b hl hl2 D;obtain⟨F,u⟩:=kQ A h;have v:=wI (upd l d (l d-1)) b;rw[nV]at v;unfold upd at v;unfold stK;simp only[dk];rw[show((p+1:Nat):Int)-1=(p:Int)by omega,Ze,zD,u];simp only[zG];rw[h];simp only[zG,ce];rw[Ze,zD,zB y,zC,ad (n:=((d+1:Nat):Int)-1) (by omega),show((d+1:Nat):Int)-1=(d:Int)by omega,bq b];simp only[zG];rw[wI l b,Zk,v,Zf,zC];rw[ad (n:=((z+1:Nat):Int)-2) (by omega),show((z+1:Nat):Int)-2=(z:Int)-1 by omega];rfl
 out:=by
  intro p d l s m o z h y b hl D;obtain⟨F,u⟩:=kQ A h;have v:=wI (upd l d (l d-1)) b;rw[nV]at v;unfold upd at v;unfold stK;simp only[dk];rw[show((p+1:Nat):Int)-1=(p:Int)by omega,Ze,zD,u];simp only[zG];rw[h];simp only[zG,ce];rw[Ze,zD,zB y,zC,ad (n:=((d+1:Nat):Int)-1) (by omega),show((d+1:Nat):Int)-1=(d:Int)by omega,bq b];simp only[zG];rw[wI l b,Zk,v,Ze,zD,ad (n:=(p:Int)-1) (by omega)];rfl
section
variable {R:Int} {l:List bx} {f:Fo}
theorem Ta (h:Prg R l f){a:Zd}{e0 e1:Int}(E:r.length=R.toNat)(C:a.length=R.toNat)(F:f.n<=t.length)(g:t.length<=1000000)(H:w.length=t.length+R.toNat):
  ∃b0 b1 b2 b3 q u v y,aq (dk R (e0,w) (e1,f.bare.code 0)) di (IntKind.i64.wrap (((f.bare.code 0).length:Int)-1),0,(f.n:Int),t++r,a,0,0,0,0,0,0,0,0)=O (t++(jr f r a t).1,(jr f r a t).2.1,b0,b1,b2,b3,q,u,v,y):=by
 obtain⟨b,_,o,z⟩:=GA (m:=0) (l:=λ_=>0) (s:=((r,a,f.n):BS)) (d:=0) (p:=0) (A:=[]) (B:=[]) (KF (ay9 (e0:=e0) (e1:=e1) (t:=t) h.clen h.R1 g H)) f.bare (by simp) rfl (Fo.bare_ok f h.ok) f.bare_pos h.hi h.good ⟨E,C,by rw[Fo.bare_n];exact Nat.le_refl _,F⟩;rw[Fo.bare_unroll]at o z;have D:=h.clen;rw[Fo.code_len]at D
 have:=EU o h.steps (c:=(t++(jr f r a t).1,(jr f r a t).2.1,b 0,b 1,b 2,b 3,b 4,b 5,b 6,b 7)) (by
  unfold stK;simp only[dk];rw[Zf,zC]
  rfl)
 have e:stK t (0+f.bare.len) 0 (λ_=>0) ((r,a,f.n):BS)=(IntKind.i64.wrap (((f.bare.code 0).length:Int)-1),0,(f.n:Int),t++r,a,0,0,0,0,0,0,0,0):=by
  unfold stK;rw[Fo.code_len,Zi,Nat.zero_add];rfl
 rw[e]at this;exact⟨_,_,_,_,_,_,_,_,this⟩
end
end
section
open Bool renaming not_true -> aB
open Int renaming toNat_of_nonneg -> aD, mul_le_mul_of_nonneg_left -> bB
open List renaming length_append -> bD, length_take -> cB
section
variable {c:Cx}
def ja (c:Cx)(i:Nat):Nat:=c.off 8+i*c.sl.toNat
def iN (s:Dy):Int:=if s.q<0 then s.p else s.q
structure InvB (c:Cx)(s:Dy):Prop where
 w:Wd c s.W
 L:s.L=c.len
 p:0<=s.p/\s.p<=s.L
 q: -1<=s.q/\s.q<=s.L
 qp:0<=s.q->s.p=s.q
 lv:s.lv=c.fixed+c.sl*iN s
 pk:s.lv<=s.pk/\s.pk<=c.words
def vH (c:Cx)(W:Zd)(i:Nat):Zd:=seg W (ja c i) c.fl.n
def zx (c:Cx)(W:Zd)(i:Nat):Zd:=seg W (ja c i+c.fl.n) c.R.toNat
def wH (c:Cx)(W:Zd)(i:Nat):BS:=jr c.fl (zx c W i) (fill c.R (seg W (c.off 5) c.X.length)) (vH c W i)
def ET (c:Cx)(a n:Int)(s:Dy):Int×Dy:=
 if a=8 then(if n≠0 then(2,s)else if 0<=s.q then(18,s)else if s.p=s.L then(17,s)else
  (0,{s with p:=s.p+1,c1:=s.c1+1,lv:=s.lv+c.sl,pk:=max s.pk (s.lv+c.sl),W:=put (put (put s.W (c.off 2) (stepR c s.W s.p).1) (ja c s.p.toNat) ((stepR c s.W s.p).2.1++(stepR c s.W s.p).1)) (c.off 1) ((stepR c s.W s.p).1.take c.X.length)}))
 else if a=5 then(if n≠0 then(2,s)else if 0<=s.q then(18,s)else if s.p≠s.L then(17,s)else
  (0,{s with q:=s.L,c2:=s.c2+1,c3:=s.c3+1,z:=rg (lossR c s.W (seg s.W (c.off 1) c.X.length)).1 0,pk:=max s.pk (s.lv+c.fk.n),W:=HT c s.W (seg s.W (c.off 1) c.X.length)}))
 else if a=9 then(if n≠0 then(2,s)else if s.q<1 then(18,s)else
  (0,{s with p:=s.q-1,q:=s.q-1,c3:=s.c3+1,lv:=s.lv-c.sl,W:=put (yj c s.W (wH c s.W (s.q-1).toNat).2.1) (c.off 1) ((wH c s.W (s.q-1).toNat).1.take c.X.length)}))
 else(2,s)
theorem Bg (h:c.Ok)(o:c.mode=3)(hi:i<c.ns.toNat):c.sl.toNat=c.fl.n+c.R.toNat/\c.sl=(c.fl.n:Int)+c.R/\ja c i+c.sl.toNat<=c.off 9/\c.off 8<=ja c i:=by
 have n:=h.num;have d:=n.sl;rw[zE o]at d;have b:=h.ns;have q:=n.R
 have e:(c.sl*c.ns).toNat=c.ns.toNat*c.sl.toNat:=by
  have:c.sl*c.ns=((c.ns.toNat*c.sl.toNat:Nat):Int):=by
   rw[Int.natCast_mul,aD b.1,aD (by omega),Int.mul_comm]
  rw[this];rfl
 have p:c.off 9=c.off 8+c.ns.toNat*c.sl.toNat:=by rw[Lr,e]
 have g:(i+1)*c.sl.toNat<=c.ns.toNat*c.sl.toNat:=Nat.mul_le_mul_right _ hi;rw[Nat.succ_mul]at g;unfold ja;omega
theorem Rz (h:c.Ok)(d:c.mode=3)(hi:i<c.ns.toNat){a0 a1 a4 a5 a6 a7 a8 a9 a10 a11 a12 a13 a14 a15 a16 a17:Int}{X T:Zd}{l k:List bx}{b0 b1 b2 b3:Int}:i6 (i:Int) a0 a1 c.sl a4 a5 a6 a7 a8 a9 a10 a11 a12 a13 a14 a15 a16 a17 X T l k c.P b0 b1 b2 b3 W=O (ja c i:Int):=by
 obtain⟨g,o,b,p⟩:=Bg h d hi;have q:=h.off9_le;have n:=h.num;have u:=n.words;have v:=n.R;unfold i6;rw[show ix 8 c.P.length=O 8 from bq (k:=8) (by rw[Cx.P_len];omega)];simp only[zG];rw[Cx.P_get (show 8<10 by omega)];simp only[zG];have e:(i:Int)*c.sl=((i*c.sl.toNat:Nat):Int):=by rw[Int.natCast_mul,aD (by omega)]
 unfold ja at b;rw[e,ad (n:=((i*c.sl.toNat:Nat):Int)) (by omega),Zi];unfold ja
 congr 1
theorem SQ (h:c.Ok)(g:c.mode=3)(hi:InvB c s):0<=s.lv/\s.lv+c.tp<=c.words/\c.words<=1048576/\0<=c.tp/\(iN s<c.ns->s.lv+c.sl<=c.words)/\(0<iN s->c.sl<=s.lv)/\c.ns=s.L:=by
 have n:=h.num;have y:=hi.lv;have z:=h.fit;have A:=n.fixed;have C:=h.ns;have u:=n.sl;rw[zE g]at u;have M:=n.R;have K:=n.Q;have nw:=n.words;have H:=h.base g;have F:=hi.L;have I:=hi.p;have J:=hi.q;have e:0<=iN s/\iN s<=c.ns:=by unfold iN;split<;>omega
 have D:1<=c.sl:=by omega
 have d:c.sl*iN s<=c.sl*c.ns:=bB e.2 (by omega);have E:0<=c.sl*iN s:=Int.mul_nonneg (by omega) e.1;have b:0<=c.tp:=by rw[n.tp];split<;>omega
 refine⟨by omega,by omega,by omega,b,λv=> ?_,λo=> ?_,by omega⟩
 .have d:c.sl*(iN s+1)<=c.sl*c.ns:=bB (by omega) (by omega);rw[Int.mul_add,Int.mul_one]at d;omega
 .have d:c.sl*1<=c.sl*iN s:=bB (by omega) (by omega);omega
theorem IM (h:c.Ok)(q:c.mode=3)(o:Wd c W)(hi:i<c.ns.toNat):
  seg W (ja c i) c.sl.toNat=vH c W i++zx c W i/\(vH c W i).length=c.fl.n/\(zx c W i).length=c.R.toNat/\(fill c.R (seg W (c.off 5) c.X.length)).length=c.R.toNat/\(wH c W i).1.length=c.R.toNat/\(wH c W i).2.1.length=c.R.toNat:=by
 obtain⟨u,v,y,z⟩:=Bg h q hi;obtain⟨F,H⟩:=o.tk h;have n:=h.num;have D:=n.R;have C:=n.xtR;have E:=n.n;have A:(seg W (c.off 5) c.X.length).length=c.X.length:=dp (o.in' h (i:=5) (by omega));have d:(vH c W i).length=c.fl.n:=dp (by omega);have e:(zx c W i).length=c.R.toNat:=dp (by omega);have g:(fill c.R (seg W (c.off 5) c.X.length)).length=c.R.toNat:=kw (by omega);obtain⟨_,r2,r3⟩:=pB h.pl e g (t:=vH c W i) (Nat.le_of_eq d.symm) (by omega);refine⟨?_,d,e,g,r2,r3⟩;apply List.ext_getElem?;intro j;rw[zy];by_cases p:j<c.fl.n
 .rw[Zg,List.getElem?_append_left (by omega)];unfold vH;rw[zy,zE p]
 .rw[List.getElem?_append_right (by omega),d];unfold zx;rw[zy];by_cases b:j<c.sl.toNat
  .rw[zE b,Zg]
   congr 1
   omega
  .rw[zF b,Zh]
theorem plain1 (h:c.Ok)(F:c.mode=3)(hi:InvB c s)(hc:De B s)(hB:B<=2305843009213693952){n:Int}:
  lq a n c.fixed c.tp c.sl c.ns c.mode c.R c.Q c.len c.words s.L s.p s.q s.c0 s.c1 s.c2 s.c3 s.z c.X c.T c.l c.k c.P c.tk s.lv s.pk c.words s.W=O (aA4 c (ET c a n s)):=by
 have H:=h.num;have C:=hi.w;have hL:=hi.L;have hp:=hi.p;have hq:=hi.q;have J:=hi.pk;have hns:=h.ns;have nR:=H.R;have n1:=H.xtR;have nx:=H.x;have nt:=H.t;have nn:=H.n;have nlen:=H.len;obtain⟨k0,k1,k2,k3⟩:=hc.in' hB;obtain⟨g1,g2,g3,g4,g5,g6,g7⟩:=SQ h F hi;have htp:=H.tp;rw[zE F]at htp;obtain⟨t1,t2⟩:=C.tk h;unfold lq ET;by_cases a8:a=8
 .subst a8;rw[zB (show(8:Int)=8 from rfl),zA (show¬(8:Int)=5 by decide)];simp only[zC,zG,aB,zD,reduceIte];by_cases d:n≠0
  .rw[zE d,zB d];rfl
  rw[zF d,zA d];simp only[zD,zG];by_cases b:0<=s.q
  .rw[zE b,zB b];rfl
  rw[zF b,zA b];simp only[zD,zG];by_cases e:s.p=s.L
  .rw[zE e,zB e];rfl
  rw[zF e,zA e];simp only[BEq.rfl,aB,zD,zG,ck];have v:iN s=s.p:=by unfold iN;rw[Zg]
  have y:s.p.toNat<c.ns.toNat:=by omega
  have M:s.p=((s.p.toNat:Nat):Int):=by omega
  obtain⟨s1,s2,K,s4⟩:=Bg h F y;obtain⟨f1,f2,f3⟩:=iq h C s.p;have w1:=xB h C s.p;have N:=g5 (by rw[v];omega);rw[py (by omega) g1 N (by omega)];simp only[zG];rw[aF6 h C];simp only[zG];have A:=Rz h F y (a0:=c.fixed) (a1:=c.tp) (a4:=c.ns) (a5:=c.mode) (a6:=c.R) (a7:=c.Q) (a8:=c.len) (a9:=c.words) (a10:=s.L) (a11:=s.p) (a12:=s.q) (a13:=s.c0) (a14:=IntKind.i64.wrap (s.c1+1)) (a15:=s.c2) (a16:=s.c3) (a17:=s.z) (X:=c.X) (T:=c.T) (l:=c.l) (k:=c.k) (b0:=c.tk) (b1:=s.lv+c.sl) (b2:=max s.pk (s.lv+c.sl)) (b3:=c.words) (W:=put s.W (c.off 2) (stepR c s.W s.p).1);rw[<-M]at A;rw[A];simp only[zG];have I:((stepR c s.W s.p).2.1++(stepR c s.W s.p).1).length=c.sl.toNat:=by rw[bD];omega
  rw[bp (by omega) (by omega)];obtain⟨u1,u2⟩:=w1.tk h;unfold Cx.tk;rw[rz (by rw[I];exact K) u1 u2];simp only[zG];rw[Zl,ci,show((c.X.length:Int)).toNat-0=c.X.length by omega,List.drop_zero,show((c.off 9:Nat):Int)=c.tk from rfl,put1 (ii:=1) (i:=1) h (w1.put h (by rw[I];exact K)) rfl (by omega) (by rw[cB,show c.sz 1=c.X.length from rfl];omega)];simp only[zG];rw[ad (n:=s.p+1) (by omega),ad (n:=s.c1+1) (by omega)];rfl
 rw[zA a8,zF a8];simp only[zD,zG];by_cases a5:a=5
 .subst a5;rw[zB (show(5:Int)=5 from rfl)];simp only[zC,aB,zD,reduceIte];by_cases d:n≠0
  .rw[zE d,zB d];rfl
  rw[zF d,zA d];simp only[zD,zG];by_cases b:0<=s.q
  .rw[zE b,zB b];rfl
  rw[zF b,zA b];simp only[zD,zG];by_cases e:s.p≠s.L
  .rw[zE e,zA e];rfl
  rw[zF e,zB (show s.p=s.L by omega)];simp only[BEq.rfl,aB,zD,zG,ck];rw[aM6 h C g1 J.1 (by omega) g3];simp only[zG];rw[ad (n:=s.c2+1) (by omega),ad (n:=s.c3+1) (by omega)];rfl
 rw[zA a5,zF a5];simp only[zD,Bool.not_false,zC];by_cases a9:a=9
 .subst a9;rw[zA (show¬((9:Int)≠9)from λk=>k rfl)];simp only[reduceIte];by_cases d:n≠0
  .rw[zE d,zB d];rfl
  rw[zF d,zA d];simp only[zD,zG];by_cases D:s.q<1
  .rw[zE D,zB D];rfl
  rw[zF D,zA D];simp only[zD,zG,ck];have v:iN s=s.q:=by unfold iN;rw[Zh]
  have y:(s.q-1).toNat<c.ns.toNat:=by omega
  have M:s.q-1=(((s.q-1).toNat:Nat):Int):=by omega
  obtain⟨s1,s2,K,s4⟩:=Bg h F y;obtain⟨b1,b2,b3,b4,b5,b6⟩:=IM h F C y;rw[ad (n:=s.q-1) (by omega)];have A:=Rz h F y (a0:=c.fixed) (a1:=c.tp) (a4:=c.ns) (a5:=c.mode) (a6:=c.R) (a7:=c.Q) (a8:=c.len) (a9:=c.words) (a10:=s.L) (a11:=s.q-1) (a12:=s.q-1) (a13:=s.c0) (a14:=s.c1) (a15:=s.c2) (a16:=s.c3) (a17:=s.z) (X:=c.X) (T:=c.T) (l:=c.l) (k:=c.k) (b0:=c.tk) (b1:=s.lv) (b2:=s.pk) (b3:=c.words) (W:=s.W);rw[<-M]at A;rw[A];simp only[zG]
  have hrd:de (ja c (s.q-1).toNat:Int) c.sl c.tk s.W=O (0,vH c s.W (s.q-1).toNat++zx c s.W (s.q-1).toNat):=by
   have:=yi (W:=s.W) (o:=ja c (s.q-1).toNat) (n:=c.sl.toNat) K t1 t2;rw[aD (by omega),b1]at this;exact this
  rw[hrd];simp only[zG];generalize (s.q-1).toNat=i at*;have E:(vH c s.W i++zx c s.W i).length=c.fl.n+c.R.toNat:=by rw[bD];omega
  have hwr:IntKind.i64.wrap (((vH c s.W i++zx c s.W i).length:Int)-c.R)=(c.fl.n:Int):=by rw[E,Zi];omega
  simp only[hwr];rw[Zl,ci,Zl,ci,Qr (ii:=5) (i:=5) h C rfl (by omega)];simp only[zG];have l5:(seg s.W (c.off 5) c.X.length).length=c.X.length:=dp (C.in' h (i:=5) (by omega));rw[show c.sz 5=c.X.length from rfl,J7 nR (by omega)];simp only[zG];rw[EH h.pl,h.pl.writes];simp only[zG];rw[zA (show¬((0:Int)≠0)by simp),zD];rw[zA (show¬((((((vH c s.W i++zx c s.W i).length:Int)).toNat-((c.fl.n:Int)).toNat:Nat):Int)≠c.R)by omega),zD,zA (show¬(((fill c.R (seg s.W (c.off 5) c.X.length)).length:Int)≠c.R)by omega),zD,zA (show¬(((((c.fl.n:Int)).toNat-0:Nat):Int)<(c.fl.n:Int))by omega),zD];obtain⟨z0,z1,z2,z3,z4,z5,z6,z7,hz⟩:=Ta h.pl (e0:=0) (e1:=0) (t:=vH c s.W i) (r:=zx c s.W i) (a:=fill c.R (seg s.W (c.off 5) c.X.length)) (w:=vH c s.W i++zx c s.W i) b3 b4 (Nat.le_of_eq b2.symm) (by omega) (by rw[E,b2])
  rw[hz];simp only[zG];have eK:jr c.fl (zx c s.W i) (fill c.R (seg s.W (c.off 5) c.X.length)) (vH c s.W i)=wH c s.W i:=rfl;rw[eK];generalize wH c s.W i=u at*;obtain⟨v1,v2,v3⟩:=mR h (a:=u.2.1) C (by omega) (by omega);rw[put1 (ii:=4) (i:=4) h C rfl (by omega) (by rw[show c.sz 4=max c.R.toNat c.Q.toNat from rfl];omega)];simp only[zG];rw[Zl,ci,show((c.X.length:Int)).toNat-0=c.X.length by omega,List.drop_zero,put1 (ii:=5) (i:=5) h v1 rfl (by omega) (by rw[cB,show c.sz 5=c.X.length from rfl];omega)];simp only[zG];rw[Qr (ii:=6) (i:=6) h v2 rfl (by omega)];simp only[zG];rw[show c.sz 6=c.T.length from rfl];have hg:(seg (put (put s.W (c.off 4) u.2.1) (c.off 5) (u.2.1.take c.X.length)) (c.off 6) c.T.length).length=c.T.length:=dp (v2.in' h (i:=6) (by omega));rw[Gx (f:=rb c.X u.2.1 _) (X:=c.X) (a:=u.2.1) (g:=seg (put (put s.W (c.off 4) u.2.1) (c.off 5) (u.2.1.take c.X.length)) (c.off 6) c.T.length) (by omega) (by omega) (by omega) (λs=>rfl)]
  simp only[zG];rw[put1 (ii:=6) (i:=6) h v2 rfl (by omega) (by rw[yh,hg];exact Nat.le_refl _)];simp only[zG];have Z:(vH c s.W i++u.1).length=c.fl.n+c.R.toNat:=by rw[bD];omega
  rw[ad (n:=(c.fl.n:Int)+(c.X.length:Int)) (by omega),Zl,ci,show((c.fl.n:Int)+(c.X.length:Int)).toNat-((c.fl.n:Int)).toNat=c.X.length by omega,Int.toNat_natCast];have V:(vH c s.W i++u.1).drop c.fl.n=u.1:=List.drop_left' b2;rw[V];have eB:put (put (put s.W (c.off 4) u.2.1) (c.off 5) (u.2.1.take c.X.length)) (c.off 6) (yg c.X.length (seg (put (put s.W (c.off 4) u.2.1) (c.off 5) (u.2.1.take c.X.length)) (c.off 6) c.T.length) u.2.1)=yj c s.W u.2.1:=rfl;rw[eB,put1 (ii:=1) (i:=1) h v3 rfl (by omega) (by rw[cB,show c.sz 1=c.X.length from rfl];omega)];simp only[zG];rw[ut (by omega) (g6 (by rw[v];omega)) J.1 (by omega)];simp only[zG];rw[ad (n:=s.c3+1) (by omega)];rfl
 rw[zF a9,zB a9];by_cases d:n≠0
 .rw[zB d];rfl
 .rw[zA d];rfl
theorem do1 (h:c.Ok)(b:c.mode=3)(hi:InvB c s)(e:De B s)(d:B<=2305843009213693952){n:Int}:
  oE a n c.fixed c.tp c.sl c.ns c.mode c.R c.Q c.len c.words s.L s.p s.q s.c0 s.c1 s.c2 s.c3 s.z c.X c.T c.l c.k c.P c.tk s.lv s.pk c.words s.W=O (aA4 c (ET c a n s)):=by
 unfold oE fK;simp only[zG];rw[zB b,zC,plain1 h b hi e d];rfl
end
end
section
open Int renaming le_refl -> aB, mul_comm -> bB
open List renaming getElem?_replicate -> cB
open Nat renaming le_refl -> aD, zero_add -> bD
theorem Wx {m:Int}{x t:Nat}{R:Int}{l:List bx}{Q:Int}{k:List bx}{n b:Int}(o:OpsOk l)(g:OpsOk k)(h:(fJ m x t R l Q k n b).2.2.2.2=0):
  pu m x t R l Q k n b=0/\∃e,fJ m x t R l Q k n b=(vw x t R Q,tv m l k,tu m x R l,e,0)/\(0<=e/\e<=1048576)/\vw x t R Q+tv m l k+tu m x R l*e<=b/\(m=3->e=n):=by
 unfold fJ at h⊢;by_cases d:pu m x t R l Q k n b≠0
 .rw[zE d]at h;exact(d h).elim
 rw[zF d]at h⊢;have d:pu m x t R l Q k n b=0:=by omega
 have s:=Pq o g d;have f:=FR o g d;have y:=f.mode;have z:=f.len;have A:=f.bud;have C:=s.xs;have D:=s.ts;have E:=s.r;have F:=s.r';have H:=s.tp;have I:=s.sl;have v:0<=vw x t R Q/\vw x t R Q<=1000:=by unfold vw;omega
 split at h
 .cases h
 rename_i c;rw[zF c];refine⟨d,_,rfl, ?_, ?_,λp=>zE p⟩
 .split
  .omega
  .rename_i c3;unfold least at c;rw[zF c3]at c;have u:(b-vw x t R Q-tv m l k) / tu m x R l<=b-vw x t R Q-tv m l k:=Int.ediv_le_self _ (by omega);have q:0<=(b-vw x t R Q-tv m l k) / tu m x R l:=Int.ediv_nonneg (by omega) (by omega);omega
 .unfold least at c;split
  .rename_i c3;rw[zE c3,bB]at c;omega
  .rename_i c3;rw[zF c3]at c;have:=Int.mul_ediv_self_le (x:=b-vw x t R Q-tv m l k) (k:=tu m x R l) (by omega);omega
section
variable {c:Cx}
theorem Cx.Ok.plan (h:c.Ok):fJ c.mode c.X.length c.T.length c.R c.l c.Q c.k c.len c.words=(c.fixed,c.tp,c.sl,c.ns,0)->gg c.mode c.X c.T c.R c.l c.Q c.k c.len c.words=O (c.fixed,c.tp,c.sl,c.ns,0):=λe=>by
 rw[A7 h.hl h.hk,e]
theorem ap4 (h:c.Ok): ∀i,i<10->pre [((c.T.length:Nat):Int),((c.X.length:Nat):Int),c.R,c.Q,max c.R c.Q,((c.X.length:Nat):Int),((c.T.length:Nat):Int),c.tp,c.sl*c.ns] i=(c.off i:Int):=by
 have n:=h.num;have o:=n.R;have g:=n.Q;have p:=n.mul;have d:0<=c.tp:=by rw[n.tp];split<;>omega
 have b: ∀i,i<9->([((c.T.length:Nat):Int),((c.X.length:Nat):Int),c.R,c.Q,max c.R c.Q,((c.X.length:Nat):Int),((c.T.length:Nat):Int),c.tp,c.sl*c.ns]:Zd).getD i 0=(c.sz i:Int):=λi hi=>by
  rcases(show i=0∨i=1∨i=2∨i=3∨i=4∨i=5∨i=6∨i=7∨i=8 by omega)with rfl|rfl|rfl|rfl|rfl|rfl|rfl|rfl|rfl
  .rfl
  .rfl
  .show c.R=(c.R.toNat:Int);omega
  .show c.Q=(c.Q.toNat:Int);omega
  .show max c.R c.Q=((max c.R.toNat c.Q.toNat:Nat):Int);omega
  .rfl
  .rfl
  .show c.tp=(c.tp.toNat:Int);omega
  .show c.sl*c.ns=((c.sl*c.ns).toNat:Int);omega
 intro i;induction i with
 |zero=>intro _;rfl
 |succ i e=>
  intro hi;simp only[pre];rw[e (by omega),b i (by omega)];show(c.off i:Int)+(c.sz i:Int)=((c.off i+c.sz i:Nat):Int);omega
theorem S9 (h:c.Ok)(e:fJ c.mode c.X.length c.T.length c.R c.l c.Q c.k c.len c.words=(c.fixed,c.tp,c.sl,c.ns,0)):uF c.mode c.X c.T c.R c.l c.Q c.k c.len c.words=O (0,c.P):=by
 have s:=Pq h.hl h.hk h.hc;have d:SFacts c.X.length c.T.length c.R c.Q c.tp c.sl:=by rw[h.tp,h.sl];exact s
 unfold uF;rw[h.plan e];simp only[zG];rw[zA (by simp),zD,Lu h.hl h.hk h.hc];simp only[zG];have b:=Tk (n:=c.ns) d h.ns;rw[<-h.tp,<-h.sl,Q2 b];simp only[zG]
 congr 2
 unfold Cx.P;apply List.map_congr_left;intro i hi;exact ap4 h i (List.mem_range.1 hi)
theorem M0 {l:List bx}(h:l.length<=4096):fi l=O l:=by
 unfold fi;rw[bp (by omega) (by omega)]
theorem vq (h:l.length<=1048576):ak l=O l:=by
 unfold ak;rw[bp (by omega) (by omega)]
theorem G8 (h:c.Ok)(e:fJ c.mode c.X.length c.T.length c.R c.l c.Q c.k c.len c.words=(c.fixed,c.tp,c.sl,c.ns,0)):
  qj c.mode c.X c.T c.R c.l c.Q c.k c.len c.words=O (.inr (c.fixed,c.tp,c.sl,c.ns,c.mode,c.R,c.Q,c.len,c.words,c.len,c.X,c.T,c.l,c.k,c.P)):=by
 have n:=h.num;have d:=n.x;have b:=n.t;unfold qj;rw[h.plan e];simp only[zG];rw[zA (by simp),zD,M0 h.hl.len,M0 h.hk.len,vq (by omega),vq (by omega)];simp only[zG];rw[S9 h e];rfl
def O3 (c:Cx)(W:Zd):Zd:=put (put W (c.off 0) c.T) (c.off 1) c.X
def new1 (c:Cx):Dy:=⟨c.len,0,-1,0,0,0,0,0,c.fixed,c.fixed,O3 c (cj c.words.toNat)⟩
def new2 (c:Cx):Dy:=⟨c.len,0,-1,0,0,0,0,0,c.fixed,c.fixed,O3 c (put (cj c.words.toNat) (c.off 8) (cj (c.sl*c.ns).toNat))⟩
theorem Bj :Wd c (cj c.words.toNat):=cd _
theorem vx (h:c.Ok):0<=c.fixed/\c.fixed<=c.words/\1<=c.fixed/\c.fixed=(c.off 7:Int):=by
 have n:=h.num;have o:=n.R;have g:=n.Q;have d:=n.fixed;have p:=n.mul;have e:=h.fit;have b:0<=c.tp:=by rw[n.tp];split<;>omega
 refine⟨by omega,by omega,by omega, ?_⟩;rw[aM2,d];omega
theorem GY (h:c.Ok)(d:Wd c W):Wd c (put W (c.off 0) c.T)/\Wd c (O3 c W)/\dy c W (O3 c W):=by
 have q:=ga (c:=c) (i:=0) (j:=9) (by omega);have u:=ga (c:=c) (i:=1) (j:=9) (by omega);have g:c.sz 0=c.T.length:=rfl;have p:c.sz 1=c.X.length:=rfl;have b:=d.put h (w:=c.T) (o:=c.off 0) (by omega);have e:=b.put h (w:=c.X) (o:=c.off 1) (by omega);exact⟨b,e,dy.put h (dy.put h (dy.refl W) d (i:=0) (by omega) (Nat.le_of_eq g.symm)) b (i:=1) (by omega) (Nat.le_of_eq p.symm)⟩
theorem MT (h:c.Ok):uT c.words=O (cj c.words.toNat):=by
 have f:=vx h;have n:=h.num;have nw:=n.words;unfold uT qg;rw[Ze,zD,Ze,zD];simp only[zG];rw[zA (by simp),zD,VT (by omega)];rfl
theorem Nt (h:c.Ok):yZ c.words=O (0,0,c.words):=by
 have n:=h.num;have nw:=n.words;unfold yZ oR;rw[zA (show¬(0:Int)<0 by omega),zA (show¬c.words<0 by omega)];rfl
theorem EZ {o n:Nat}(h:o+n<=W.length)(b:W.length<=1048576):cx (n:Int) (o:Int) W=O ((o:Int),0,((o+n:Nat):Int)):=by
 unfold cx qQ;rw[Ze,zD];simp only[zG];rw[ad (n:=(W.length:Int)-o) (by omega),Ze,zD,ad (n:=(o:Int)+n) (by omega)]
 congr 2
theorem aT9 (h:c.Ok)(u:c.mode=3)(e:fJ c.mode c.X.length c.T.length c.R c.l c.Q c.k c.len c.words=(c.fixed,c.tp,c.sl,c.ns,0)):
  re c.mode c.X c.T c.R c.l c.Q c.k c.len c.words=O (.inr (.inl (c.fixed,c.tp,c.sl,c.ns,c.mode,c.R,c.Q,c.len,c.words,c.len,c.X,c.T,c.l,c.k,c.P,c.tk,c.fixed,c.fixed,c.words,(new1 c).W))):=by
 have f:=vx h;have n:=h.num;have nw:=n.words;have z:=n.mul;have y:=h.off9_le;have q:c.off 9=c.off 8+(c.sl*c.ns).toNat:=Lr;have d:(cj c.words.toNat).length=c.words.toNat:=cd _;obtain⟨v,A,C⟩:=GY h (Bj (c:=c));unfold re;rw[G8 h e];simp only[zG,ck];rw[MT h,Nt h];simp only[zG];rw[py (by omega) (by omega) (by omega) (by omega)];simp only[zG];rw[show ix 8 c.P.length=O 8 from bq (k:=8) (by rw[Cx.P_len];omega)];simp only[zG];rw[Cx.P_get (show 8<10 by omega)];simp only[zG];rw[show cx (c.off 8:Int) 0 (cj c.words.toNat)=O (((0:Nat):Int),0,((0+c.off 8:Nat):Int))from EZ (o:=0) (n:=c.off 8) (by rw[bD,d];omega) (by omega)];unfold fK;simp only[zG];rw[zB u,zC,bB,ad (n:=c.sl*c.ns) (by omega),show c.sl*c.ns=((c.sl*c.ns).toNat:Int)by omega,EZ (by omega) (by omega)]
 simp only[zG,iw];have b:((0+c.off 8+(c.sl*c.ns).toNat:Nat):Int)=c.tk:=by unfold Cx.tk;omega
 rw[b,put1 (ii:=0) (i:=0) h Bj rfl (by omega) (aD _)];simp only[zG];rw[put1 (ii:=1) (i:=1) h v rfl (by omega) (aD _)];simp only[zG];have g:(0:Int)+c.fixed=c.fixed:=by omega
 have p:max (0:Int) c.fixed=c.fixed:=by omega
 rw[g,p];rfl
theorem aI7 (h:c.Ok)(q:c.mode≠3)(e:fJ c.mode c.X.length c.T.length c.R c.l c.Q c.k c.len c.words=(c.fixed,c.tp,c.sl,c.ns,0)):
  re c.mode c.X c.T c.R c.l c.Q c.k c.len c.words=O (.inr (.inr (c.fixed,c.tp,c.sl,c.ns,c.mode,c.R,c.Q,c.len,c.words,c.len,c.X,c.T,c.l,c.k,c.P,c.tk,(c.off 8:Int),c.ns,(c.X.length:Int),c.fixed,c.fixed,c.words,(new2 c).W))):=by
 have f:=vx h;have n:=h.num;have nw:=n.words;have D:=n.mul;have E:=n.x;have z:=h.ns;have C:=h.off9_le;have y:c.off 9=c.off 8+(c.sl*c.ns).toNat:=Lr;have p:(cj c.words.toNat).length=c.words.toNat:=cd _;have b:=n.sl;rw[zF q]at b;have w0:Wd c (put (cj c.words.toNat) (c.off 8) (cj (c.sl*c.ns).toNat)):=(Bj (c:=c)).put h (by rw[cd];omega);obtain⟨A,F,H⟩:=GY h w0;unfold re;rw[G8 h e];simp only[zG,ck];rw[MT h,Nt h];simp only[zG];rw[py (by omega) (by omega) (by omega) (by omega)];simp only[zG];rw[show ix 8 c.P.length=O 8 from bq (k:=8) (by rw[Cx.P_len];omega)];simp only[zG];rw[Cx.P_get (show 8<10 by omega)];simp only[zG];rw[show cx (c.off 8:Int) 0 (cj c.words.toNat)=O (((0:Nat):Int),0,((0+c.off 8:Nat):Int))from EZ (o:=0) (n:=c.off 8) (by rw[bD,p];omega) (by omega)];unfold fK
 simp only[zG];rw[zA q,zD];unfold Dj lD eg;rw[zB (show 0<=c.ns by omega),zB (show c.ns<=1048576 by omega),zB (show 1<=(c.X.length:Int)by omega),zB (show(c.X.length:Int)<=64 by omega)];simp only[zC,zD,Bool.not_true,zG];rw[ad (n:=(c.X.length:Int)+1) (by omega),<-b,bB c.ns,ad (n:=c.sl*c.ns) (by omega)];have d:c.sl*c.ns=(((c.sl*c.ns).toNat:Nat):Int):=by omega
 rw[show cx (c.sl*c.ns) ((0+c.off 8:Nat):Int) (cj c.words.toNat)=O (((0+c.off 8:Nat):Int),0,((0+c.off 8+(c.sl*c.ns).toNat:Nat):Int))from by
  conv=>lhs;rw[d]
  exact EZ (by omega) (by omega)]
 simp only[zG];rw[zA (by simp),zD,VT (by omega),show List.replicate (c.sl*c.ns).toNat (0:Int)=cj (c.sl*c.ns).toNat from rfl,rz (by rw[cd];exact aD _) (by omega) (by omega),bD];simp only[zG,ck];have g:((c.off 8+(c.sl*c.ns).toNat:Nat):Int)=c.tk:=by unfold Cx.tk;omega
 rw[g,Ii (ii:=0) (i:=0) h w0 rfl (by omega) (aD _)];simp only[zG];rw[Ii (ii:=1) (i:=1) h A rfl (by omega) (aD _)];simp only[zG];have u:(0:Int)+c.fixed=c.fixed:=by omega
 have v:max (0:Int) c.fixed=c.fixed:=by omega
 rw[u,v];rfl
theorem Yq (h:c.Ok)(d:c.mode=3):InvB c (new1 c):=by
 have f:=vx h;have n:=h.num;have e:=n.len;refine⟨(GY h Bj).2.1,rfl,⟨aB _,by show 0<=c.len;omega⟩,⟨by show(-1:Int)<= -1;omega,by show(-1:Int)<=c.len;omega⟩,λb=> ?_, ?_,⟨aB _,f.2.1⟩⟩
 .have b:(0:Int)<= -1:=b;omega
 .show c.fixed=c.fixed+c.sl*0;omega
theorem GX (h:c.Ok)(e:c.mode≠3)(d:k<c.ns.toNat):gX c (new2 c).W k=0:=by
 have o:=h.off9_le;have nw:=h.num.words;have b:c.off 9=c.off 8+(c.sl*c.ns).toNat:=Lr;have w0:Wd c (put (cj c.words.toNat) (c.off 8) (cj (c.sl*c.ns).toNat)):=(Bj (c:=c)).put h (by rw[cd];omega);obtain⟨q,u,g⟩:=GY h w0;show gX c (O3 c _) k=0;rw[g.tag];obtain⟨p,_,_⟩:=qA h e d;unfold gX rg;rw[Int.toNat_natCast,List.getD_eq_getElem?_getD,G9 (by rw[cd,cd];omega)];unfold cj;split
 .rw[cB];split<;>rfl
 .rw[cB];split<;>rfl
theorem Yr (h:c.Ok)(d:c.mode≠3):Inv c (new2 c):=by
 have f:=vx h;have n:=h.num;have p:=n.len;have nw:=n.words;have o:=h.off9_le;have e:c.off 9=c.off 8+(c.sl*c.ns).toNat:=Lr;have w0:Wd c (put (cj c.words.toNat) (c.off 8) (cj (c.sl*c.ns).toNat)):=(Bj (c:=c)).put h (by rw[cd];omega)
 have g:iI c (new2 c).W=0:=by
  unfold iI;rw[List.countP_eq_zero];intro k b;rw[GX h d (List.mem_range.1 b)];decide
 refine⟨(GY h w0).2.1,⟨by show 0<=c.len;omega,by show c.len<=65535;omega⟩,⟨aB _,by show 0<=c.len;omega⟩,⟨by show(-1:Int)<= -1;omega,by show(-1:Int)<=c.len;omega⟩,λk b=> ?_, ?_,⟨aB _,f.2.1⟩⟩
 .rw[GX h d b];exact⟨aB _,by show(0:Int)<=c.len+1;omega⟩
 .rw[g];show c.fixed=c.fixed+c.sl*0;omega
end
end
section
open Go.IntKind renaming wrap -> zH, i64 -> zI, u64 -> zJ
open Bool renaming not_true -> aB
open Int renaming mul_comm -> aD, mul_le_mul_of_nonneg_left -> bB
theorem dne {x:Int}{i:Decidable (x≠x)}: @Zc (x≠x) i=Zb:=zA λk=>k rfl
section
variable {c:Cx}
def Rq (c:Cx)(s:Dy):Int×Int×Int×Int×Int×Int×Int×Int×Int×Int×Int×Int×Int×Int×Int×Int:=
 (zH zJ c.mode,zH zJ s.L,zH zJ s.p,zH zJ (zH zI (s.q+1)),zH zJ c.ns,zH zJ s.c0,zH zJ s.c1,zH zJ s.c2,zH zJ s.c3,zH zJ s.lv,zH zJ s.pk,s.z,0,0,0,0)
theorem W5 (s:Dy):jK c.fixed c.tp c.sl c.ns c.mode c.R c.Q c.len c.words s.L s.p s.q s.c0 s.c1 s.c2 s.c3 s.z c.X c.T c.l c.k c.P c.tk s.lv s.pk c.words s.W=O (Rq c s):=by
 unfold jK pV mb kl kn;simp only[zG];have b:aq (pQ c.ns c.mode s.L s.p s.q s.c0 s.c1 s.c2 s.c3 s.lv s.pk) di ((0,0,0,0,0,0,0,0,0,0,0,0,0,0,0,0,0))=O (zH zJ c.mode,zH zJ s.L,zH zJ s.p,zH zJ (zH zI (s.q+1)),zH zJ c.ns,zH zJ s.c0,zH zJ s.c1,zH zJ s.c2,zH zJ s.c3,zH zJ s.lv,zH zJ s.pk,0,0,0,0,0):=by kernel_rfl
 rw[b];rfl
theorem PS (s:Dy){sb sn sx:Int}:gm c.fixed c.tp c.sl c.ns c.mode c.R c.Q c.len c.words s.L s.p s.q s.c0 s.c1 s.c2 s.c3 s.z c.X c.T c.l c.k c.P c.tk sb sn sx s.lv s.pk c.words s.W=O (Rq c s):=by
 unfold gm oh iz kl kn;simp only[zG];have b:aq (oF c.ns c.mode s.L s.p s.q s.c0 s.c1 s.c2 s.c3 s.lv s.pk) di ((0,0,0,0,0,0,0,0,0,0,0,0,0,0,0,0,0))=O (zH zJ c.mode,zH zJ s.L,zH zJ s.p,zH zJ (zH zI (s.q+1)),zH zJ c.ns,zH zJ s.c0,zH zJ s.c1,zH zJ s.c2,zH zJ s.c3,zH zJ s.lv,zH zJ s.pk,0,0,0,0,0):=by kernel_rfl
 rw[b];rfl
theorem WT (g:l.length<1000000):aq (gN l) di (0,0)=O ((l.countP λt=>Zc (0<=t):Nat):Int):=by
 have h: ∀i,((l.take i).countP λt=>Zc (0<=t))<=l.length:=λi=>Nat.le_trans List.countP_le_length (by simp;omega)
 have b:aq (gN l) di (0,(((l.take 0).countP λt=>Zc (0<=t):Nat):Int))=O (((l.take l.length).countP λt=>Zc (0<=t):Nat):Int):=by
  refine fj (n:=l.length) (λi=>(((l.take i).countP λt=>Zc (0<=t):Nat):Int)) (by omega) (λi hi=> ?_) ?_
  .have e:=h i;unfold gN;simp only;rw[zB (show(i:Int)<(l.length:Int)by omega),zC,bq hi];simp only[zG];rw[List.getElem?_eq_getElem hi];simp only[zG];rw[ad (n:=(i:Int)+1) (by omega),List.take_succ_eq_append_getElem hi,List.countP_append,ag];by_cases d:0<=l[i]
   .rw[zE d,Zi];simp[d]
   .rw[zF d];simp[d]
  .unfold gN;simp only;rw[Ze,zD]
 rw[List.take_length]at b;exact b
theorem WU (W:Zd):((kR c W).countP λt=>Zc (0<=t))=iI c W:=by
 unfold kR iI;rw[List.countP_map];apply List.countP_congr;intro k _;simp only[Function.comp,decide_eq_true_eq];omega
theorem Pt (h:c.Ok)(d:c.mode≠3)(p:Wd c W)(u: ∀k,k<c.ns.toNat->0<=gX c W k/\gX c W k<=65536):qK (c.off 8:Int) c.ns (c.X.length:Int) c.tk W=O (.inr ((c.off 8:Int),c.ns,(c.X.length:Int))):=by
 have n:=h.num;have E:=n.x;have z:=h.ns;have y:=n.mul;have nw:=n.words;have b:=n.sl;rw[zF d]at b;have D:=h.off9_le;have q:c.off 9=c.off 8+(c.sl*c.ns).toNat:=Lr;obtain⟨A,C⟩:=p.tk h;unfold qK lD eg;rw[zB (show 0<=c.ns by omega),zB (show c.ns<=1048576 by omega),zB (show 1<=(c.X.length:Int)by omega),zB (show(c.X.length:Int)<=64 by omega)];simp only[zC,zD,aB,zG];rw[ad (n:=(c.X.length:Int)+1) (by omega),<-b,aD c.ns,ad (n:=c.sl*c.ns) (by omega)]
 have e:de (c.off 8:Int) (c.sl*c.ns) c.tk W=O (0,seg W (c.off 8) (c.sl*c.ns).toNat):=by
  have:=yi (W:=W) (o:=c.off 8) (n:=(c.sl*c.ns).toNat) (tk:=c.off 9) (by omega) A C;rw[Int.toNat_of_nonneg y]at this;exact this
 rw[e];simp only[zG];rw[zA (by simp),zD]
 have g:aq (nv (c.off 8:Int) c.ns (c.X.length:Int) c.tk W) di 0=O (.inr ()):=by
  refine pO (n:=c.ns.toNat) (by omega) (λi hi=> ?_) ?_
  .have v:=u i hi;unfold nv;rw[Zf,zC,yz h d hi];simp only[zG];rw[Hk h d p hi];simp only[zG];rw[Ze,zD,Zi];rfl
  .unfold nv;rw[Ze,zD]
 rw[g];rfl
def Ue (c:Cx)(s:Dy):Int×Int×Int×Int×Int×Int×Int×Int×Int×Int×Int×Int×Int×Int×Int×Int×Int×(Zd)×(Zd)×(List (Int×Int×Int×Int×Int))×(List (Int×Int×Int×Int×Int))×(Zd)×Int×Int×Int×Int×Zd:=
 (c.fixed,c.tp,c.sl,c.ns,c.mode,c.R,c.Q,c.len,c.words,s.L,s.p,s.q,s.c0,s.c1,s.c2,s.c3,s.z,c.X,c.T,c.l,c.k,c.P,c.tk,s.lv,s.pk,c.words,s.W)
def M7 (c:Cx)(s:Dy):Int×Int×Int×Int×Int×Int×Int×Int×Int×Int×Int×Int×Int×Int×Int×Int×Int×(Zd)×(Zd)×(List (Int×Int×Int×Int×Int))×(List (Int×Int×Int×Int×Int))×(Zd)×Int×Int×Int×Int×Int×Int×Int×Zd:=
 (c.fixed,c.tp,c.sl,c.ns,c.mode,c.R,c.Q,c.len,c.words,s.L,s.p,s.q,s.c0,s.c1,s.c2,s.c3,s.z,c.X,c.T,c.l,c.k,c.P,c.tk,(c.off 8:Int),c.ns,(c.X.length:Int),s.lv,s.pk,c.words,s.W)
theorem wIU {n:Int}(h:0<=n/\n<=9223372036854775807):zH zI (zH zJ n)=n:=by
 rw[Zk,Zi]
theorem KA (h:c.Ok)(b:Wd c W):wL W=O (.inr W):=by
 have f:=vx h;have nw:=h.num.words;unfold Wd at b;unfold wL qg;rw[Ze,zD,Ze,zD];simp only[zG];rw[zA (by simp),zD,vq (by omega)];rfl
theorem QJ {b lv pk:Int}(h:0<=lv)(d:lv<=pk)(e:pk<=b):oR b lv pk=O (.inr (lv,pk,b)):=by
 unfold oR;rw[Ze,zD,Ze,zD,Ze,zD]
def Gj (c:Cx)(s:Dy):Prop:=c.mode≠2->s.L=c.len
theorem ay3 (h:c.Ok)(u:c.mode≠3)(e:fJ c.mode c.X.length c.T.length c.R c.l c.Q c.k c.len c.words=(c.fixed,c.tp,c.sl,c.ns,0))(hi:Inv c s)(V:Gj c s)(hc:De B s)(N:B<=2305843009213693952):
  hC c.mode c.X c.T c.R c.l c.Q c.k c.len c.words s.W (zH zJ c.mode) (zH zJ s.L) (zH zJ s.p) (zH zJ (zH zI (s.q+1))) (zH zJ c.ns) (zH zJ s.c0) (zH zJ s.c1) (zH zJ s.c2) (zH zJ s.c3) (zH zJ s.lv) (zH zJ s.pk) s.z 0 0 0 0=O (.inr (.inr (M7 c s))):=by
 have n:=h.num;have f:=vx h;have nw:=n.words;have nns:=h.ns;have nm:=n.mul;have I:=n.len;have F:=n.mode;have v:=hi.w;have hp:=hi.p;have hq:=hi.q;have D:=hi.L;have y:=hi.pk;obtain⟨k0,k1,k2,k3⟩:=hc.in' N;obtain⟨J,g2,g3,g4⟩:=GU h hi;have h9:=h.off9_le;have M:c.off 9=c.off 8+(c.sl*c.ns).toNat:=Lr;obtain⟨t1,t2⟩:=v.tk h;have Z:s.W.length=c.words.toNat:=v;unfold hC;rw[G8 h e];simp only[zG,ck];rw[bl (n:=((s.W.length:Nat):Int)) (by omega),bl (n:=c.words) (by omega),zA (show¬(((s.W.length:Nat):Int)≠c.words)by omega),zD,dne,zD,dne,zD]
 have g:ik (zH zJ s.L) c.fixed c.tp c.sl c.ns c.mode c.R c.Q c.len c.words c.len 0 (-1) 0 0 0 0 0 c.X c.T c.l c.k c.P=O Za:=by
  unfold ik;rw[ag];by_cases C:c.mode=2
  .rw[zE C,Zk,Zf]
  .rw[zF C,V C,zB rfl]
 rw[g];simp only[zG,aB,zD];have E:zH zI (s.q+1)=s.q+1:=ad (by omega);rw[E,bl (n:=s.L) (by omega),bl (n:=s.p) (by omega),bl (n:=s.q+1) (by omega),bl (n:=s.L+1) (by omega),bl (n:=s.lv) (by omega),bl (n:=s.pk) (by omega),zA (show¬s.L<s.p by omega),zD,zA (show¬s.L+1<s.q+1 by omega),zD,zA (show¬c.words<s.lv by omega),zD,zA (show¬c.words<s.pk by omega),zD,KA h v];simp only[zG,ck];rw[show ix 8 c.P.length=O 8 from bq (k:=8) (by rw[Cx.P_len];omega)];simp only[zG];rw[Cx.P_get (show 8<10 by omega)];simp only[zG]
 have A:cx (zH zI ((c.off 8:Int)+zH zI (c.ns*c.sl))) 0 s.W=O (0,0,c.tk):=by
  rw[aD,ad (n:=c.sl*c.ns) (by omega),Zi,show(c.off 8:Int)+c.sl*c.ns=((c.off 9:Nat):Int)by omega];have:=EZ (o:=0) (n:=c.off 9) (W:=s.W) (by omega) (by omega);rw[Nat.zero_add]at this;exact this
 rw[A];simp only[zG];rw[ad (n:=s.L) (by omega),ad (n:=s.p) (by omega),ad (n:=s.q+1) (by omega),ad (n:=s.q+1-1) (by omega),show s.q+1-1=s.q by omega];unfold jf fc;simp only[zG];rw[zA u,zD,show ix 8 c.P.length=O 8 from bq (k:=8) (by rw[Cx.P_len];omega)];simp only[zG];rw[Cx.P_get (show 8<10 by omega)];simp only[zG];have b: ∀k,k<c.ns.toNat->0<=gX c s.W k/\gX c s.W k<=65536:=λk hk=>by have:=hi.tag k hk;omega
 rw[Pt h u v b];simp only[zG,ck];unfold oi
 have d:(kR c s.W).length<1000000:=by
  rw[nU];rcases Nat.eq_zero_or_pos c.ns.toNat with h0|h0
  .omega
  .have:=(qA h u h0).2.2;omega
 rw[Hl h u v b];simp only[zG];rw[B8 D hp hq d (Hm hi.tag)];simp only[zG,ck,aB,zD];unfold ol kU;simp only[zG];rw[zA u,Bool.not_false,zC];unfold oX;rw[Hl h u v b];simp only[zG];rw[WT d,WU];simp only[zG];have hlv:=hi.lv;have hul:=U5 c s.W;have H:1<=c.sl:=by have:=n.sl;rw[zF u]at this;omega
 have h8:c.sl*(iI c s.W:Int)<=c.sl*c.ns:=bB (by omega) (by omega);have K:0<=c.sl*(iI c s.W:Int):=Int.mul_nonneg (by omega) (by omega);rw[aD ((iI c s.W:Nat):Int),ad (n:=c.sl*(iI c s.W:Int)) (by omega),ad (n:=c.fixed+c.sl*(iI c s.W:Int)) (by omega),ad (n:=s.lv) (by omega),zA (show¬(s.lv≠c.fixed+c.sl*(iI c s.W:Int))by omega),zD];simp only[zG,ck];rw[ad (n:=s.pk) (by omega),QJ J y.1 y.2];simp only[zG,ck];rw[wIU (by omega),wIU (by omega),wIU (by omega),wIU (by omega)];rfl
theorem ay2 (h:c.Ok)(u:c.mode=3)(e:fJ c.mode c.X.length c.T.length c.R c.l c.Q c.k c.len c.words=(c.fixed,c.tp,c.sl,c.ns,0))(hi:InvB c s)(V:De B s)(M:B<=2305843009213693952):
  hC c.mode c.X c.T c.R c.l c.Q c.k c.len c.words s.W (zH zJ c.mode) (zH zJ s.L) (zH zJ s.p) (zH zJ (zH zI (s.q+1))) (zH zJ c.ns) (zH zJ s.c0) (zH zJ s.c1) (zH zJ s.c2) (zH zJ s.c3) (zH zJ s.lv) (zH zJ s.pk) s.z 0 0 0 0=O (.inr (.inl (Ue c s))):=by
 have n:=h.num;have f:=vx h;have nw:=n.words;have nns:=h.ns;have nm:=n.mul;have H:=n.len;have D:=n.mode;have A:=hi.w;have hp:=hi.p;have hq:=hi.q;have y:=hi.L;have g:=hi.pk;have hqp:=hi.qp;obtain⟨k0,k1,k2,k3⟩:=V.in' M;obtain⟨I,g2,g3,g4,g5,g6,g7⟩:=SQ h u hi;have h9:=h.off9_le;have K:c.off 9=c.off 8+(c.sl*c.ns).toNat:=Lr;obtain⟨t1,t2⟩:=A.tk h;have N:s.W.length=c.words.toNat:=A;unfold hC;rw[G8 h e];simp only[zG,ck];rw[bl (n:=((s.W.length:Nat):Int)) (by omega),bl (n:=c.words) (by omega),zA (show¬(((s.W.length:Nat):Int)≠c.words)by omega),zD,dne,zD,dne,zD]
 have d:ik (zH zJ s.L) c.fixed c.tp c.sl c.ns c.mode c.R c.Q c.len c.words c.len 0 (-1) 0 0 0 0 0 c.X c.T c.l c.k c.P=O Za:=by
  unfold ik;rw[ag,Zh,y,zB rfl]
 rw[d];simp only[zG,aB,zD];have C:zH zI (s.q+1)=s.q+1:=ad (by omega);rw[C,bl (n:=s.L) (by omega),bl (n:=s.p) (by omega),bl (n:=s.q+1) (by omega),bl (n:=s.L+1) (by omega),bl (n:=s.lv) (by omega),bl (n:=s.pk) (by omega),zA (show¬s.L<s.p by omega),zD,zA (show¬s.L+1<s.q+1 by omega),zD,zA (show¬c.words<s.lv by omega),zD,zA (show¬c.words<s.pk by omega),zD,KA h A];simp only[zG,ck];rw[show ix 8 c.P.length=O 8 from bq (k:=8) (by rw[Cx.P_len];omega)];simp only[zG];rw[Cx.P_get (show 8<10 by omega)];simp only[zG]
 have v:cx (zH zI ((c.off 8:Int)+zH zI (c.ns*c.sl))) 0 s.W=O (0,0,c.tk):=by
  rw[aD,ad (n:=c.sl*c.ns) (by omega),Zi,show(c.off 8:Int)+c.sl*c.ns=((c.off 9:Nat):Int)by omega];have:=EZ (o:=0) (n:=c.off 9) (W:=s.W) (by omega) (by omega);rw[Nat.zero_add]at this;exact this
 rw[v];simp only[zG];rw[ad (n:=s.L) (by omega),ad (n:=s.p) (by omega),ad (n:=s.q+1) (by omega),ad (n:=s.q+1-1) (by omega),show s.q+1-1=s.q by omega];unfold jf fc;simp only[zG];rw[zB u,zC];simp only[zG,iw,aB,zD];unfold oj fc;simp only[zG];rw[zB u,aB,zD]
 have b:cond (Zc (s.q<0)) (O s.p) (O s.q)=O (iN s):=by
  unfold iN;rw[ag];split<;>rfl
 rw[b];simp only[zG];have Z:=hi.lv;have E:0<=iN s/\iN s<=c.ns:=by unfold iN;split<;>omega
 have F:1<=c.sl:=by have:=n.sl;rw[zE u]at this;have:=n.R;omega
 have h8:c.sl*iN s<=c.sl*c.ns:=bB E.2 (by omega);have J:0<=c.sl*iN s:=Int.mul_nonneg (by omega) E.1;rw[aD (iN s),ad (n:=c.sl*iN s) (by omega),ad (n:=c.fixed+c.sl*iN s) (by omega),ad (n:=s.lv) (by omega),zA (show¬(s.lv≠c.fixed+c.sl*iN s)by omega),zD];simp only[zG,ck,iw];rw[ad (n:=s.pk) (by omega),QJ I g.1 g.2];simp only[zG,ck];rw[wIU (by omega),wIU (by omega),wIU (by omega),wIU (by omega)];rfl
end
end
section
open List renaming length_take -> aB
section
variable {c:Cx}
theorem ap0 (h:c.Ok)(z:c.mode=3)(hi:InvB c s)(a n:Int):InvB c (ET c a n s).2:=by
 have A:=h.num;have y:=hi.w;have C:=hi.L;have K:=hi.p;have N:=hi.q;have M:=hi.pk;have Q:=hi.qp;have J:=h.ns;have nR:=A.R;have n1:=A.xtR;have nx:=A.x;obtain⟨g1,g2,g3,g4,H,g6,g7⟩:=SQ h z hi;have E:=A.tp;rw[zE z]at E;have V:(seg s.W (c.off 1) c.X.length).length=c.X.length:=dp (y.in' h (i:=1) (by omega));have z1:c.sz 1=c.X.length:=rfl;have o1:=ga (c:=c) (i:=1) (j:=9) (by omega);unfold ET;by_cases a8:a=8
 .rw[zE a8];by_cases u:n≠0
  .rw[zE u];exact hi
  rw[zF u];by_cases e:0<=s.q
  .rw[zE e];exact hi
  rw[zF e];by_cases d:s.p=s.L
  .rw[zE d];exact hi
  rw[zF d];have b:iN s=s.p:=by unfold iN;rw[Zg]
  have v:s.p.toNat<c.ns.toNat:=by omega
  obtain⟨s1,s2,Z,s4⟩:=Bg h z v;obtain⟨f1,f2,f3⟩:=iq h y s.p;have w1:=xB h y s.p;have D:((stepR c s.W s.p).2.1++(stepR c s.W s.p).1).length=c.sl.toNat:=by rw[List.length_append];omega
  have w2:=w1.put h (w:=(stepR c s.W s.p).2.1++(stepR c s.W s.p).1) (o:=ja c s.p.toNat) (by rw[D];exact Z);have I:=H (by rw[b];omega);refine⟨w2.put h (by rw[aB];omega),C,⟨by show 0<=s.p+1;omega,by show s.p+1<=s.L;omega⟩,N,λg=> ?_, ?_, ?_⟩
  .have g:0<=s.q:=g;omega
  .show s.lv+c.sl=c.fixed+c.sl*(if s.q<0 then s.p+1 else s.q);rw[Zg,hi.lv,b,Int.mul_add,Int.mul_one];omega
  .show s.lv+c.sl<=max s.pk (s.lv+c.sl)/\max s.pk (s.lv+c.sl)<=c.words;omega
 rw[zF a8];by_cases a5:a=5
 .rw[zE a5];by_cases u:n≠0
  .rw[zE u];exact hi
  rw[zF u];by_cases e:0<=s.q
  .rw[zE e];exact hi
  rw[zF e];by_cases d:s.p≠s.L
  .rw[zE d];exact hi
  rw[zF d];refine⟨(B3 h y V).2,C,K,⟨by show-1<=s.L;omega,Int.le_refl _⟩,λ_=>by show s.p=s.L;omega, ?_, ?_⟩
  .show s.lv=c.fixed+c.sl*(if s.L<0 then s.p else s.L);rw[Zh,hi.lv];unfold iN;rw[Zg,show s.p=s.L by omega]
  .show s.lv<=max s.pk (s.lv+(c.fk.n:Int))/\max s.pk (s.lv+(c.fk.n:Int))<=c.words;omega
 rw[zF a5];by_cases F:a=9
 .rw[zE F];by_cases u:n≠0
  .rw[zE u];exact hi
  rw[zF u];by_cases g:s.q<1
  .rw[zE g];exact hi
  rw[zF g];have v:(s.q-1).toNat<c.ns.toNat:=by omega
  obtain⟨b1,b2,b3,b4,b5,b6⟩:=IM h z y v;obtain⟨v1,v2,v3⟩:=mR h (a:=(wH c s.W (s.q-1).toNat).2.1) y (by omega) (by omega);refine⟨v3.put h (by rw[aB];omega),C,⟨by show 0<=s.q-1;omega,by show s.q-1<=s.L;omega⟩,⟨by show-1<=s.q-1;omega,by show s.q-1<=s.L;omega⟩,λ_=>rfl, ?_, ?_⟩
  .show s.lv-c.sl=c.fixed+c.sl*(if s.q-1<0 then s.q-1 else s.q-1);have b:iN s=s.q:=by unfold iN;rw[Zh]
   rw[Zh,hi.lv,b,Int.mul_sub,Int.mul_one];omega
  .show s.lv-c.sl<=s.pk/\s.pk<=c.words;have:=A.sl;rw[zE z]at this;omega
 rw[zF F];exact hi
theorem ao9 (d:De B s)(a n:Int):De (B+65536) (ET c a n s).2:=by
 have b:De (B+65536) s:=by unfold De at d⊢;omega
 unfold ET
 repeat' split
 all_goals first|exact b|(unfold De at d⊢;simp only;omega)
def wJ (c:Cx)(s:Dy):Int×Dy:=if c.mode≠2 then(19,s)else if 0<=s.q then(19,s)else if s.L=65535 then(14,s)else(0,{s with L:=s.L+1})
theorem Nu (d:De B s):De (B+65536) (wJ c s).2:=by
 have b:De (B+65536) s:=by unfold De at d⊢;omega
 unfold wJ
 repeat' split
 all_goals first|exact b|(unfold De at d⊢;simp only;omega)
theorem SW (b:c.mode=3)(hi:InvB c s):InvB c (wJ c s).2:=by
 unfold wJ;rw[Zg];exact hi
theorem SX (hi:Inv c s):Inv c (wJ c s).2:=by
 unfold wJ;split
 .exact hi
 split
 .exact hi
 split
 .exact hi
 .have:=hi.L;have:=hi.p;have:=hi.q;exact⟨hi.w,⟨by show 0<=s.L+1;omega,by show s.L+1<=65535;omega⟩,⟨hi.p.1,by show s.p<=s.L+1;omega⟩,⟨hi.q.1,by show s.q<=s.L+1;omega⟩,λk b=>by have:=hi.tag k b;exact⟨this.1,by show gX c s.W k<=s.L+1+1;omega⟩,hi.lv,hi.pk⟩
theorem Wi (d:Gj c s):Gj c (wJ c s).2:=by
 intro b;unfold wJ;rw[zE b];exact d b
theorem aJ5 (a n:Int)(s:Dy):(CC c a n s).2.L=s.L:=by
 unfold CC;by_cases b:jT a n=Zb∨7<a
 .rw[zE b]
 rw[zF b];by_cases d:(2<=a/\a<=4)/\c.ns<=n
 .rw[zE d]
 rw[zF d]
 have RM: ∀{P:Prop} [Decidable P] {x y:Int×Dy},x.2.L=s.L->y.2.L=s.L->(if P then x else y).2.L=s.L:=by
  intro P _ x y g o;by_cases e:P
  .rw[zE e];exact g
  .rw[zF e];exact o
 exact RM (RM rfl rfl) (RM (RM rfl rfl) (RM (RM rfl rfl) (RM (RM rfl rfl) (RM (RM rfl (RM rfl rfl)) (RM (RM rfl (RM rfl rfl)) (RM rfl (RM rfl rfl)))))))
theorem ah0 (b:Gj c s)(a n:Int):Gj c (CC c a n s).2:=λd=>(aJ5 a n s).trans (b d)
def ae1 (c:Cx)(x:Int×Int)(s:Dy):Int×Dy:=if x.1=0 then wJ c s else ET c x.1 x.2 s
theorem aL8 (g:0<=s.L/\s.L<=65535):iy c.fixed c.tp c.sl c.ns c.mode c.R c.Q c.len c.words s.L s.p s.q s.c0 s.c1 s.c2 s.c3 s.z c.X c.T c.l c.k c.P c.tk (c.off 8:Int) c.ns (c.X.length:Int) s.lv s.pk c.words s.W=O ((wJ c s).1,c.fixed,c.tp,c.sl,c.ns,c.mode,c.R,c.Q,c.len,c.words,(wJ c s).2.L,s.p,s.q,s.c0,s.c1,s.c2,s.c3,s.z):=by
 unfold iy wJ;rw[ag];by_cases b:c.mode≠2
 .rw[zE b,zE b]
 rw[zF b,zF b,ag];by_cases d:0<=s.q
 .rw[zE d,zE d]
 rw[zF d,zF d,ag];by_cases e:s.L=65535
 .rw[zE e,zE e]
 rw[zF e,zF e,Zi]
def W9 (c:Cx)(x:Int×Int)(s:Dy):Int×Dy:=if x.1=0 then wJ c s else CC c x.1 x.2 s
structure Well1 (c:Cx)(i:Nat)(s:Dy):Prop where
 inv:InvB c s
 cnt:De (65536*i) s
structure Well2 (c:Cx)(i:Nat)(s:Dy):Prop where
 inv:Inv c s
 cnt:De (65536*i) s
 len:Gj c s
theorem Well1.act (h:c.Ok)(b:c.mode=3)(w:Well1 c i s)(x:Int×Int):Well1 c (i+1) (ae1 c x s).2:=by
 have e:(65536:Int)*((i+1:Nat):Int)=65536*i+65536:=by omega
 unfold ae1;split
 .exact⟨SW b w.inv,by rw[e];exact Nu w.cnt⟩
 .exact⟨ap0 h b w.inv _ _,by rw[e];exact ao9 w.cnt _ _⟩
theorem Well2.act (h:c.Ok)(b:c.mode≠3)(w:Well2 c i s)(x:Int×Int):Well2 c (i+1) (W9 c x s).2:=by
 have e:(65536:Int)*((i+1:Nat):Int)=65536*i+65536:=by omega
 unfold W9;split
 .exact⟨SX w.inv,by rw[e];exact Nu w.cnt,Wi w.len⟩
 .exact⟨ag9 h b w.inv _ _,by rw[e];exact ag8 w.cnt _ _,ah0 w.len _ _⟩
theorem Well1.L (h:c.Ok)(w:Well1 c i s):0<=s.L/\s.L<=65535:=by
 have:=w.inv.L;have:=h.num.len;omega
def aE4 (f:(Int×Int)->Dy->Int×Dy)(l:List (Int×Int))(s:Dy):Nat->Dy
 |0=>s
 |i+1=>(f (l.getD i (0,0)) (aE4 f l s i)).2
theorem UF (s:Dy)(h:s.c0=0/\s.c1=0/\s.c2=0/\s.c3=0):De (65536*(0:Nat)) s:=by
 unfold De;omega
theorem NQ (h:c.Ok)(b:c.mode=3)(l:List (Int×Int)): ∀i,Well1 c i (aE4 (ae1 c) l (new1 c) i)
 |0=>⟨Yq h b,UF _ ⟨rfl,rfl,rfl,rfl⟩⟩
 |i+1=>(NQ h b l i).act h b _
theorem NR (h:c.Ok)(b:c.mode≠3)(l:List (Int×Int)): ∀i,Well2 c i (aE4 (W9 c) l (new2 c) i)
 |0=>⟨Yr h b,UF _ ⟨rfl,rfl,rfl,rfl⟩,λ_=>rfl⟩
 |i+1=>(NR h b l i).act h b _
def Db (c:Cx)(s:Dy):Int×Int×(Zd)×Zd:=if s.q≠0 then(0,19,[],[])else(s.z,0,seg s.W (c.off 5) c.X.length,seg s.W (c.off 6) c.T.length)
theorem ap8 (h:c.Ok)(d:Wd c s.W):kF c.fixed c.tp c.sl c.ns c.mode c.R c.Q c.len c.words s.L s.p s.q s.c0 s.c1 s.c2 s.c3 s.z c.X c.T c.l c.k c.P c.tk s.lv s.pk c.words s.W=O (Db c s):=by
 unfold kF Db;rw[ag];by_cases b:s.q≠0
 .rw[zE b,zE b]
 rw[zF b,zF b,Qr (ii:=5) (i:=5) h d rfl (by omega)];simp only[zG];rw[Qr (ii:=6) (i:=6) h d rfl (by omega)];rfl
theorem aB6 (h:c.Ok)(b:Wd c s.W):lm c.fixed c.tp c.sl c.ns c.mode c.R c.Q c.len c.words s.L s.p s.q s.c0 s.c1 s.c2 s.c3 s.z c.X c.T c.l c.k c.P c.tk s.lv s.pk c.words s.W=O s.W:=by
 unfold lm jC;rw[vq (b.tk h).2];rfl
theorem UQ (h:c.Ok)(d:Wd c s.W):gD c.fixed c.tp c.sl c.ns c.mode c.R c.Q c.len c.words s.L s.p s.q s.c0 s.c1 s.c2 s.c3 s.z c.X c.T c.l c.k c.P c.tk (c.off 8:Int) c.ns (c.X.length:Int) s.lv s.pk c.words s.W=O (Db c s):=by
 unfold gD Db;rw[ag];by_cases b:s.q≠0
 .rw[zE b,zE b]
 rw[zF b,zF b,ML (ii:=5) (i:=5) h d rfl (by omega)];simp only[zG];rw[ML (ii:=6) (i:=6) h d rfl (by omega)];rfl
theorem X1 (h:c.Ok)(b:Wd c s.W):hO c.fixed c.tp c.sl c.ns c.mode c.R c.Q c.len c.words s.L s.p s.q s.c0 s.c1 s.c2 s.c3 s.z c.X c.T c.l c.k c.P c.tk (c.off 8:Int) c.ns (c.X.length:Int) s.lv s.pk c.words s.W=O s.W:=by
 unfold hO jC;rw[vq (b.tk h).2];rfl
end
end
section
section
variable {c:Cx}
end
end
section
section
variable {a0:Int} {a1 a2:Zd} {a3:Int} {a4:List bx} {a5:Int} {a6:List bx} {a7 a8:Int}
theorem ar1 (p: ∀o∈a4,S5 o)(q: ∀o∈a6,S5 o):nX a0 a1 a2 a3 a4 a5 a6 a7 a8=O Zb∨(nX a0 a1 a2 a3 a4 a5 a6 a7 a8=O Za/\OpsOk a4/\OpsOk a6/\a1.length<=200/\a2.length<=200):=by
 unfold nX uD;by_cases c1:(a4.length:Int)<=60
 .by_cases c2:(a6.length:Int)<=60
  .by_cases c3:(a1.length:Int)<=200
   .by_cases c4:(a2.length:Int)<=200
    .have e:OpsOk a4:=⟨by omega,p⟩;have g:OpsOk a6:=⟨by omega,q⟩;rw[zB c1,zB c2,zB c3,zB c4];simp only[zC,zG,Bool.not_true,zD];rw[YT e g (by omega) (by omega)];simp only[zG,ag]
     have d: ∀b:Bool,(O b=O Zb)∨(O b=O Za/\OpsOk a4/\OpsOk a6/\a1.length<=200/\a2.length<=200):=λb=>by
      cases b
      .exact .inl rfl
      .exact .inr ⟨rfl,e,g,by omega,by omega⟩
     repeat' split
     all_goals exact d _
    .rw[zB c1,zB c2,zB c3,zA c4];exact .inl rfl
   .rw[zB c1,zB c2,zA c3];exact .inl rfl
  .rw[zB c1,zA c2];exact .inl rfl
 .rw[zA c1];exact .inl rfl
end
end
section
open Go.IntKind renaming wrap -> zH, i64 -> zI, u64 -> zJ
def Se (a:Int):Prop:=0<=a/\a<18446744073709551616
theorem wU (n:Int):zH zJ n=n % 18446744073709551616:=rfl
theorem ab9 {n:Int}(h:Se n):zH zJ n=n:=by rw[wU];unfold Se at h;omega
variable {x s d0 d1 d2 d3 d4 d5 d6 d7 c0 c1 c2 c3 c4 c5 c6 c7 r0 r1 r2 r3 r4 r5 r6 r7 x0 x1 x2 x3 x4 x5 x6 x7 y0 y1 y2 y3 y4 y5 y6 y7 p0 p1 p2 p3 p4 p5 p6 p7:Int}
def Sm (c:Int):Prop:=0<=c/\c<=1000000000
theorem nw {k c n b:Int}(p:0<=k/\k<=1000000000)(e:Sm c)(q:0<=n/\n<b)(o:0<b/\b<=72057594037927936):zH zI (Int.tdiv (zH zI (k+c)) 256)=(k+c) / 256/\IntKind.u64.wrap (n+(zH zJ ((zH zJ (Int.tmod (zH zI (k+c)) 256))*b)))=n+(k+c) % 256*b:=by
 unfold Sm at e;have d:0<=(k+c) % 256/\(k+c) % 256<=255:=by omega
 have g:0<=(k+c) % 256*b/\(k+c) % 256*b<=255*b:=⟨Int.mul_nonneg d.1 (by omega),Int.mul_le_mul_of_nonneg_right d.2 (by omega)⟩;rw[ad (n:=k+c) (by omega),Int.tdiv_eq_ediv_of_nonneg (by omega),Int.tmod_eq_emod_of_nonneg (by omega),Zi,ab9 (n:=(k+c) % 256) ⟨by omega,by omega⟩,ab9 (n:=(k+c) % 256*b) ⟨by omega,by omega⟩,ab9 (n:=n+(k+c) % 256*b) ⟨by omega,by omega⟩];exact⟨rfl,rfl⟩
end
section
section
variable {l:List bx} {R:Int} {f:Fo}
end
section
variable {l:List bx} {m:Zd}
theorem nL : ∀g:Fo,g.unroll.length=g.n
 | .nil=>rfl
 | .op o r=>by simp only[Fo.unroll,Fo.n,List.length_cons,nL r];omega
 | .rep o b e r=>by simp[Fo.unroll,Fo.n,nL r,nL b,Nat.mul_comm]
end
section
variable {l:List bx} {R:Int} {f:Fo}
end
end
section
def cv (r:Zd):Prop:= ∀x∈r,Se x
theorem w0 :Se 0:=by unfold Se;omega
theorem WV (n:Int):Se (IntKind.u64.wrap n):=by rw[wU];unfold Se;omega
theorem WD (h:cv r)(k:Int):Se (rg r k):=by
 unfold rg;rw[List.getD_eq_getElem?_getD];by_cases b:k.toNat<r.length
 .rw[List.getElem?_eq_getElem b];exact h _ (List.getElem_mem b)
 .rw[List.getElem?_eq_none (by omega)];exact w0
theorem cv.set (h:cv r){v:Int}(b:Se v)(k:Nat):cv (r.set k v):=λx d=>by
 rcases List.mem_or_eq_of_mem_set d with h1|h1
 .exact h x h1
 .rw[h1];exact b
theorem cv.app {s:Zd}(h:cv r)(k:cv s):cv (r++s):=λx b=>(List.mem_append.1 b).elim (h x) (k x)
theorem cv.rep (n:Nat):cv (List.replicate n 0):=λx b=>by rw[(List.mem_replicate.1 b).2];exact w0
theorem cv.fill {R:Int}(h:cv r):cv (fill R r):=h.app (cv.rep _)
theorem cv.drop (h:cv r)(n:Nat):cv (r.drop n):=λx b=>h x (List.mem_of_mem_drop b)
theorem cv.take (h:cv r)(n:Nat):cv (r.take n):=λx b=>h x (List.mem_of_mem_take b)
theorem au3 {o:bx}(b:S5 o){x y:Int}(d:Se x)(e:Se y):Se (app o x y):=by
 unfold Go.V.app;unfold S5 at b
 repeat' split
 all_goals first|exact WV _|exact d|exact w0|(unfold Se;omega)
def aK9 (n:Nat)(l:List bx):Prop:= ∀o∈l,SO n o/\S5 o
theorem XV (l:List bx): ∀s:FS,(Ge LY l s).1.length=s.1.length:=by
 induction l with
 |nil=>intro s;rfl
 |cons o l b=>intro s;show(Ge LY l (LY o s)).1.length=_;rw[b];unfold LY;simp
theorem aA9 (l:List bx): ∀s:FS,cv s.1->(∀o∈l,S5 o)->cv (Ge LY l s).1:=by
 induction l with
 |nil=>intro s h _;exact h
 |cons o l e=>
  intro s h b;exact e (LY o s) (h.set (au3 (b o (by simp)) (WD h _) (WD h _)) _) (λx d=>b x (by simp[d]))
section
variable {l:List bx} {R:Int} {f:Fo}
theorem pD : ∀(g:Fo),g.Ok->∀o∈g.unroll,o∈g.src/\0<o.1/\o.1<7
 | .nil,_,o,ho=>by cases ho
 | .op x r,h,o,ho=>by
  rcases List.mem_cons.1 ho with rfl|ho
  .exact⟨by simp[Fo.src],h.1⟩
  .obtain⟨d,p⟩:=pD r h.2 o ho;exact⟨by simp[Fo.src,d],p⟩
 | .rep x b e r,h,o,ho=>by
  simp only[Fo.unroll]at ho;rcases List.mem_append.1 ho with ho|ho
  .obtain⟨u,q,ho⟩:=List.mem_flatten.1 ho;rw[(List.mem_replicate.1 q).2]at ho;obtain⟨d,p⟩:=pD b h.2.1 o ho;exact⟨by simp[Fo.src,d],p⟩
  .obtain⟨d,p⟩:=pD r h.2.2 o ho;exact⟨by simp[Fo.src,d],p⟩
theorem Prg.goodU (h:Prg R l f):aK9 R.toNat f.unroll:=λo e=>by
 obtain⟨b,d⟩:=pD f h.ok o e;rw[h.src]at b;exact⟨h.regs o b d,h.ops.v o b⟩
theorem Prg.ulen (h:Prg R l f):f.unroll.length=f.n/\f.n<=65536:=⟨nL f,h.n⟩
theorem Qq (l:List bx): ∀s:TS,(Ge uz l s).1.length=s.1.length/\(Ge uz l s).2.1.length=s.2.1.length/\(Ge uz l s).2.2=s.2.2+l.length:=by
 induction l with
 |nil=>intro s;exact⟨rfl,rfl,rfl⟩
 |cons o l g=>
  intro s;obtain⟨b,d,e⟩:=g (uz o s);exact⟨b.trans (by unfold uz;simp),d.trans (by unfold uz;simp),e.trans (by unfold uz;simp;omega)⟩
theorem aB1 (l:List bx): ∀s:TS,cv s.1->cv s.2.1->(∀o∈l,S5 o)->cv (Ge uz l s).1/\cv (Ge uz l s).2.1:=by
 induction l with
 |nil=>intro s h k _;exact⟨h,k⟩
 |cons o l e=>
  intro s h k b;exact e (uz o s) (h.set (au3 (b o (by simp)) (WD h _) (WD h _)) _) (k.set (WD h _) _) (λx d=>b x (by simp[d]))
end
end
section
open List renaming replicate -> aB
theorem aE7 {a:Zd}(h:k<a.length):a.set k (rg a (k:Int))=a:=by
 have:=iM h;rw[List.getElem?_eq_getElem h]at this;injection this with this
 rw[<-this];exact List.set_getElem_self h
theorem aE0 {o:bx}{a:Zd}{t:Int}(d:cv r)(b:cv a)(e:Se t):cv (Lv o r a t).1/\cv (Lv o r a t).2:=by
 unfold Lv;exact⟨d.set e _,((b.set w0 _).set (WV _) _).set (WV _) _⟩
section
variable {l:List bx} {R:Int} {f:Fo}
theorem af4 (y:cv t)(l:List bx): ∀s:BS,cv s.1->cv s.2.1->(C8 (qf t) l s).1.length=s.1.length/\(C8 (qf t) l s).2.1.length=s.2.1.length/\(C8 (qf t) l s).2.2=s.2.2-l.length/\cv (C8 (qf t) l s).1/\cv (C8 (qf t) l s).2.1:=by
 induction l with
 |nil=>intro s h k;exact⟨rfl,rfl,rfl,h,k⟩
 |cons o l v=>
  intro s h k;obtain⟨e,g,p,q,u⟩:=v s h k;have b:=Lw o (C8 (qf t) l s).1 (C8 (qf t) l s).2.1 (rg t (((C8 (qf t) l s).2.2-1:Nat):Int));have d:=aE0 (o:=o) q u (WD y (((C8 (qf t) l s).2.2-1:Nat):Int));refine⟨b.1.trans e,b.2.trans g, ?_,d.1,d.2⟩;show(C8 (qf t) l s).2.2-1=_;rw[p,List.length_cons];omega
theorem F0 (h:Prg R l f)(q:cv r)(u:cv t):cv (tq f r t).1/\cv (tq f r t).2.1/\(tq f r t).1.length=r.length/\(tq f r t).2.1.length=t.length:=by
 obtain⟨b,d⟩:=aB1 f.unroll (r,t,0) q u (λo p=>(h.goodU o p).2);obtain⟨e,g,_⟩:=Qq f.unroll (r,t,0);exact⟨b,d,e,g⟩
def UM (R:Int)(f:Fo)(r w:Zd):Zd:=(jr f (tq f (fill R r) (aB f.n 0)).1 (fill R w) (tq f (fill R r) (aB f.n 0)).2.1).2.1
theorem I2 (h:Prg R l f)(C:r.length<=R.toNat)(o:w.length<=R.toNat)(p:cv r)(q:cv w):(UM R f r w).length=R.toNat/\cv (UM R f r w):=by
 obtain⟨e,g,z,A⟩:=F0 h (r:=fill R r) (t:=aB f.n 0) p.fill (cv.rep _);obtain⟨u,b,v,y,d⟩:=af4 g f.unroll ((tq f (fill R r) (aB f.n 0)).1,fill R w,f.n) e q.fill;exact⟨b.trans (kw o),d⟩
theorem LM (h:Prg R l f)(d:cv r):(JL f r).length=r.length/\cv (JL f r):=⟨XV _ _,aA9 _ _ d λo b=>(h.goodU o b).2⟩
theorem aB0 (l:List bx): ∀(r t:Zd) (k n:Nat),(Ge uz l (r,t,k)).1=(Ge LY l (r,n)).1:=by
 induction l with
 |nil=>intro r t k n;rfl
 |cons o l b=>intro r t k n;exact b _ _ _ _
theorem NC (f:Fo)(r t:Zd):(tq f r t).1=JL f r:=aB0 _ _ _ _ _
end
end
section
open List renaming length_take -> aD
open Nat renaming le_refl -> aB, lt_or_gt_of_ne -> bB
theorem cv.put (h:cv W)(k:cv w)(o:Nat):cv (put W o w):=(h.take o).app (k.app (h.drop _))
theorem cv.seg (h:cv W)(o n:Nat):cv (seg W o n):=(h.drop o).take n
theorem ay1 (x:Nat)(g a:Zd):cv (yg x g a):=λv b=>by
 unfold yg at b;obtain⟨i,_,rfl⟩:=List.mem_map.1 b;exact WV _
section
variable {c:Cx}
structure Has (c:Cx)(W st ax at':Zd):Prop where
 wd:Wd c W
 w:cv W
 t:seg W 0 c.T.length=c.T
 s:seg W (c.off 1) c.X.length=st
 x:seg W (c.off 5) c.X.length=ax
 a:seg W (c.off 6) c.T.length=at'
theorem NK (h:c.Ok)(b:Wd c W)(hi:i<9)(d:w.length<=c.sz i):c.off i+w.length<=W.length:=by
 have:=b.in' h hi;omega
theorem Has.put (h:c.Ok)(H:Has c W st ax at')(hi:i<9)(v:w.length<=c.sz i)(y:cv w)(e:i≠0)(g:i≠1)(o:i≠5)(p:i≠6):Has c (put W (c.off i) w) st ax at':=by
 have u:=NK h H.wd hi v
 have b: ∀j n,j≠i->n<=c.sz j->j<9->seg (Go.V.put W (c.off i) w) (c.off j) n=seg W (c.off j) n:=λj n q A z=>by
  refine nK u ?_;rcases bB q with d|hgt
  .exact .inl (by have:=ga (c:=c) d;omega)
  .exact .inr (by have:=ga (c:=c) hgt;omega)
 refine⟨H.wd.put h (by have:=ga (c:=c) (show i<9 from hi);omega),H.w.put y _, ?_, ?_, ?_, ?_⟩
 .have:=b 0 c.T.length (Ne.symm e) (aB _) (by omega);exact this.trans H.t
 .exact(b 1 c.X.length (Ne.symm g) (aB _) (by omega)).trans H.s
 .exact(b 5 c.X.length (Ne.symm o) (aB _) (by omega)).trans H.x
 .exact(b 6 c.T.length (Ne.symm p) (aB _) (by omega)).trans H.a
theorem yA (h:c.Ok)(e:Wd c W){n:Nat}(b:j≠i)(hi:i<9)(o:j<9)(p:n<=c.sz j)(g:w.length<=c.sz i):seg (put W (c.off i) w) (c.off j) n=seg W (c.off j) n:=by
 refine nK (NK h e hi g) ?_;rcases bB b with d|hgt
 .exact .inl (by have:=ga (c:=c) d;omega)
 .exact .inr (by have:=ga (c:=c) hgt;omega)
theorem Has.put1 (h:c.Ok)(H:Has c W st ax at')(d:w.length=c.X.length)(e:cv w):Has c (Go.V.put W (c.off 1) w) w ax at':=by
 have b:w.length<=c.sz 1:=Nat.le_of_eq d;refine⟨H.wd.put h (by have:=ga (c:=c) (show 1<9 by omega);omega),H.w.put e _,(yA h H.wd (i:=1) (j:=0) (by omega) (by omega) (by omega) (aB _) b).trans H.t, ?_,(yA h H.wd (i:=1) (j:=5) (by omega) (by omega) (by omega) (aB _) b).trans H.x,(yA h H.wd (i:=1) (j:=6) (by omega) (by omega) (by omega) (aB _) b).trans H.a⟩;rw[<-d];exact tt (NK h H.wd (by omega) b)
theorem Has.back (h:c.Ok){a:Zd}(H:Has c W st ax at')(J:c.X.length+c.T.length<=a.length)(u:a.length<=max c.R.toNat c.Q.toNat)(C:cv a):Has c (yj c W a) st (a.take c.X.length) (yg c.X.length at' a):=by
 have H4:=H.put h (i:=4) (by omega) (w:=a) u C (by omega) (by omega) (by omega) (by omega);unfold yj;generalize Go.V.put W (c.off 4) a=W1 at*;have A:(a.take c.X.length).length<=c.sz 5:=by rw[aD];exact Nat.min_le_left _ _
 have I:(a.take c.X.length).length=c.X.length:=by rw[aD];omega
 have e:=H4.wd.put h (o:=c.off 5) (w:=a.take c.X.length) (by have:=ga (c:=c) (show 5<9 by omega);omega);have p:=λj (v:j≠5) (g:j<9)=>yA h H4.wd (i:=5) (j:=j) v (by omega) g (aB _) A
 have E:seg (Go.V.put W1 (c.off 5) (a.take c.X.length)) (c.off 5) c.X.length=a.take c.X.length:=by
  have:=tt (NK h H4.wd (i:=5) (by omega) A);rw[I]at this;exact this
 have F:=(p 6 (by omega) (by omega)).trans H4.a;have e0:=(p 0 (by omega) (by omega)).trans H4.t;have D:=(p 1 (by omega) (by omega)).trans H4.s;have a5:cv (Go.V.put W1 (c.off 5) (a.take c.X.length)):=H4.w.put (C.take _) _;generalize Go.V.put W1 (c.off 5) (a.take c.X.length)=W2 at*;have b:seg W2 (c.off 6) c.T.length=at':=F;rw[b];have y:at'.length=c.T.length:=by rw[<-b];exact dp (e.in' h (i:=6) (by omega))
 have z:(yg c.X.length at' a).length=c.T.length:=by rw[yh,y]
 have d:(yg c.X.length at' a).length<=c.sz 6:=Nat.le_of_eq z;have q:=λj (v:j≠6) (g:j<9)=>yA h e (i:=6) (j:=j) v (by omega) g (aB _) d
 refine⟨e.put h (by have:=ga (c:=c) (show 6<9 by omega);omega),a5.put (ay1 _ _ _) _,(q 0 (by omega) (by omega)).trans e0,(q 1 (by omega) (by omega)).trans D,(q 5 (by omega) (by omega)).trans E, ?_⟩;have:=tt (NK h e (i:=6) (by omega) d);rw[z]at this;exact this
def Fg (c:Cx)(t:Int)(x:Zd):Zd:=x++(c.T++[IntKind.u64.wrap t])
def yC (c:Cx)(t:Int)(x:Zd):Zd:=(JL c.fl (fill c.R (Fg c t x))).take c.X.length
def lossV (c:Cx)(x:Zd):Int:=rg (JL c.fk (fill c.Q (x++(c.T++[])))) 0
def tY (c:Cx)(t:Int)(x b:Zd):Zd:=UM c.R c.fl (Fg c t x) b
def zt (c:Cx)(x:Zd):Zd:=UM c.Q c.fk (x++(c.T++[])) [1]
theorem Cx.Ok.lens (h:c.Ok):((c.X.length:Int)+c.T.length+1<=c.R/\(c.X.length:Int)+c.T.length<=c.Q)/\(1<=c.R/\c.R<=64)/\(1<=c.Q/\c.Q<=64)/\1<=c.X.length/\c.X.length<=64/\c.T.length<=64:=by
 have n:=h.num;have b:=H8 h.hc;exact⟨M5 (by have:=n.x;omega) (by have:=n.t;omega) b.2,n.R,n.Q,n.x.1,n.x.2,n.t⟩
theorem DP (t:Int)(b:x.length=c.X.length):(Fg c t x).length=c.X.length+c.T.length+1:=by unfold Fg;simp[b];omega
theorem OD {t:Int}(d:cv x)(wT:cv c.T):cv (Fg c t x):=d.app (wT.app λv b=>by rw[List.mem_singleton.1 b];exact WV _)
variable (h:c.Ok) (wT:cv c.T)
include h wT
theorem zL {t:Int}(e:x.length=c.X.length)(g:cv x):(yC c t x).length=c.X.length/\cv (yC c t x):=by
 obtain⟨⟨q,u⟩,p,o,x1,x2,v⟩:=h.lens;obtain⟨b,d⟩:=LM h.pl (r:=fill c.R (Fg c t x)) (OD g wT).fill;rw[kw (by rw[DP t e];omega)]at b;unfold yC;exact⟨by rw[aD,b];omega,d.take _⟩
theorem I1 {t:Int}{b:Zd}(d:x.length=c.X.length)(g:cv x)(q:b.length=c.X.length)(e:cv b):(tY c t x b).length=c.R.toNat/\cv (tY c t x b):=by
 obtain⟨⟨u,v⟩,p,o,x1,x2,y⟩:=h.lens;exact I2 h.pl (by rw[DP t d];omega) (by omega) (OD g wT) e
theorem aM4 :cv [1]:=λv b=>by rw[List.mem_singleton.1 b];unfold Se;omega
theorem Q4 (d:x.length=c.X.length)(e:cv x):(zt c x).length=c.Q.toNat/\cv (zt c x):=by
 obtain⟨⟨p,q⟩,o,g,x1,x2,u⟩:=h.lens;exact I2 h.pk (by simp[d];omega) (by simp;omega) (e.app (wT.app λv b=>by cases b)) (aM4 h wT)
end
end
end Go.V
