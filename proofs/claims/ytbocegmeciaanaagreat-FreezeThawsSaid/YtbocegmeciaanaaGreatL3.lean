/- A part of the proofs of this claim: what functions of the program answer on an abstract machine, and plain laws. No condition. -/
import Derived.Test.YtbocegmeciaanaaGreatL2
set_option linter.unusedVariables false
set_option linter.unusedSimpArgs false
set_option linter.unusedSectionVars false
namespace Go.V
open Go.Ab
open Option renaming some->C,none->O
open Bool renaming true->Za,false->Zb
open Decidable renaming decide->Zc
section
open Go.IntKind renaming wrap -> wB, i64 -> wC, u64 -> wD
open Bool renaming not_true -> aB
open Int renaming mul_comm -> aD, mul_le_mul_of_nonneg_left -> bB
set_option maxRecDepth 100000
theorem dne {x:Int}{i:Decidable (x≠x)}: @Zc (x≠x) i=Zb:=zB λk=>k rfl
section
variable {c:Cx}
def dC3 (c:Cx)(s:Dy):Int×Int×Int×Int×Int×Int×Int×Int×Int×Int×Int×Int×Int×Int×Int×Int:=
 (wB wD c.mode,wB wD s.L,wB wD s.p,wB wD (wB wC (s.q+1)),wB wD c.ns,wB wD s.c0,wB wD s.c1,wB wD s.c2,wB wD s.c3,wB wD s.lv,wB wD s.pk,s.z,0,0,0,0)
theorem aL6 (s:Dy):dw c.fixed c.tp c.sl c.ns c.mode c.R c.Q c.len c.words s.L s.p s.q s.c0 s.c1 s.c2 s.c3 s.z c.X c.T c.l c.k c.P c.tk s.lv s.pk c.words s.W=C (dC3 c s):=by
 unfold dw yj yk pp pq;simp only[wA];have key:cj (ye c.ns c.mode s.L s.p s.q s.c0 s.c1 s.c2 s.c3 s.lv s.pk) gi ((0,0,0,0,0,0,0,0,0,0,0,0,0,0,0,0,0))=C (wB wD c.mode,wB wD s.L,wB wD s.p,wB wD (wB wC (s.q+1)),wB wD c.ns,wB wD s.c0,wB wD s.c1,wB wD s.c2,wB wD s.c3,wB wD s.lv,wB wD s.pk,0,0,0,0,0):=by kernel_rfl
 rw[key];rfl
theorem aL7 (s:Dy){sb sn sx:Int}:db c.fixed c.tp c.sl c.ns c.mode c.R c.Q c.len c.words s.L s.p s.q s.c0 s.c1 s.c2 s.c3 s.z c.X c.T c.l c.k c.P c.tk sb sn sx s.lv s.pk c.words s.W=C (dC3 c s):=by
 unfold db vy vz pp pq;simp only[wA];have key:cj (wm c.ns c.mode s.L s.p s.q s.c0 s.c1 s.c2 s.c3 s.lv s.pk) gi ((0,0,0,0,0,0,0,0,0,0,0,0,0,0,0,0,0))=C (wB wD c.mode,wB wD s.L,wB wD s.p,wB wD (wB wC (s.q+1)),wB wD c.ns,wB wD s.c0,wB wD s.c1,wB wD s.c2,wB wD s.c3,wB wD s.lv,wB wD s.pk,0,0,0,0,0):=by kernel_rfl
 rw[key];rfl
theorem cl6 {l:Zd}(hl:l.length<1000000):cj (kw l) gi (0,0)=C ((l.countP λt=>Zc (0<=t):Nat):Int):=by
 have h: ∀i,((l.take i).countP λt=>Zc (0<=t))<=l.length:=λi=>Nat.le_trans List.countP_le_length (by simp;omega)
 have key:cj (kw l) gi (0,(((l.take 0).countP λt=>Zc (0<=t):Nat):Int))=C (((l.take l.length).countP λt=>Zc (0<=t):Nat):Int):=by
  refine gl (n:=l.length) (λi=>(((l.take i).countP λt=>Zc (0<=t):Nat):Int)) (by omega) (λi hi=> ?_) ?_
  .have h1:=h i;unfold kw;simp only;rw[zD (show(i:Int)<(l.length:Int)by omega),yB,cw hi];simp only[wA];rw[List.getElem?_eq_getElem hi];simp only[wA];rw[bg (n:=(i:Int)+1) (by omega),List.take_succ_eq_append_getElem hi,List.countP_append,cd];by_cases hp:0<=l[i]
   .rw[xB hp,bg (by omega)];simp[hp]
   .rw[xD hp];simp[hp]
  .unfold kw;simp only;rw[zB (by omega),yD]
 rw[List.take_length]at key;exact key
theorem cl7 (W:Zd):((ai6 c W).countP λt=>Zc (0<=t))=jf c W:=by
 unfold ai6 jf;rw[List.countP_map];apply List.countP_congr;intro k _;simp only[Function.comp,decide_eq_true_eq];omega
theorem by8 (h:c.Ok)(hm:c.mode≠3){W:Zd}(hW:Wd c W)(ht: ∀k,k<c.ns.toNat->0<=gm c W k/\gm c W k<=65536):rp (c.off 8:Int) c.ns (c.X.length:Int) c.tk W=C (.inr ((c.off 8:Int),c.ns,(c.X.length:Int))):=by
 have n:=h.num;have nx:=n.x;have nns:=h.ns;have nm:=n.mul;have nw:=n.words;have hsl:=n.sl;rw[xD hm]at hsl;have h9:=h.off9_le;have h89:c.off 9=c.off 8+(c.sl*c.ns).toNat:=bx2;obtain⟨t1,t2⟩:=hW.tk h;unfold rp oe fy;rw[zD (show 0<=c.ns by omega),zD (show c.ns<=1048576 by omega),zD (show 1<=(c.X.length:Int)by omega),zD (show(c.X.length:Int)<=64 by omega)];simp only[yB,yD,aB,wA];rw[bg (n:=(c.X.length:Int)+1) (by omega),<-hsl,aD c.ns,bg (n:=c.sl*c.ns) (by omega)]
 have hrd:fq (c.off 8:Int) (c.sl*c.ns) c.tk W=C (0,seg W (c.off 8) (c.sl*c.ns).toNat):=by
  have:=aj8 (W:=W) (o:=c.off 8) (n:=(c.sl*c.ns).toNat) (tk:=c.off 9) (by omega) t1 t2;rw[Int.toNat_of_nonneg nm]at this;exact this
 rw[hrd];simp only[wA];rw[zB (by simp),yD]
 have key:cj (i8 (c.off 8:Int) c.ns (c.X.length:Int) c.tk W) gi 0=C (.inr ()):=by
  refine ad1 (n:=c.ns.toNat) (by omega) (λi hi=> ?_) ?_
  .have hti:=ht i hi;unfold i8;rw[zD (by omega),yB,ab2 h hm hi];simp only[wA];rw[aU7 h hm hW hi];simp only[wA];rw[zB (by omega),yD,bg (by omega)];rfl
  .unfold i8;rw[zB (by omega),yD]
 rw[key];rfl
def cE7 (c:Cx)(s:Dy):Int×Int×Int×Int×Int×Int×Int×Int×Int×Int×Int×Int×Int×Int×Int×Int×Int×(Zd)×(Zd)×(List (Int×Int×Int×Int×Int))×(List (Int×Int×Int×Int×Int))×(Zd)×Int×Int×Int×Int×Zd:=
 (c.fixed,c.tp,c.sl,c.ns,c.mode,c.R,c.Q,c.len,c.words,s.L,s.p,s.q,s.c0,s.c1,s.c2,s.c3,s.z,c.X,c.T,c.l,c.k,c.P,c.tk,s.lv,s.pk,c.words,s.W)
def cE8 (c:Cx)(s:Dy):Int×Int×Int×Int×Int×Int×Int×Int×Int×Int×Int×Int×Int×Int×Int×Int×Int×(Zd)×(Zd)×(List (Int×Int×Int×Int×Int))×(List (Int×Int×Int×Int×Int))×(Zd)×Int×Int×Int×Int×Int×Int×Int×Zd:=
 (c.fixed,c.tp,c.sl,c.ns,c.mode,c.R,c.Q,c.len,c.words,s.L,s.p,s.q,s.c0,s.c1,s.c2,s.c3,s.z,c.X,c.T,c.l,c.k,c.P,c.tk,(c.off 8:Int),c.ns,(c.X.length:Int),s.lv,s.pk,c.words,s.W)
theorem wIU {n:Int}(h:0<=n/\n<=9223372036854775807):wB wC (wB wD n)=n:=by
 rw[gq (by omega),bg (by omega)]
theorem aS2 (h:c.Ok){W:Zd}(hW:Wd c W):at6 W=C (.inr W):=by
 have f:=wZ h;have nw:=h.num.words;unfold Wd at hW;unfold at6 yq;rw[zB (by omega),yD,zB (by omega),yD];simp only[wA];rw[zB (by simp),yD,ao7 (by omega)];rfl
theorem bw8 {b lv pk:Int}(h:0<=lv)(h1:lv<=pk)(h2:pk<=b):oh b lv pk=C (.inr (lv,pk,b)):=by
 unfold oh;rw[zB (by omega),yD,zB (by omega),yD,zB (by omega),yD]
def cf9 (c:Cx)(s:Dy):Prop:=c.mode≠2->s.L=c.len
theorem dJ6 (h:c.Ok)(hm:c.mode≠3)(e:jp c.mode c.X.length c.T.length c.R c.l c.Q c.k c.len c.words=(c.fixed,c.tp,c.sl,c.ns,0)){s:Dy}(hi:Inv c s)(hL:cf9 c s){B:Int}(hc:Cnt B s)(hB:B<=2305843009213693952):
  ia c.mode c.X c.T c.R c.l c.Q c.k c.len c.words s.W (wB wD c.mode) (wB wD s.L) (wB wD s.p) (wB wD (wB wC (s.q+1))) (wB wD c.ns) (wB wD s.c0) (wB wD s.c1) (wB wD s.c2) (wB wD s.c3) (wB wD s.lv) (wB wD s.pk) s.z 0 0 0 0=C (.inr (.inr (cE8 c s))):=by
 have n:=h.num;have f:=wZ h;have nw:=n.words;have nns:=h.ns;have nm:=n.mul;have nlen:=n.len;have nmode:=n.mode;have hW:=hi.w;have hp:=hi.p;have hq:=hi.q;have hLL:=hi.L;have hpk:=hi.pk;obtain⟨k0,k1,k2,k3⟩:=hc.in' hB;obtain⟨g1,g2,g3,g4⟩:=aG4 h hi;have h9:=h.off9_le;have h89:c.off 9=c.off 8+(c.sl*c.ns).toNat:=bx2;obtain⟨t1,t2⟩:=hW.tk h;have hWl:s.W.length=c.words.toNat:=hW;unfold ia;rw[aM7 h e];simp only[wA,cq];rw[gq (n:=((s.W.length:Nat):Int)) (by omega),gq (n:=c.words) (by omega),zB (show¬(((s.W.length:Nat):Int)≠c.words)by omega),yD,dne,yD,dne,yD]
 have hlong:ec (wB wD s.L) c.fixed c.tp c.sl c.ns c.mode c.R c.Q c.len c.words c.len 0 (-1) 0 0 0 0 0 c.X c.T c.l c.k c.P=C Za:=by
  unfold ec;rw[cd];by_cases h2:c.mode=2
  .rw[xB h2,gq (by omega),zD (by omega)]
  .rw[xD h2,hL h2,zD rfl]
 rw[hlong];simp only[wA,aB,yD];have hq1:wB wC (s.q+1)=s.q+1:=bg (by omega);rw[hq1,gq (n:=s.L) (by omega),gq (n:=s.p) (by omega),gq (n:=s.q+1) (by omega),gq (n:=s.L+1) (by omega),gq (n:=s.lv) (by omega),gq (n:=s.pk) (by omega),zB (show¬s.L<s.p by omega),yD,zB (show¬s.L+1<s.q+1 by omega),yD,zB (show¬c.words<s.lv by omega),yD,zB (show¬c.words<s.pk by omega),yD,aS2 h hW];simp only[wA,cq];rw[show ix 8 c.P.length=C 8 from cw (k:=8) (by rw[Cx.P_len];omega)];simp only[wA];rw[Cx.P_get (show 8<10 by omega)];simp only[wA]
 have etk:ei (wB wC ((c.off 8:Int)+wB wC (c.ns*c.sl))) 0 s.W=C (0,0,c.tk):=by
  rw[aD,bg (n:=c.sl*c.ns) (by omega),bg (by omega),show(c.off 8:Int)+c.sl*c.ns=((c.off 9:Nat):Int)by omega];have:=aG9 (o:=0) (n:=c.off 9) (W:=s.W) (by omega) (by omega);rw[Nat.zero_add]at this;exact this
 rw[etk];simp only[wA];rw[bg (n:=s.L) (by omega),bg (n:=s.p) (by omega),bg (n:=s.q+1) (by omega),bg (n:=s.q+1-1) (by omega),show s.q+1-1=s.q by omega];unfold i6 et;simp only[wA];rw[zB hm,yD,show ix 8 c.P.length=C 8 from cw (k:=8) (by rw[Cx.P_len];omega)];simp only[wA];rw[Cx.P_get (show 8<10 by omega)];simp only[wA];have htag: ∀k,k<c.ns.toNat->0<=gm c s.W k/\gm c s.W k<=65536:=λk hk=>by have:=hi.tag k hk;omega
 rw[by8 h hm hW htag];simp only[wA,cq];unfold qr
 have hlen:(ai6 c s.W).length<1000000:=by
  rw[ai1];rcases Nat.eq_zero_or_pos c.ns.toNat with h0|h0
  .omega
  .have:=(ai0 h hm h0).2.2;omega
 rw[bz2 h hm hW htag];simp only[wA];rw[bp6 hLL hp hq hlen (bz3 hi.tag)];simp only[wA,cq,aB,yD];unfold qx mm;simp only[wA];rw[zB hm,Bool.not_false,yB];unfold sr;rw[bz2 h hm hW htag];simp only[wA];rw[cl6 hlen,cl7];simp only[wA];have hlv:=hi.lv;have hul:=cz8 c s.W;have hsl1:1<=c.sl:=by have:=n.sl;rw[xD hm]at this;omega
 have h8:c.sl*(jf c s.W:Int)<=c.sl*c.ns:=bB (by omega) (by omega);have h8':0<=c.sl*(jf c s.W:Int):=Int.mul_nonneg (by omega) (by omega);rw[aD ((jf c s.W:Nat):Int),bg (n:=c.sl*(jf c s.W:Int)) (by omega),bg (n:=c.fixed+c.sl*(jf c s.W:Int)) (by omega),bg (n:=s.lv) (by omega),zB (show¬(s.lv≠c.fixed+c.sl*(jf c s.W:Int))by omega),yD];simp only[wA,cq];rw[bg (n:=s.pk) (by omega),bw8 g1 hpk.1 hpk.2];simp only[wA,cq];rw[wIU (by omega),wIU (by omega),wIU (by omega),wIU (by omega)];rfl
theorem dJ5 (h:c.Ok)(hm:c.mode=3)(e:jp c.mode c.X.length c.T.length c.R c.l c.Q c.k c.len c.words=(c.fixed,c.tp,c.sl,c.ns,0)){s:Dy}(hi:InvB c s){B:Int}(hc:Cnt B s)(hB:B<=2305843009213693952):
  ia c.mode c.X c.T c.R c.l c.Q c.k c.len c.words s.W (wB wD c.mode) (wB wD s.L) (wB wD s.p) (wB wD (wB wC (s.q+1))) (wB wD c.ns) (wB wD s.c0) (wB wD s.c1) (wB wD s.c2) (wB wD s.c3) (wB wD s.lv) (wB wD s.pk) s.z 0 0 0 0=C (.inr (.inl (cE7 c s))):=by
 have n:=h.num;have f:=wZ h;have nw:=n.words;have nns:=h.ns;have nm:=n.mul;have nlen:=n.len;have nmode:=n.mode;have hW:=hi.w;have hp:=hi.p;have hq:=hi.q;have hLL:=hi.L;have hpk:=hi.pk;have hqp:=hi.qp;obtain⟨k0,k1,k2,k3⟩:=hc.in' hB;obtain⟨g1,g2,g3,g4,g5,g6,g7⟩:=bV3 h hm hi;have h9:=h.off9_le;have h89:c.off 9=c.off 8+(c.sl*c.ns).toNat:=bx2;obtain⟨t1,t2⟩:=hW.tk h;have hWl:s.W.length=c.words.toNat:=hW;unfold ia;rw[aM7 h e];simp only[wA,cq];rw[gq (n:=((s.W.length:Nat):Int)) (by omega),gq (n:=c.words) (by omega),zB (show¬(((s.W.length:Nat):Int)≠c.words)by omega),yD,dne,yD,dne,yD]
 have hlong:ec (wB wD s.L) c.fixed c.tp c.sl c.ns c.mode c.R c.Q c.len c.words c.len 0 (-1) 0 0 0 0 0 c.X c.T c.l c.k c.P=C Za:=by
  unfold ec;rw[cd,xD (by omega),hLL,zD rfl]
 rw[hlong];simp only[wA,aB,yD];have hq1:wB wC (s.q+1)=s.q+1:=bg (by omega);rw[hq1,gq (n:=s.L) (by omega),gq (n:=s.p) (by omega),gq (n:=s.q+1) (by omega),gq (n:=s.L+1) (by omega),gq (n:=s.lv) (by omega),gq (n:=s.pk) (by omega),zB (show¬s.L<s.p by omega),yD,zB (show¬s.L+1<s.q+1 by omega),yD,zB (show¬c.words<s.lv by omega),yD,zB (show¬c.words<s.pk by omega),yD,aS2 h hW];simp only[wA,cq];rw[show ix 8 c.P.length=C 8 from cw (k:=8) (by rw[Cx.P_len];omega)];simp only[wA];rw[Cx.P_get (show 8<10 by omega)];simp only[wA]
 have etk:ei (wB wC ((c.off 8:Int)+wB wC (c.ns*c.sl))) 0 s.W=C (0,0,c.tk):=by
  rw[aD,bg (n:=c.sl*c.ns) (by omega),bg (by omega),show(c.off 8:Int)+c.sl*c.ns=((c.off 9:Nat):Int)by omega];have:=aG9 (o:=0) (n:=c.off 9) (W:=s.W) (by omega) (by omega);rw[Nat.zero_add]at this;exact this
 rw[etk];simp only[wA];rw[bg (n:=s.L) (by omega),bg (n:=s.p) (by omega),bg (n:=s.q+1) (by omega),bg (n:=s.q+1-1) (by omega),show s.q+1-1=s.q by omega];unfold i6 et;simp only[wA];rw[zD hm,yB];simp only[wA,dg,aB,yD];unfold qw et;simp only[wA];rw[zD hm,aB,yD]
 have hheld:cond (Zc (s.q<0)) (C s.p) (C s.q)=C (je s):=by
  unfold je;rw[cd];split<;>rfl
 rw[hheld];simp only[wA];have hlv:=hi.lv;have hh:0<=je s/\je s<=c.ns:=by unfold je;split<;>omega
 have hsl1:1<=c.sl:=by have:=n.sl;rw[xB hm]at this;have:=n.R;omega
 have h8:c.sl*je s<=c.sl*c.ns:=bB hh.2 (by omega);have h8':0<=c.sl*je s:=Int.mul_nonneg (by omega) hh.1;rw[aD (je s),bg (n:=c.sl*je s) (by omega),bg (n:=c.fixed+c.sl*je s) (by omega),bg (n:=s.lv) (by omega),zB (show¬(s.lv≠c.fixed+c.sl*je s)by omega),yD];simp only[wA,cq,dg];rw[bg (n:=s.pk) (by omega),bw8 g1 hpk.1 hpk.2];simp only[wA,cq];rw[wIU (by omega),wIU (by omega),wIU (by omega),wIU (by omega)];rfl
end
end
section
open List renaming length_take -> aB
section
variable {c:Cx}
theorem cZ0 (h:c.Ok)(hm:c.mode=3){s:Dy}(hi:InvB c s)(a n:Int):InvB c (plF c a n s).2:=by
 have nm:=h.num;have hW:=hi.w;have hL:=hi.L;have hp:=hi.p;have hq:=hi.q;have hpk:=hi.pk;have hqp:=hi.qp;have hns:=h.ns;have nR:=nm.R;have n1:=nm.xtR;have nx:=nm.x;obtain⟨g1,g2,g3,g4,g5,g6,g7⟩:=bV3 h hm hi;have htp:=nm.tp;rw[xB hm]at htp;have l1:(seg s.W (c.off 1) c.X.length).length=c.X.length:=gy (hW.in' h (i:=1) (by omega));have z1:c.sz 1=c.X.length:=rfl;have o1:=ko (c:=c) (i:=1) (j:=9) (by omega);unfold plF;by_cases a8:a=8
 .rw[xB a8];by_cases hn:n≠0
  .rw[xB hn];exact hi
  rw[xD hn];by_cases hq0:0<=s.q
  .rw[xB hq0];exact hi
  rw[xD hq0];by_cases hpl:s.p=s.L
  .rw[xB hpl];exact hi
  rw[xD hpl];have hheld:je s=s.p:=by unfold je;rw[xB (by omega)]
  have hlt:s.p.toNat<c.ns.toNat:=by omega
  obtain⟨s1,s2,s3,s4⟩:=aC8 h hm hlt;obtain⟨f1,f2,f3⟩:=mj h hW s.p;have w1:=ay1 h hW s.p;have hla:((stepR c s.W s.p).2.1++(stepR c s.W s.p).1).length=c.sl.toNat:=by rw[List.length_append];omega
  have w2:=w1.put h (w:=(stepR c s.W s.p).2.1++(stepR c s.W s.p).1) (o:=uw c s.p.toNat) (by rw[hla];exact s3);have hbd:=g5 (by rw[hheld];omega);refine⟨w2.put h (by rw[aB];omega),hL,⟨by show 0<=s.p+1;omega,by show s.p+1<=s.L;omega⟩,hq,λhq1=> ?_, ?_, ?_⟩
  .have hq1:0<=s.q:=hq1;omega
  .show s.lv+c.sl=c.fixed+c.sl*(if s.q<0 then s.p+1 else s.q);rw[xB (by omega),hi.lv,hheld,Int.mul_add,Int.mul_one];omega
  .show s.lv+c.sl<=max s.pk (s.lv+c.sl)/\max s.pk (s.lv+c.sl)<=c.words;omega
 rw[xD a8];by_cases a5:a=5
 .rw[xB a5];by_cases hn:n≠0
  .rw[xB hn];exact hi
  rw[xD hn];by_cases hq0:0<=s.q
  .rw[xB hq0];exact hi
  rw[xD hq0];by_cases hpl:s.p≠s.L
  .rw[xB hpl];exact hi
  rw[xD hpl];refine⟨(aS9 h hW l1).2,hL,hp,⟨by show-1<=s.L;omega,Int.le_refl _⟩,λ_=>by show s.p=s.L;omega, ?_, ?_⟩
  .show s.lv=c.fixed+c.sl*(if s.L<0 then s.p else s.L);rw[xD (by omega),hi.lv];unfold je;rw[xB (by omega),show s.p=s.L by omega]
  .show s.lv<=max s.pk (s.lv+(c.fk.n:Int))/\max s.pk (s.lv+(c.fk.n:Int))<=c.words;omega
 rw[xD a5];by_cases a9:a=9
 .rw[xB a9];by_cases hn:n≠0
  .rw[xB hn];exact hi
  rw[xD hn];by_cases hq1:s.q<1
  .rw[xB hq1];exact hi
  rw[xD hq1];have hlt:(s.q-1).toNat<c.ns.toNat:=by omega
  obtain⟨b1,b2,b3,b4,b5,b6⟩:=bG9 h hm hW hlt;obtain⟨v1,v2,v3⟩:=uF h (a:=(bm6 c s.W (s.q-1).toNat).2.1) hW (by omega) (by omega);refine⟨v3.put h (by rw[aB];omega),hL,⟨by show 0<=s.q-1;omega,by show s.q-1<=s.L;omega⟩,⟨by show-1<=s.q-1;omega,by show s.q-1<=s.L;omega⟩,λ_=>rfl, ?_, ?_⟩
  .show s.lv-c.sl=c.fixed+c.sl*(if s.q-1<0 then s.q-1 else s.q-1);have hheld:je s=s.q:=by unfold je;rw[xD (by omega)]
   rw[xD (by omega),hi.lv,hheld,Int.mul_sub,Int.mul_one];omega
  .show s.lv-c.sl<=s.pk/\s.pk<=c.words;have:=nm.sl;rw[xB hm]at this;omega
 rw[xD a9];exact hi
theorem dB4 {s:Dy}{B:Int}(hc:Cnt B s)(a n:Int):Cnt (B+65536) (plF c a n s).2:=by
 have key:Cnt (B+65536) s:=by unfold Cnt at hc⊢;omega
 unfold plF
 repeat' split
 all_goals first|exact key|(unfold Cnt at hc⊢;simp only;omega)
def og (c:Cx)(s:Dy):Int×Dy:=if c.mode≠2 then(19,s)else if 0<=s.q then(19,s)else if s.L=65535 then(14,s)else(0,{s with L:=s.L+1})
theorem cj4 {s:Dy}{B:Int}(hc:Cnt B s):Cnt (B+65536) (og c s).2:=by
 have key:Cnt (B+65536) s:=by unfold Cnt at hc⊢;omega
 unfold og
 repeat' split
 all_goals first|exact key|(unfold Cnt at hc⊢;simp only;omega)
theorem cR1 (hm:c.mode=3){s:Dy}(hi:InvB c s):InvB c (og c s).2:=by
 unfold og;rw[xB (by omega)];exact hi
theorem cR2 {s:Dy}(hi:Inv c s):Inv c (og c s).2:=by
 unfold og;split
 .exact hi
 split
 .exact hi
 split
 .exact hi
 .have:=hi.L;have:=hi.p;have:=hi.q;exact⟨hi.w,⟨by show 0<=s.L+1;omega,by show s.L+1<=65535;omega⟩,⟨hi.p.1,by show s.p<=s.L+1;omega⟩,⟨hi.q.1,by show s.q<=s.L+1;omega⟩,λk hk=>by have:=hi.tag k hk;exact⟨this.1,by show gm c s.W k<=s.L+1+1;omega⟩,hi.lv,hi.pk⟩
theorem de7 {s:Dy}(hl:cf9 c s):cf9 c (og c s).2:=by
 intro hm;unfold og;rw[xB hm];exact hl hm
theorem dR2 (a n:Int)(s:Dy):(doF c a n s).2.L=s.L:=by
 unfold doF;by_cases h1:my a n=Zb∨7<a
 .rw[xB h1]
 rw[xD h1];by_cases h4:(2<=a/\a<=4)/\c.ns<=n
 .rw[xB h4]
 rw[xD h4]
 have two: ∀{P:Prop} [Decidable P] {x y:Int×Dy},x.2.L=s.L->y.2.L=s.L->(if P then x else y).2.L=s.L:=by
  intro P _ x y hx hy;by_cases hP:P
  .rw[xB hP];exact hx
  .rw[xD hP];exact hy
 exact two (two rfl rfl) (two (two rfl rfl) (two (two rfl rfl) (two (two rfl rfl) (two (two rfl (two rfl rfl)) (two (two rfl (two rfl rfl)) (two rfl (two rfl rfl)))))))
theorem dv9 {s:Dy}(hl:cf9 c s)(a n:Int):cf9 c (doF c a n s).2:=λhm=>(dR2 a n s).trans (hl hm)
theorem dR7 {s:Dy}(hL:0<=s.L/\s.L<=65535):ua c.fixed c.tp c.sl c.ns c.mode c.R c.Q c.len c.words s.L s.p s.q s.c0 s.c1 s.c2 s.c3 s.z c.X c.T c.l c.k c.P c.tk s.lv s.pk c.words s.W=C ((og c s).1,c.fixed,c.tp,c.sl,c.ns,c.mode,c.R,c.Q,c.len,c.words,(og c s).2.L,s.p,s.q,s.c0,s.c1,s.c2,s.c3,s.z):=by
 unfold ua og;rw[cd];by_cases h1:c.mode≠2
 .rw[xB h1,xB h1]
 rw[xD h1,xD h1,cd];by_cases h2:0<=s.q
 .rw[xB h2,xB h2]
 rw[xD h2,xD h2,cd];by_cases h3:s.L=65535
 .rw[xB h3,xB h3]
 rw[xD h3,xD h3,bg (by omega)]
def ad7 (c:Cx)(x:Int×Int)(s:Dy):Int×Dy:=if x.1=0 then og c s else plF c x.1 x.2 s
theorem dR8 {s:Dy}(hL:0<=s.L/\s.L<=65535):qo c.fixed c.tp c.sl c.ns c.mode c.R c.Q c.len c.words s.L s.p s.q s.c0 s.c1 s.c2 s.c3 s.z c.X c.T c.l c.k c.P c.tk (c.off 8:Int) c.ns (c.X.length:Int) s.lv s.pk c.words s.W=C ((og c s).1,c.fixed,c.tp,c.sl,c.ns,c.mode,c.R,c.Q,c.len,c.words,(og c s).2.L,s.p,s.q,s.c0,s.c1,s.c2,s.c3,s.z):=by
 unfold qo og;rw[cd];by_cases h1:c.mode≠2
 .rw[xB h1,xB h1]
 rw[xD h1,xD h1,cd];by_cases h2:0<=s.q
 .rw[xB h2,xB h2]
 rw[xD h2,xD h2,cd];by_cases h3:s.L=65535
 .rw[xB h3,xB h3]
 rw[xD h3,xD h3,bg (by omega)]
def ad8 (c:Cx)(x:Int×Int)(s:Dy):Int×Dy:=if x.1=0 then og c s else doF c x.1 x.2 s
theorem aT4 (s:Dy):(og c s).2={s with L:=(og c s).2.L}:=by
 unfold og
 repeat' split
 all_goals rfl
structure Well1 (c:Cx)(i:Nat)(s:Dy):Prop where
 inv:InvB c s
 cnt:Cnt (65536*i) s
structure Well2 (c:Cx)(i:Nat)(s:Dy):Prop where
 inv:Inv c s
 cnt:Cnt (65536*i) s
 len:cf9 c s
theorem Well1.act (h:c.Ok)(hm:c.mode=3){i:Nat}{s:Dy}(w:Well1 c i s)(x:Int×Int):Well1 c (i+1) (ad7 c x s).2:=by
 have e:(65536:Int)*((i+1:Nat):Int)=65536*i+65536:=by omega
 unfold ad7;split
 .exact⟨cR1 hm w.inv,by rw[e];exact cj4 w.cnt⟩
 .exact⟨cZ0 h hm w.inv _ _,by rw[e];exact dB4 w.cnt _ _⟩
theorem Well2.act (h:c.Ok)(hm:c.mode≠3){i:Nat}{s:Dy}(w:Well2 c i s)(x:Int×Int):Well2 c (i+1) (ad8 c x s).2:=by
 have e:(65536:Int)*((i+1:Nat):Int)=65536*i+65536:=by omega
 unfold ad8;split
 .exact⟨cR2 w.inv,by rw[e];exact cj4 w.cnt,de7 w.len⟩
 .exact⟨cW5 h hm w.inv _ _,by rw[e];exact dv8 w.cnt _ _,dv9 w.len _ _⟩
theorem Well1.L (h:c.Ok){i:Nat}{s:Dy}(w:Well1 c i s):0<=s.L/\s.L<=65535:=by
 have:=w.inv.L;have:=h.num.len;omega
def dN3 (f:(Int×Int)->Dy->Int×Dy)(l:List (Int×Int))(s:Dy):Nat->Dy
 |0=>s
 |i+1=>(f (l.getD i (0,0)) (dN3 f l s i)).2
theorem cY3 (s:Dy)(h:s.c0=0/\s.c1=0/\s.c2=0/\s.c3=0):Cnt (65536*(0:Nat)) s:=by
 unfold Cnt;omega
theorem cl9 (h:c.Ok)(hm:c.mode=3)(l:List (Int×Int)): ∀i,Well1 c i (dN3 (ad7 c) l (new1 c) i)
 |0=>⟨do4 h hm,cY3 _ ⟨rfl,rfl,rfl,rfl⟩⟩
 |i+1=>(cl9 h hm l i).act h hm _
theorem cm0 (h:c.Ok)(hm:c.mode≠3)(l:List (Int×Int)): ∀i,Well2 c i (dN3 (ad8 c) l (new2 c) i)
 |0=>⟨do5 h hm,cY3 _ ⟨rfl,rfl,rfl,rfl⟩,λ_=>rfl⟩
 |i+1=>(cm0 h hm l i).act h hm _
def cJ2 (c:Cx)(s:Dy):Int×Int×(Zd)×Zd:=if s.q≠0 then(0,19,[],[])else(s.z,0,seg s.W (c.off 5) c.X.length,seg s.W (c.off 6) c.T.length)
theorem dm2 (h:c.Ok){s:Dy}(hW:Wd c s.W):dp c.fixed c.tp c.sl c.ns c.mode c.R c.Q c.len c.words s.L s.p s.q s.c0 s.c1 s.c2 s.c3 s.z c.X c.T c.l c.k c.P c.tk s.lv s.pk c.words s.W=C s.W:=by
 unfold dp oq;rw[ao7 (hW.tk h).2];rfl
theorem dm3 (h:c.Ok){s:Dy}(hW:Wd c s.W):cy c.fixed c.tp c.sl c.ns c.mode c.R c.Q c.len c.words s.L s.p s.q s.c0 s.c1 s.c2 s.c3 s.z c.X c.T c.l c.k c.P c.tk (c.off 8:Int) c.ns (c.X.length:Int) s.lv s.pk c.words s.W=C s.W:=by
 unfold cy oq;rw[ao7 (hW.tk h).2];rfl
theorem dg9 {l:Zd}{f:Int->Option (Int⊕(Bool⊕Unit))}(hl:l.length<1000000000)(hf: ∀s,f s=cond (Zc (s<((l.length:Nat):Int))) ((rd l s).bind λx=>(rd l s).bind λy=>cond (Zc (x≠y)) (C (.inr (.inl Zb))) (C (.inl (IntKind.i64.wrap (s+1))))) (C (.inr (.inr ())))):cj f gi 0=C (.inr ()):=by
 refine ad1 (n:=l.length) (by omega) (λi hi=> ?_) ?_
 .rw[hf];rw[zD (by omega),yB,dh hi];simp only[wA];rw[dne,yD,bg (by omega)];rfl
 .rw[hf];rw[zB (by omega),yD]
theorem dr8 {l:Zd}(hl:l.length<1000000000):se l l=C Za:=by
 unfold se;rw[dne,yD,dg9 (f:=aV1 l l) (l:=l) hl λs=>rfl];rfl
end
end
section
section
variable {c:Cx}
end
end
section
section
variable {a0:Int} {a1 a2:Zd} {a3:Int} {a4:List df} {a5:Int} {a6:List df} {a7 a8:Int}
theorem da0 (h4: ∀o∈a4,okV o)(h6: ∀o∈a6,okV o):li a0 a1 a2 a3 a4 a5 a6 a7 a8=C Zb∨(li a0 a1 a2 a3 a4 a5 a6 a7 a8=C Za/\OpsOk a4/\OpsOk a6/\a1.length<=200/\a2.length<=200):=by
 unfold li aH4;by_cases c1:(a4.length:Int)<=60
 .by_cases c2:(a6.length:Int)<=60
  .by_cases c3:(a1.length:Int)<=200
   .by_cases c4:(a2.length:Int)<=200
    .have o4:OpsOk a4:=⟨by omega,h4⟩;have o6:OpsOk a6:=⟨by omega,h6⟩;rw[zD c1,zD c2,zD c3,zD c4];simp only[yB,wA,Bool.not_true,yD];rw[by0 o4 o6];simp only[wA,cd]
     have key: ∀b:Bool,(C b=C Zb)∨(C b=C Za/\OpsOk a4/\OpsOk a6/\a1.length<=200/\a2.length<=200):=λb=>by
      cases b
      .exact .inl rfl
      .exact .inr ⟨rfl,o4,o6,by omega,by omega⟩
     repeat' split
     all_goals exact key _
    .rw[zD c1,zD c2,zD c3,zB c4];exact .inl rfl
   .rw[zD c1,zD c2,zB c3];exact .inl rfl
  .rw[zD c1,zB c2];exact .inl rfl
 .rw[zB c1];exact .inl rfl
theorem du2 (hl:OpsOk a4)(hk:OpsOk a6)(h:(jp a0 a1.length a2.length a3 a4 a5 a6 a7 a8).2.2.2.2≠0):uD a0 a1 a2 a3 a4 a5 a6 a7 a8=C (.inl (jp a0 a1.length a2.length a3 a4 a5 a6 a7 a8).2.2.2.2):=by
 unfold uD;rw[ck2 hl hk h];simp only[wA,dg];rw[zD h,yB]
end
end
section
open Go.IntKind renaming wrap -> wB, i64 -> wC, u64 -> wD
open Int renaming tdiv -> aD, tmod -> bB, add_mul -> bD, mul_add -> cB, mul_assoc -> cD, mul_left_comm -> dB, tdiv_eq_ediv_of_nonneg -> dD, tmod_eq_emod_of_nonneg -> eD
open Sum renaming inl -> aB
def vw (a:Int):Prop:=0<=a/\a<18446744073709551616
theorem wU (n:Int):wB wD n=n % 18446744073709551616:=rfl
theorem zr {n:Int}(h:vw n):wB wD n=n:=by rw[wU];unfold vw at h;omega
theorem dw1 {x:Int}(h:vw x):wB wD (aD x 256)=x / 256:=by
 unfold vw at h;rw[dD h.1,wU];omega
theorem dw2 {x:Int}(h:vw x):wB wC (bB x 256)=x % 256:=by
 unfold vw at h;rw[eD h.1,bg (by omega)]
theorem vw.div {x:Int}(h:vw x):vw (x / 256):=by unfold vw at*;omega
variable {x s d0 d1 d2 d3 d4 d5 d6 d7 c0 c1 c2 c3 c4 c5 c6 c7 r0 r1 r2 r3 r4 r5 r6 r7 x0 x1 x2 x3 x4 x5 x6 x7 y0 y1 y2 y3 y4 y5 y6 y7 p0 p1 p2 p3 p4 p5 p6 p7:Int}
theorem dQ4 (h:vw x):iz (0,x,d0,d1,d2,d3,d4,d5,d6,d7)=C (.inl (1,x / 256,x % 256,d1,d2,d3,d4,d5,d6,d7)):=by
 show C (aB (wB wC (0+1),wB wD (aD x 256),wB wC (bB x 256),d1,d2,d3,d4,d5,d6,d7))=_;rw[dw1 h,dw2 h];rfl
theorem dQ5 (h:vw x):iz (1,x,d0,d1,d2,d3,d4,d5,d6,d7)=C (.inl (2,x / 256,d0,x % 256,d2,d3,d4,d5,d6,d7)):=by
 show C (aB (wB wC (1+1),wB wD (aD x 256),d0,wB wC (bB x 256),d2,d3,d4,d5,d6,d7))=_;rw[dw1 h,dw2 h];rfl
theorem dQ6 (h:vw x):iz (2,x,d0,d1,d2,d3,d4,d5,d6,d7)=C (.inl (3,x / 256,d0,d1,x % 256,d3,d4,d5,d6,d7)):=by
 show C (aB (wB wC (2+1),wB wD (aD x 256),d0,d1,wB wC (bB x 256),d3,d4,d5,d6,d7))=_;rw[dw1 h,dw2 h];rfl
theorem dQ7 (h:vw x):iz (3,x,d0,d1,d2,d3,d4,d5,d6,d7)=C (.inl (4,x / 256,d0,d1,d2,x % 256,d4,d5,d6,d7)):=by
 show C (aB (wB wC (3+1),wB wD (aD x 256),d0,d1,d2,wB wC (bB x 256),d4,d5,d6,d7))=_;rw[dw1 h,dw2 h];rfl
theorem dQ8 (h:vw x):iz (4,x,d0,d1,d2,d3,d4,d5,d6,d7)=C (.inl (5,x / 256,d0,d1,d2,d3,x % 256,d5,d6,d7)):=by
 show C (aB (wB wC (4+1),wB wD (aD x 256),d0,d1,d2,d3,wB wC (bB x 256),d5,d6,d7))=_;rw[dw1 h,dw2 h];rfl
theorem dQ9 (h:vw x):iz (5,x,d0,d1,d2,d3,d4,d5,d6,d7)=C (.inl (6,x / 256,d0,d1,d2,d3,d4,x % 256,d6,d7)):=by
 show C (aB (wB wC (5+1),wB wD (aD x 256),d0,d1,d2,d3,d4,wB wC (bB x 256),d6,d7))=_;rw[dw1 h,dw2 h];rfl
theorem dR0 (h:vw x):iz (6,x,d0,d1,d2,d3,d4,d5,d6,d7)=C (.inl (7,x / 256,d0,d1,d2,d3,d4,d5,x % 256,d7)):=by
 show C (aB (wB wC (6+1),wB wD (aD x 256),d0,d1,d2,d3,d4,d5,wB wC (bB x 256),d7))=_;rw[dw1 h,dw2 h];rfl
theorem dR1 (h:vw x):iz (7,x,d0,d1,d2,d3,d4,d5,d6,d7)=C (.inl (8,x / 256,d0,d1,d2,d3,d4,d5,d6,x % 256)):=by
 show C (aB (wB wC (7+1),wB wD (aD x 256),d0,d1,d2,d3,d4,d5,d6,wB wC (bB x 256)))=_;rw[dw1 h,dw2 h];rfl
def dgs (a:Int):Int×Int×Int×Int×Int×Int×Int×Int:=(a % 256,a / 256 % 256,a / 65536 % 256,a / 16777216 % 256,a / 4294967296 % 256,a / 1099511627776 % 256,a / 281474976710656 % 256,a / 72057594037927936 % 256)
theorem aM0 {a:Int}(h:vw a):ny a=C (dgs a):=by
 have h0:=h;have h1:=h0.div;have h2:=h1.div;have h3:=h2.div;have h4:=h3.div;have h5:=h4.div;have h6:=h5.div;have h7:=h6.div;have key:=iu ((((((((Reach.one (dQ4 (d0:=0) (d1:=0) (d2:=0) (d3:=0) (d4:=0) (d5:=0) (d6:=0) (d7:=0) h0)).trans (Reach.one (dQ5 h1))).trans (Reach.one (dQ6 h2))).trans (Reach.one (dQ7 h3))).trans (Reach.one (dQ8 h4))).trans (Reach.one (dQ9 h5))).trans (Reach.one (dR0 h6))).trans (Reach.one (dR1 h7))) (by decide) rfl;unfold ny;rw[key];simp only[wA];unfold dgs;unfold vw at h;have e7:a / 256 / 256 / 256 / 256 / 256 / 256 / 256=a / 72057594037927936:=by omega
 have e6:a / 256 / 256 / 256 / 256 / 256 / 256=a / 281474976710656:=by omega
 have e5:a / 256 / 256 / 256 / 256 / 256=a / 1099511627776:=by omega
 have e4:a / 256 / 256 / 256 / 256=a / 4294967296:=by omega
 have e3:a / 256 / 256 / 256=a / 16777216:=by omega
 have e2:a / 256 / 256=a / 65536:=by omega
 rw[e7,e6,e5,e4,e3,e2]
def Sm (c:Int):Prop:=0<=c/\c<=1000000000
theorem nw {k c n b:Int}(hk:0<=k/\k<=1000000000)(hc:Sm c)(hn:0<=n/\n<b)(hb:0<b/\b<=72057594037927936):wB wC (aD (wB wC (k+c)) 256)=(k+c) / 256/\IntKind.u64.wrap (n+(wB wD ((wB wD (bB (wB wC (k+c)) 256))*b)))=n+(k+c) % 256*b:=by
 unfold Sm at hc;have h1:0<=(k+c) % 256/\(k+c) % 256<=255:=by omega
 have h2:0<=(k+c) % 256*b/\(k+c) % 256*b<=255*b:=⟨Int.mul_nonneg h1.1 (by omega),Int.mul_le_mul_of_nonneg_right h1.2 (by omega)⟩;rw[bg (n:=k+c) (by omega),dD (by omega),eD (by omega),bg (by omega),zr (n:=(k+c) % 256) ⟨by omega,by omega⟩,zr (n:=(k+c) % 256*b) ⟨by omega,by omega⟩,zr (n:=n+(k+c) % 256*b) ⟨by omega,by omega⟩];exact⟨rfl,rfl⟩
theorem dS8 (hs:0<=s/\s<=1000000000*1)(hc:Sm c0):i3 c0 c1 c2 c3 c4 c5 c6 c7 (0,s / 1,s % 1,1)=C (.inl (1,(s+1*c0) / 256,(s+1*c0) % 256,256)):=by
 show C (aB (wB wC (0+1),wB wC (aD (wB wC (s / 1+c0)) 256),wB wD (s % 1+(wB wD ((wB wD (bB (wB wC (s / 1+c0)) 256))*1))),wB wD (1*256)))=_;obtain⟨h1,h2⟩:=nw (k:=s / 1) (c:=c0) (n:=s % 1) (b:=1) (by omega) hc (by omega) (by omega);rw[h1,h2];unfold Sm at hc;rw[show(s / 1+c0) / 256=(s+1*c0) / 256 by omega,show s % 1+(s / 1+c0) % 256*1=(s+1*c0) % 256 by omega];rfl
theorem dS9 (hs:0<=s/\s<=1000000000*256)(hc:Sm c1):i3 c0 c1 c2 c3 c4 c5 c6 c7 (1,s / 256,s % 256,256)=C (.inl (2,(s+256*c1) / 65536,(s+256*c1) % 65536,65536)):=by
 show C (aB (wB wC (1+1),wB wC (aD (wB wC (s / 256+c1)) 256),wB wD (s % 256+(wB wD ((wB wD (bB (wB wC (s / 256+c1)) 256))*256))),wB wD (256*256)))=_;obtain⟨h1,h2⟩:=nw (k:=s / 256) (c:=c1) (n:=s % 256) (b:=256) (by omega) hc (by omega) (by omega);rw[h1,h2];unfold Sm at hc;rw[show(s / 256+c1) / 256=(s+256*c1) / 65536 by omega,show s % 256+(s / 256+c1) % 256*256=(s+256*c1) % 65536 by omega];rfl
theorem dT0 (hs:0<=s/\s<=1000000000*65536)(hc:Sm c2):i3 c0 c1 c2 c3 c4 c5 c6 c7 (2,s / 65536,s % 65536,65536)=C (.inl (3,(s+65536*c2) / 16777216,(s+65536*c2) % 16777216,16777216)):=by
 show C (aB (wB wC (2+1),wB wC (aD (wB wC (s / 65536+c2)) 256),wB wD (s % 65536+(wB wD ((wB wD (bB (wB wC (s / 65536+c2)) 256))*65536))),wB wD (65536*256)))=_;obtain⟨h1,h2⟩:=nw (k:=s / 65536) (c:=c2) (n:=s % 65536) (b:=65536) (by omega) hc (by omega) (by omega);rw[h1,h2];unfold Sm at hc;rw[show(s / 65536+c2) / 256=(s+65536*c2) / 16777216 by omega,show s % 65536+(s / 65536+c2) % 256*65536=(s+65536*c2) % 16777216 by omega];rfl
theorem dT1 (hs:0<=s/\s<=1000000000*16777216)(hc:Sm c3):i3 c0 c1 c2 c3 c4 c5 c6 c7 (3,s / 16777216,s % 16777216,16777216)=C (.inl (4,(s+16777216*c3) / 4294967296,(s+16777216*c3) % 4294967296,4294967296)):=by
 show C (aB (wB wC (3+1),wB wC (aD (wB wC (s / 16777216+c3)) 256),wB wD (s % 16777216+(wB wD ((wB wD (bB (wB wC (s / 16777216+c3)) 256))*16777216))),wB wD (16777216*256)))=_;obtain⟨h1,h2⟩:=nw (k:=s / 16777216) (c:=c3) (n:=s % 16777216) (b:=16777216) (by omega) hc (by omega) (by omega);rw[h1,h2];unfold Sm at hc;rw[show(s / 16777216+c3) / 256=(s+16777216*c3) / 4294967296 by omega,show s % 16777216+(s / 16777216+c3) % 256*16777216=(s+16777216*c3) % 4294967296 by omega];rfl
theorem dT2 (hs:0<=s/\s<=1000000000*4294967296)(hc:Sm c4):i3 c0 c1 c2 c3 c4 c5 c6 c7 (4,s / 4294967296,s % 4294967296,4294967296)=C (.inl (5,(s+4294967296*c4) / 1099511627776,(s+4294967296*c4) % 1099511627776,1099511627776)):=by
 show C (aB (wB wC (4+1),wB wC (aD (wB wC (s / 4294967296+c4)) 256),wB wD (s % 4294967296+(wB wD ((wB wD (bB (wB wC (s / 4294967296+c4)) 256))*4294967296))),wB wD (4294967296*256)))=_;obtain⟨h1,h2⟩:=nw (k:=s / 4294967296) (c:=c4) (n:=s % 4294967296) (b:=4294967296) (by omega) hc (by omega) (by omega);rw[h1,h2];unfold Sm at hc;rw[show(s / 4294967296+c4) / 256=(s+4294967296*c4) / 1099511627776 by omega,show s % 4294967296+(s / 4294967296+c4) % 256*4294967296=(s+4294967296*c4) % 1099511627776 by omega];rfl
theorem dT3 (hs:0<=s/\s<=1000000000*1099511627776)(hc:Sm c5):i3 c0 c1 c2 c3 c4 c5 c6 c7 (5,s / 1099511627776,s % 1099511627776,1099511627776)=C (.inl (6,(s+1099511627776*c5) / 281474976710656,(s+1099511627776*c5) % 281474976710656,281474976710656)):=by
 show C (aB (wB wC (5+1),wB wC (aD (wB wC (s / 1099511627776+c5)) 256),wB wD (s % 1099511627776+(wB wD ((wB wD (bB (wB wC (s / 1099511627776+c5)) 256))*1099511627776))),wB wD (1099511627776*256)))=_;obtain⟨h1,h2⟩:=nw (k:=s / 1099511627776) (c:=c5) (n:=s % 1099511627776) (b:=1099511627776) (by omega) hc (by omega) (by omega);rw[h1,h2];unfold Sm at hc;rw[show(s / 1099511627776+c5) / 256=(s+1099511627776*c5) / 281474976710656 by omega,show s % 1099511627776+(s / 1099511627776+c5) % 256*1099511627776=(s+1099511627776*c5) % 281474976710656 by omega];rfl
theorem dT4 (hs:0<=s/\s<=1000000000*281474976710656)(hc:Sm c6):i3 c0 c1 c2 c3 c4 c5 c6 c7 (6,s / 281474976710656,s % 281474976710656,281474976710656)=C (.inl (7,(s+281474976710656*c6) / 72057594037927936,(s+281474976710656*c6) % 72057594037927936,72057594037927936)):=by
 show C (aB (wB wC (6+1),wB wC (aD (wB wC (s / 281474976710656+c6)) 256),wB wD (s % 281474976710656+(wB wD ((wB wD (bB (wB wC (s / 281474976710656+c6)) 256))*281474976710656))),wB wD (281474976710656*256)))=_;obtain⟨h1,h2⟩:=nw (k:=s / 281474976710656) (c:=c6) (n:=s % 281474976710656) (b:=281474976710656) (by omega) hc (by omega) (by omega);rw[h1,h2];unfold Sm at hc;rw[show(s / 281474976710656+c6) / 256=(s+281474976710656*c6) / 72057594037927936 by omega,show s % 281474976710656+(s / 281474976710656+c6) % 256*281474976710656=(s+281474976710656*c6) % 72057594037927936 by omega];rfl
theorem dT5 (hs:0<=s/\s<=1000000000*72057594037927936)(hc:Sm c7):i3 c0 c1 c2 c3 c4 c5 c6 c7 (7,s / 72057594037927936,s % 72057594037927936,72057594037927936)=C (.inl (8,(s+72057594037927936*c7) / 18446744073709551616,(s+72057594037927936*c7) % 18446744073709551616,0)):=by
 show C (aB (wB wC (7+1),wB wC (aD (wB wC (s / 72057594037927936+c7)) 256),wB wD (s % 72057594037927936+(wB wD ((wB wD (bB (wB wC (s / 72057594037927936+c7)) 256))*72057594037927936))),wB wD (72057594037927936*256)))=_;obtain⟨h1,h2⟩:=nw (k:=s / 72057594037927936) (c:=c7) (n:=s % 72057594037927936) (b:=72057594037927936) (by omega) hc (by omega) (by omega);rw[h1,h2];unfold Sm at hc;rw[show(s / 72057594037927936+c7) / 256=(s+72057594037927936*c7) / 18446744073709551616 by omega,show s % 72057594037927936+(s / 72057594037927936+c7) % 256*72057594037927936=(s+72057594037927936*c7) % 18446744073709551616 by omega];rfl
theorem bD4 (h0:Sm c0)(h1:Sm c1)(h2:Sm c2)(h3:Sm c3)(h4:Sm c4)(h5:Sm c5)(h6:Sm c6)(h7:Sm c7):pt c0 c1 c2 c3 c4 c5 c6 c7=C ((c0+256*c1+65536*c2+16777216*c3+4294967296*c4+1099511627776*c5+281474976710656*c6+72057594037927936*c7) % 18446744073709551616):=by
 unfold pt;have g0:=h0;unfold Sm at g0;have g1:=h1;unfold Sm at g1;have g2:=h2;unfold Sm at g2;have g3:=h3;unfold Sm at g3;have g4:=h4;unfold Sm at g4;have g5:=h5;unfold Sm at g5;have g6:=h6;unfold Sm at g6;have g7:=h7;unfold Sm at g7;have key:=iu ((((((((Reach.one (dS8 (c0:=c0) (c1:=c1) (c2:=c2) (c3:=c3) (c4:=c4) (c5:=c5) (c6:=c6) (c7:=c7) (s:=0) (by omega) h0)).trans (Reach.one (dS9 (by omega) h1))).trans (Reach.one (dT0 (by omega) h2))).trans (Reach.one (dT1 (by omega) h3))).trans (Reach.one (dT2 (by omega) h4))).trans (Reach.one (dT3 (by omega) h5))).trans (Reach.one (dT4 (by omega) h6))).trans (Reach.one (dT5 (by omega) h7))) (by decide) rfl;rw[show((0:Int),(0:Int),(0:Int),(1:Int))=(0,0 / 1,0 % 1,1)from rfl,key];simp only[wA,Int.zero_add,Int.one_mul]
def By (c:Int):Prop:=0<=c/\c<=255
theorem pl1 {x y:Int}(hx:By x)(hy:By y):wB wC (x+y)=x+y:=by unfold By at*;exact bg (by omega)
theorem ng1 {x:Int}(hx:By x):wB wC (255-x)=255-x:=by unfold By at*;exact bg (by omega)
theorem wF {p x y:Int}(hp:0<=p/\p<=1000000)(hx:By x)(hy:By y):wB wC (p+wB wC (x*y))=p+x*y/\0<=x*y/\x*y<=65025:=by
 unfold By at*;have h1:=Int.mul_nonneg hx.1 hy.1;have h2:x*y<=255*255:=Int.mul_le_mul hx.2 hy.2 hy.1 (by omega);rw[bg (n:=x*y) (by omega),bg (n:=p+x*y) (by omega)];exact⟨rfl,h1,by omega⟩
theorem dT9 (h:By d0)(k:By r0):jd (r0,r1,r2,r3,r4,r5,r6,r7) (0,d0,d1,d2,d3,d4,d5,d6,d7)=C (.inl (1,d0+r0,d1,d2,d3,d4,d5,d6,d7)):=by
 show C (aB (wB wC (0+1),wB wC (d0+r0),d1,d2,d3,d4,d5,d6,d7))=_;rw[pl1 h k];rfl
theorem dR9 (h:By d0):jz (0,d0,d1,d2,d3,d4,d5,d6,d7)=C (.inl (1,255-d0,d1,d2,d3,d4,d5,d6,d7)):=by
 show C (aB (wB wC (0+1),wB wC (255-d0),d1,d2,d3,d4,d5,d6,d7))=_;rw[ng1 h];rfl
theorem dU0 (h:By d1)(k:By r1):jd (r0,r1,r2,r3,r4,r5,r6,r7) (1,d0,d1,d2,d3,d4,d5,d6,d7)=C (.inl (2,d0,d1+r1,d2,d3,d4,d5,d6,d7)):=by
 show C (aB (wB wC (1+1),d0,wB wC (d1+r1),d2,d3,d4,d5,d6,d7))=_;rw[pl1 h k];rfl
theorem dS0 (h:By d1):jz (1,d0,d1,d2,d3,d4,d5,d6,d7)=C (.inl (2,d0,255-d1,d2,d3,d4,d5,d6,d7)):=by
 show C (aB (wB wC (1+1),d0,wB wC (255-d1),d2,d3,d4,d5,d6,d7))=_;rw[ng1 h];rfl
theorem dU1 (h:By d2)(k:By r2):jd (r0,r1,r2,r3,r4,r5,r6,r7) (2,d0,d1,d2,d3,d4,d5,d6,d7)=C (.inl (3,d0,d1,d2+r2,d3,d4,d5,d6,d7)):=by
 show C (aB (wB wC (2+1),d0,d1,wB wC (d2+r2),d3,d4,d5,d6,d7))=_;rw[pl1 h k];rfl
theorem dS1 (h:By d2):jz (2,d0,d1,d2,d3,d4,d5,d6,d7)=C (.inl (3,d0,d1,255-d2,d3,d4,d5,d6,d7)):=by
 show C (aB (wB wC (2+1),d0,d1,wB wC (255-d2),d3,d4,d5,d6,d7))=_;rw[ng1 h];rfl
theorem dU2 (h:By d3)(k:By r3):jd (r0,r1,r2,r3,r4,r5,r6,r7) (3,d0,d1,d2,d3,d4,d5,d6,d7)=C (.inl (4,d0,d1,d2,d3+r3,d4,d5,d6,d7)):=by
 show C (aB (wB wC (3+1),d0,d1,d2,wB wC (d3+r3),d4,d5,d6,d7))=_;rw[pl1 h k];rfl
theorem dS2 (h:By d3):jz (3,d0,d1,d2,d3,d4,d5,d6,d7)=C (.inl (4,d0,d1,d2,255-d3,d4,d5,d6,d7)):=by
 show C (aB (wB wC (3+1),d0,d1,d2,wB wC (255-d3),d4,d5,d6,d7))=_;rw[ng1 h];rfl
theorem dU3 (h:By d4)(k:By r4):jd (r0,r1,r2,r3,r4,r5,r6,r7) (4,d0,d1,d2,d3,d4,d5,d6,d7)=C (.inl (5,d0,d1,d2,d3,d4+r4,d5,d6,d7)):=by
 show C (aB (wB wC (4+1),d0,d1,d2,d3,wB wC (d4+r4),d5,d6,d7))=_;rw[pl1 h k];rfl
theorem dS3 (h:By d4):jz (4,d0,d1,d2,d3,d4,d5,d6,d7)=C (.inl (5,d0,d1,d2,d3,255-d4,d5,d6,d7)):=by
 show C (aB (wB wC (4+1),d0,d1,d2,d3,wB wC (255-d4),d5,d6,d7))=_;rw[ng1 h];rfl
theorem dU4 (h:By d5)(k:By r5):jd (r0,r1,r2,r3,r4,r5,r6,r7) (5,d0,d1,d2,d3,d4,d5,d6,d7)=C (.inl (6,d0,d1,d2,d3,d4,d5+r5,d6,d7)):=by
 show C (aB (wB wC (5+1),d0,d1,d2,d3,d4,wB wC (d5+r5),d6,d7))=_;rw[pl1 h k];rfl
theorem dS4 (h:By d5):jz (5,d0,d1,d2,d3,d4,d5,d6,d7)=C (.inl (6,d0,d1,d2,d3,d4,255-d5,d6,d7)):=by
 show C (aB (wB wC (5+1),d0,d1,d2,d3,d4,wB wC (255-d5),d6,d7))=_;rw[ng1 h];rfl
theorem dU5 (h:By d6)(k:By r6):jd (r0,r1,r2,r3,r4,r5,r6,r7) (6,d0,d1,d2,d3,d4,d5,d6,d7)=C (.inl (7,d0,d1,d2,d3,d4,d5,d6+r6,d7)):=by
 show C (aB (wB wC (6+1),d0,d1,d2,d3,d4,d5,wB wC (d6+r6),d7))=_;rw[pl1 h k];rfl
theorem dS5 (h:By d6):jz (6,d0,d1,d2,d3,d4,d5,d6,d7)=C (.inl (7,d0,d1,d2,d3,d4,d5,255-d6,d7)):=by
 show C (aB (wB wC (6+1),d0,d1,d2,d3,d4,d5,wB wC (255-d6),d7))=_;rw[ng1 h];rfl
theorem dU6 (h:By d7)(k:By r7):jd (r0,r1,r2,r3,r4,r5,r6,r7) (7,d0,d1,d2,d3,d4,d5,d6,d7)=C (.inl (8,d0,d1,d2,d3,d4,d5,d6,d7+r7)):=by
 show C (aB (wB wC (7+1),d0,d1,d2,d3,d4,d5,d6,wB wC (d7+r7)))=_;rw[pl1 h k];rfl
theorem dS6 (h:By d7):jz (7,d0,d1,d2,d3,d4,d5,d6,d7)=C (.inl (8,d0,d1,d2,d3,d4,d5,d6,255-d7)):=by
 show C (aB (wB wC (7+1),d0,d1,d2,d3,d4,d5,d6,wB wC (255-d7)))=_;rw[ng1 h];rfl
theorem uz (x:Int):By (x % 256):=by unfold By;omega
theorem aC3 {a b:Int}(ha:vw a)(hb:vw b):sd a b=C (wB wD (a+b)):=by
 unfold sd;rw[aM0 ha,aM0 hb];simp only[wA,dgs];have key:cj (jd (b % 256,b / 256 % 256,b / 65536 % 256,b / 16777216 % 256,b / 4294967296 % 256,b / 1099511627776 % 256,b / 281474976710656 % 256,b / 72057594037927936 % 256)) gi (0,a % 256,a / 256 % 256,a / 65536 % 256,a / 16777216 % 256,a / 4294967296 % 256,a / 1099511627776 % 256,a / 281474976710656 % 256,a / 72057594037927936 % 256)=C (a % 256+b % 256,a / 256 % 256+b / 256 % 256,a / 65536 % 256+b / 65536 % 256,a / 16777216 % 256+b / 16777216 % 256,a / 4294967296 % 256+b / 4294967296 % 256,a / 1099511627776 % 256+b / 1099511627776 % 256,a / 281474976710656 % 256+b / 281474976710656 % 256,a / 72057594037927936 % 256+b / 72057594037927936 % 256):=iu ((((((((Reach.one (dT9 (uz _) (uz _))).trans (Reach.one (dU0 (uz _) (uz _)))).trans (Reach.one (dU1 (uz _) (uz _)))).trans (Reach.one (dU2 (uz _) (uz _)))).trans (Reach.one (dU3 (uz _) (uz _)))).trans (Reach.one (dU4 (uz _) (uz _)))).trans (Reach.one (dU5 (uz _) (uz _)))).trans (Reach.one (dU6 (uz _) (uz _)))) (by decide) rfl
 rw[key];simp only[wA];rw[bD4 (by unfold Sm;omega) (by unfold Sm;omega) (by unfold Sm;omega) (by unfold Sm;omega) (by unfold Sm;omega) (by unfold Sm;omega) (by unfold Sm;omega) (by unfold Sm;omega)];simp only[wA];unfold vw at ha hb;rw[wU]
 congr 1
 have e: ∀x:Int,0<=x/\x<18446744073709551616->x=x % 256+256*(x / 256 % 256)+65536*(x / 65536 % 256)+16777216*(x / 16777216 % 256)+4294967296*(x / 4294967296 % 256)+1099511627776*(x / 1099511627776 % 256)+281474976710656*(x / 281474976710656 % 256)+72057594037927936*(x / 72057594037927936 % 256):=λx h=>by omega
 have ea:=e a ha;have eb:=e b hb;generalize a % 256=a0 at*;generalize a / 256 % 256=a1 at*;generalize a / 65536 % 256=a2 at*;generalize a / 16777216 % 256=a3 at*;generalize a / 4294967296 % 256=a4 at*;generalize a / 1099511627776 % 256=a5 at*;generalize a / 281474976710656 % 256=a6 at*;generalize a / 72057594037927936 % 256=a7 at*;generalize b % 256=b0 at*;generalize b / 256 % 256=b1 at*;generalize b / 65536 % 256=b2 at*;generalize b / 16777216 % 256=b3 at*;generalize b / 4294967296 % 256=b4 at*;generalize b / 1099511627776 % 256=b5 at*;generalize b / 281474976710656 % 256=b6 at*;generalize b / 72057594037927936 % 256=b7 at*;omega
theorem bE0 {a:Int}(ha:vw a):ab7 a=C (wB wD (-a)):=by
 unfold ab7;rw[aM0 ha];simp only[wA,dgs];have key:cj jz gi (0,a % 256,a / 256 % 256,a / 65536 % 256,a / 16777216 % 256,a / 4294967296 % 256,a / 1099511627776 % 256,a / 281474976710656 % 256,a / 72057594037927936 % 256)=C (255-a % 256,255-a / 256 % 256,255-a / 65536 % 256,255-a / 16777216 % 256,255-a / 4294967296 % 256,255-a / 1099511627776 % 256,255-a / 281474976710656 % 256,255-a / 72057594037927936 % 256):=iu ((((((((Reach.one (dR9 (uz _))).trans (Reach.one (dS0 (uz _)))).trans (Reach.one (dS1 (uz _)))).trans (Reach.one (dS2 (uz _)))).trans (Reach.one (dS3 (uz _)))).trans (Reach.one (dS4 (uz _)))).trans (Reach.one (dS5 (uz _)))).trans (Reach.one (dS6 (uz _)))) (by decide) rfl;rw[key];simp only[wA];rw[bg (n:=255-a % 256+1) (by omega),bD4 (by unfold Sm;omega) (by unfold Sm;omega) (by unfold Sm;omega) (by unfold Sm;omega) (by unfold Sm;omega) (by unfold Sm;omega) (by unfold Sm;omega) (by unfold Sm;omega)]
 simp only[wA];unfold vw at ha;rw[wU]
 congr 1
 have ea:a=a % 256+256*(a / 256 % 256)+65536*(a / 65536 % 256)+16777216*(a / 16777216 % 256)+4294967296*(a / 4294967296 % 256)+1099511627776*(a / 1099511627776 % 256)+281474976710656*(a / 281474976710656 % 256)+72057594037927936*(a / 72057594037927936 % 256):=by omega
 generalize a % 256=a0 at*;generalize a / 256 % 256=a1 at*;generalize a / 65536 % 256=a2 at*;generalize a / 16777216 % 256=a3 at*;generalize a / 4294967296 % 256=a4 at*;generalize a / 1099511627776 % 256=a5 at*;generalize a / 281474976710656 % 256=a6 at*;generalize a / 72057594037927936 % 256=a7 at*;omega
theorem dD2 (hp:0<=p0/\p0<=1000000)(hx:By x0)(hy:By y0):ce (x0,x1,x2,x3,x4,x5,x6,x7) (y0,y1,y2,y3,y4,y5,y6,y7) 0 (0,p0,p1,p2,p3,p4,p5,p6,p7)=C (.inl (1,p0+x0*y0,p1,p2,p3,p4,p5,p6,p7)):=by
 show C (aB (wB wC (0+1),wB wC (p0+wB wC (x0*y0)),p1,p2,p3,p4,p5,p6,p7))=_;rw[(wF hp hx hy).1];rfl
theorem dD3 (hp:0<=p1/\p1<=1000000)(hx:By x0)(hy:By y1):ce (x0,x1,x2,x3,x4,x5,x6,x7) (y0,y1,y2,y3,y4,y5,y6,y7) 0 (1,p0,p1,p2,p3,p4,p5,p6,p7)=C (.inl (2,p0,p1+x0*y1,p2,p3,p4,p5,p6,p7)):=by
 show C (aB (wB wC (1+1),p0,wB wC (p1+wB wC (x0*y1)),p2,p3,p4,p5,p6,p7))=_;rw[(wF hp hx hy).1];rfl
theorem dD4 (hp:0<=p2/\p2<=1000000)(hx:By x0)(hy:By y2):ce (x0,x1,x2,x3,x4,x5,x6,x7) (y0,y1,y2,y3,y4,y5,y6,y7) 0 (2,p0,p1,p2,p3,p4,p5,p6,p7)=C (.inl (3,p0,p1,p2+x0*y2,p3,p4,p5,p6,p7)):=by
 show C (aB (wB wC (2+1),p0,p1,wB wC (p2+wB wC (x0*y2)),p3,p4,p5,p6,p7))=_;rw[(wF hp hx hy).1];rfl
theorem dD5 (hp:0<=p3/\p3<=1000000)(hx:By x0)(hy:By y3):ce (x0,x1,x2,x3,x4,x5,x6,x7) (y0,y1,y2,y3,y4,y5,y6,y7) 0 (3,p0,p1,p2,p3,p4,p5,p6,p7)=C (.inl (4,p0,p1,p2,p3+x0*y3,p4,p5,p6,p7)):=by
 show C (aB (wB wC (3+1),p0,p1,p2,wB wC (p3+wB wC (x0*y3)),p4,p5,p6,p7))=_;rw[(wF hp hx hy).1];rfl
theorem dD6 (hp:0<=p4/\p4<=1000000)(hx:By x0)(hy:By y4):ce (x0,x1,x2,x3,x4,x5,x6,x7) (y0,y1,y2,y3,y4,y5,y6,y7) 0 (4,p0,p1,p2,p3,p4,p5,p6,p7)=C (.inl (5,p0,p1,p2,p3,p4+x0*y4,p5,p6,p7)):=by
 show C (aB (wB wC (4+1),p0,p1,p2,p3,wB wC (p4+wB wC (x0*y4)),p5,p6,p7))=_;rw[(wF hp hx hy).1];rfl
theorem dD7 (hp:0<=p5/\p5<=1000000)(hx:By x0)(hy:By y5):ce (x0,x1,x2,x3,x4,x5,x6,x7) (y0,y1,y2,y3,y4,y5,y6,y7) 0 (5,p0,p1,p2,p3,p4,p5,p6,p7)=C (.inl (6,p0,p1,p2,p3,p4,p5+x0*y5,p6,p7)):=by
 show C (aB (wB wC (5+1),p0,p1,p2,p3,p4,wB wC (p5+wB wC (x0*y5)),p6,p7))=_;rw[(wF hp hx hy).1];rfl
theorem dD8 (hp:0<=p6/\p6<=1000000)(hx:By x0)(hy:By y6):ce (x0,x1,x2,x3,x4,x5,x6,x7) (y0,y1,y2,y3,y4,y5,y6,y7) 0 (6,p0,p1,p2,p3,p4,p5,p6,p7)=C (.inl (7,p0,p1,p2,p3,p4,p5,p6+x0*y6,p7)):=by
 show C (aB (wB wC (6+1),p0,p1,p2,p3,p4,p5,wB wC (p6+wB wC (x0*y6)),p7))=_;rw[(wF hp hx hy).1];rfl
theorem dD9 (hp:0<=p7/\p7<=1000000)(hx:By x0)(hy:By y7):ce (x0,x1,x2,x3,x4,x5,x6,x7) (y0,y1,y2,y3,y4,y5,y6,y7) 0 (7,p0,p1,p2,p3,p4,p5,p6,p7)=C (.inl (8,p0,p1,p2,p3,p4,p5,p6,p7+x0*y7)):=by
 show C (aB (wB wC (7+1),p0,p1,p2,p3,p4,p5,p6,wB wC (p7+wB wC (x0*y7))))=_;rw[(wF hp hx hy).1];rfl
theorem dU7 (h0:0<=p0/\p0<=1000000)(h1:0<=p1/\p1<=1000000)(h2:0<=p2/\p2<=1000000)(h3:0<=p3/\p3<=1000000)(h4:0<=p4/\p4<=1000000)(h5:0<=p5/\p5<=1000000)(h6:0<=p6/\p6<=1000000)(h7:0<=p7/\p7<=1000000)(hx:By x0)(k0:By y0)(k1:By y1)(k2:By y2)(k3:By y3)(k4:By y4)(k5:By y5)(k6:By y6)(k7:By y7):gz (x0,x1,x2,x3,x4,x5,x6,x7) (y0,y1,y2,y3,y4,y5,y6,y7) (0,p0,p1,p2,p3,p4,p5,p6,p7)=C (.inl (1,p0+x0*y0,p1+x0*y1,p2+x0*y2,p3+x0*y3,p4+x0*y4,p5+x0*y5,p6+x0*y6,p7+x0*y7)):=by
 have key:cj (ce (x0,x1,x2,x3,x4,x5,x6,x7) (y0,y1,y2,y3,y4,y5,y6,y7) 0) gi (0,p0,p1,p2,p3,p4,p5,p6,p7)=C (p0+x0*y0,p1+x0*y1,p2+x0*y2,p3+x0*y3,p4+x0*y4,p5+x0*y5,p6+x0*y6,p7+x0*y7):=iu ((((((((Reach.one (dD2 h0 hx k0)).trans (Reach.one (dD3 h1 hx k1))).trans (Reach.one (dD4 h2 hx k2))).trans (Reach.one (dD5 h3 hx k3))).trans (Reach.one (dD6 h4 hx k4))).trans (Reach.one (dD7 h5 hx k5))).trans (Reach.one (dD8 h6 hx k6))).trans (Reach.one (dD9 h7 hx k7))) (by decide) rfl;show(cj (ce (x0,x1,x2,x3,x4,x5,x6,x7) (y0,y1,y2,y3,y4,y5,y6,y7) 0) gi (0,p0,p1,p2,p3,p4,p5,p6,p7)).bind (λr=>C (aB (wB wC (0+1),r.1,r.2.1,r.2.2.1,r.2.2.2.1,r.2.2.2.2.1,r.2.2.2.2.2.1,r.2.2.2.2.2.2.1,r.2.2.2.2.2.2.2)))=_;rw[key];rfl
theorem dE0 (hp:0<=p1/\p1<=1000000)(hx:By x1)(hy:By y0):ce (x0,x1,x2,x3,x4,x5,x6,x7) (y0,y1,y2,y3,y4,y5,y6,y7) 1 (0,p0,p1,p2,p3,p4,p5,p6,p7)=C (.inl (1,p0,p1+x1*y0,p2,p3,p4,p5,p6,p7)):=by
 show C (aB (wB wC (0+1),p0,wB wC (p1+wB wC (x1*y0)),p2,p3,p4,p5,p6,p7))=_;rw[(wF hp hx hy).1];rfl
theorem dE1 (hp:0<=p2/\p2<=1000000)(hx:By x1)(hy:By y1):ce (x0,x1,x2,x3,x4,x5,x6,x7) (y0,y1,y2,y3,y4,y5,y6,y7) 1 (1,p0,p1,p2,p3,p4,p5,p6,p7)=C (.inl (2,p0,p1,p2+x1*y1,p3,p4,p5,p6,p7)):=by
 show C (aB (wB wC (1+1),p0,p1,wB wC (p2+wB wC (x1*y1)),p3,p4,p5,p6,p7))=_;rw[(wF hp hx hy).1];rfl
theorem dE2 (hp:0<=p3/\p3<=1000000)(hx:By x1)(hy:By y2):ce (x0,x1,x2,x3,x4,x5,x6,x7) (y0,y1,y2,y3,y4,y5,y6,y7) 1 (2,p0,p1,p2,p3,p4,p5,p6,p7)=C (.inl (3,p0,p1,p2,p3+x1*y2,p4,p5,p6,p7)):=by
 show C (aB (wB wC (2+1),p0,p1,p2,wB wC (p3+wB wC (x1*y2)),p4,p5,p6,p7))=_;rw[(wF hp hx hy).1];rfl
theorem dE3 (hp:0<=p4/\p4<=1000000)(hx:By x1)(hy:By y3):ce (x0,x1,x2,x3,x4,x5,x6,x7) (y0,y1,y2,y3,y4,y5,y6,y7) 1 (3,p0,p1,p2,p3,p4,p5,p6,p7)=C (.inl (4,p0,p1,p2,p3,p4+x1*y3,p5,p6,p7)):=by
 show C (aB (wB wC (3+1),p0,p1,p2,p3,wB wC (p4+wB wC (x1*y3)),p5,p6,p7))=_;rw[(wF hp hx hy).1];rfl
theorem dE4 (hp:0<=p5/\p5<=1000000)(hx:By x1)(hy:By y4):ce (x0,x1,x2,x3,x4,x5,x6,x7) (y0,y1,y2,y3,y4,y5,y6,y7) 1 (4,p0,p1,p2,p3,p4,p5,p6,p7)=C (.inl (5,p0,p1,p2,p3,p4,p5+x1*y4,p6,p7)):=by
 show C (aB (wB wC (4+1),p0,p1,p2,p3,p4,wB wC (p5+wB wC (x1*y4)),p6,p7))=_;rw[(wF hp hx hy).1];rfl
theorem dE5 (hp:0<=p6/\p6<=1000000)(hx:By x1)(hy:By y5):ce (x0,x1,x2,x3,x4,x5,x6,x7) (y0,y1,y2,y3,y4,y5,y6,y7) 1 (5,p0,p1,p2,p3,p4,p5,p6,p7)=C (.inl (6,p0,p1,p2,p3,p4,p5,p6+x1*y5,p7)):=by
 show C (aB (wB wC (5+1),p0,p1,p2,p3,p4,p5,wB wC (p6+wB wC (x1*y5)),p7))=_;rw[(wF hp hx hy).1];rfl
theorem dE6 (hp:0<=p7/\p7<=1000000)(hx:By x1)(hy:By y6):ce (x0,x1,x2,x3,x4,x5,x6,x7) (y0,y1,y2,y3,y4,y5,y6,y7) 1 (6,p0,p1,p2,p3,p4,p5,p6,p7)=C (.inl (7,p0,p1,p2,p3,p4,p5,p6,p7+x1*y6)):=by
 show C (aB (wB wC (6+1),p0,p1,p2,p3,p4,p5,p6,wB wC (p7+wB wC (x1*y6))))=_;rw[(wF hp hx hy).1];rfl
theorem dU8 (h1:0<=p1/\p1<=1000000)(h2:0<=p2/\p2<=1000000)(h3:0<=p3/\p3<=1000000)(h4:0<=p4/\p4<=1000000)(h5:0<=p5/\p5<=1000000)(h6:0<=p6/\p6<=1000000)(h7:0<=p7/\p7<=1000000)(hx:By x1)(k0:By y0)(k1:By y1)(k2:By y2)(k3:By y3)(k4:By y4)(k5:By y5)(k6:By y6):gz (x0,x1,x2,x3,x4,x5,x6,x7) (y0,y1,y2,y3,y4,y5,y6,y7) (1,p0,p1,p2,p3,p4,p5,p6,p7)=C (.inl (2,p0,p1+x1*y0,p2+x1*y1,p3+x1*y2,p4+x1*y3,p5+x1*y4,p6+x1*y5,p7+x1*y6)):=by
 have key:cj (ce (x0,x1,x2,x3,x4,x5,x6,x7) (y0,y1,y2,y3,y4,y5,y6,y7) 1) gi (0,p0,p1,p2,p3,p4,p5,p6,p7)=C (p0,p1+x1*y0,p2+x1*y1,p3+x1*y2,p4+x1*y3,p5+x1*y4,p6+x1*y5,p7+x1*y6):=iu (((((((Reach.one (dE0 h1 hx k0)).trans (Reach.one (dE1 h2 hx k1))).trans (Reach.one (dE2 h3 hx k2))).trans (Reach.one (dE3 h4 hx k3))).trans (Reach.one (dE4 h5 hx k4))).trans (Reach.one (dE5 h6 hx k5))).trans (Reach.one (dE6 h7 hx k6))) (by decide) rfl;show(cj (ce (x0,x1,x2,x3,x4,x5,x6,x7) (y0,y1,y2,y3,y4,y5,y6,y7) 1) gi (0,p0,p1,p2,p3,p4,p5,p6,p7)).bind (λr=>C (aB (wB wC (1+1),r.1,r.2.1,r.2.2.1,r.2.2.2.1,r.2.2.2.2.1,r.2.2.2.2.2.1,r.2.2.2.2.2.2.1,r.2.2.2.2.2.2.2)))=_;rw[key];rfl
theorem dE7 (hp:0<=p2/\p2<=1000000)(hx:By x2)(hy:By y0):ce (x0,x1,x2,x3,x4,x5,x6,x7) (y0,y1,y2,y3,y4,y5,y6,y7) 2 (0,p0,p1,p2,p3,p4,p5,p6,p7)=C (.inl (1,p0,p1,p2+x2*y0,p3,p4,p5,p6,p7)):=by
 show C (aB (wB wC (0+1),p0,p1,wB wC (p2+wB wC (x2*y0)),p3,p4,p5,p6,p7))=_;rw[(wF hp hx hy).1];rfl
theorem dE8 (hp:0<=p3/\p3<=1000000)(hx:By x2)(hy:By y1):ce (x0,x1,x2,x3,x4,x5,x6,x7) (y0,y1,y2,y3,y4,y5,y6,y7) 2 (1,p0,p1,p2,p3,p4,p5,p6,p7)=C (.inl (2,p0,p1,p2,p3+x2*y1,p4,p5,p6,p7)):=by
 show C (aB (wB wC (1+1),p0,p1,p2,wB wC (p3+wB wC (x2*y1)),p4,p5,p6,p7))=_;rw[(wF hp hx hy).1];rfl
theorem dE9 (hp:0<=p4/\p4<=1000000)(hx:By x2)(hy:By y2):ce (x0,x1,x2,x3,x4,x5,x6,x7) (y0,y1,y2,y3,y4,y5,y6,y7) 2 (2,p0,p1,p2,p3,p4,p5,p6,p7)=C (.inl (3,p0,p1,p2,p3,p4+x2*y2,p5,p6,p7)):=by
 show C (aB (wB wC (2+1),p0,p1,p2,p3,wB wC (p4+wB wC (x2*y2)),p5,p6,p7))=_;rw[(wF hp hx hy).1];rfl
theorem dF0 (hp:0<=p5/\p5<=1000000)(hx:By x2)(hy:By y3):ce (x0,x1,x2,x3,x4,x5,x6,x7) (y0,y1,y2,y3,y4,y5,y6,y7) 2 (3,p0,p1,p2,p3,p4,p5,p6,p7)=C (.inl (4,p0,p1,p2,p3,p4,p5+x2*y3,p6,p7)):=by
 show C (aB (wB wC (3+1),p0,p1,p2,p3,p4,wB wC (p5+wB wC (x2*y3)),p6,p7))=_;rw[(wF hp hx hy).1];rfl
theorem dF1 (hp:0<=p6/\p6<=1000000)(hx:By x2)(hy:By y4):ce (x0,x1,x2,x3,x4,x5,x6,x7) (y0,y1,y2,y3,y4,y5,y6,y7) 2 (4,p0,p1,p2,p3,p4,p5,p6,p7)=C (.inl (5,p0,p1,p2,p3,p4,p5,p6+x2*y4,p7)):=by
 show C (aB (wB wC (4+1),p0,p1,p2,p3,p4,p5,wB wC (p6+wB wC (x2*y4)),p7))=_;rw[(wF hp hx hy).1];rfl
theorem dF2 (hp:0<=p7/\p7<=1000000)(hx:By x2)(hy:By y5):ce (x0,x1,x2,x3,x4,x5,x6,x7) (y0,y1,y2,y3,y4,y5,y6,y7) 2 (5,p0,p1,p2,p3,p4,p5,p6,p7)=C (.inl (6,p0,p1,p2,p3,p4,p5,p6,p7+x2*y5)):=by
 show C (aB (wB wC (5+1),p0,p1,p2,p3,p4,p5,p6,wB wC (p7+wB wC (x2*y5))))=_;rw[(wF hp hx hy).1];rfl
theorem dU9 (h2:0<=p2/\p2<=1000000)(h3:0<=p3/\p3<=1000000)(h4:0<=p4/\p4<=1000000)(h5:0<=p5/\p5<=1000000)(h6:0<=p6/\p6<=1000000)(h7:0<=p7/\p7<=1000000)(hx:By x2)(k0:By y0)(k1:By y1)(k2:By y2)(k3:By y3)(k4:By y4)(k5:By y5):gz (x0,x1,x2,x3,x4,x5,x6,x7) (y0,y1,y2,y3,y4,y5,y6,y7) (2,p0,p1,p2,p3,p4,p5,p6,p7)=C (.inl (3,p0,p1,p2+x2*y0,p3+x2*y1,p4+x2*y2,p5+x2*y3,p6+x2*y4,p7+x2*y5)):=by
 have key:cj (ce (x0,x1,x2,x3,x4,x5,x6,x7) (y0,y1,y2,y3,y4,y5,y6,y7) 2) gi (0,p0,p1,p2,p3,p4,p5,p6,p7)=C (p0,p1,p2+x2*y0,p3+x2*y1,p4+x2*y2,p5+x2*y3,p6+x2*y4,p7+x2*y5):=iu ((((((Reach.one (dE7 h2 hx k0)).trans (Reach.one (dE8 h3 hx k1))).trans (Reach.one (dE9 h4 hx k2))).trans (Reach.one (dF0 h5 hx k3))).trans (Reach.one (dF1 h6 hx k4))).trans (Reach.one (dF2 h7 hx k5))) (by decide) rfl;show(cj (ce (x0,x1,x2,x3,x4,x5,x6,x7) (y0,y1,y2,y3,y4,y5,y6,y7) 2) gi (0,p0,p1,p2,p3,p4,p5,p6,p7)).bind (λr=>C (aB (wB wC (2+1),r.1,r.2.1,r.2.2.1,r.2.2.2.1,r.2.2.2.2.1,r.2.2.2.2.2.1,r.2.2.2.2.2.2.1,r.2.2.2.2.2.2.2)))=_;rw[key];rfl
theorem dF3 (hp:0<=p3/\p3<=1000000)(hx:By x3)(hy:By y0):ce (x0,x1,x2,x3,x4,x5,x6,x7) (y0,y1,y2,y3,y4,y5,y6,y7) 3 (0,p0,p1,p2,p3,p4,p5,p6,p7)=C (.inl (1,p0,p1,p2,p3+x3*y0,p4,p5,p6,p7)):=by
 show C (aB (wB wC (0+1),p0,p1,p2,wB wC (p3+wB wC (x3*y0)),p4,p5,p6,p7))=_;rw[(wF hp hx hy).1];rfl
theorem dF4 (hp:0<=p4/\p4<=1000000)(hx:By x3)(hy:By y1):ce (x0,x1,x2,x3,x4,x5,x6,x7) (y0,y1,y2,y3,y4,y5,y6,y7) 3 (1,p0,p1,p2,p3,p4,p5,p6,p7)=C (.inl (2,p0,p1,p2,p3,p4+x3*y1,p5,p6,p7)):=by
 show C (aB (wB wC (1+1),p0,p1,p2,p3,wB wC (p4+wB wC (x3*y1)),p5,p6,p7))=_;rw[(wF hp hx hy).1];rfl
theorem dF5 (hp:0<=p5/\p5<=1000000)(hx:By x3)(hy:By y2):ce (x0,x1,x2,x3,x4,x5,x6,x7) (y0,y1,y2,y3,y4,y5,y6,y7) 3 (2,p0,p1,p2,p3,p4,p5,p6,p7)=C (.inl (3,p0,p1,p2,p3,p4,p5+x3*y2,p6,p7)):=by
 show C (aB (wB wC (2+1),p0,p1,p2,p3,p4,wB wC (p5+wB wC (x3*y2)),p6,p7))=_;rw[(wF hp hx hy).1];rfl
theorem dF6 (hp:0<=p6/\p6<=1000000)(hx:By x3)(hy:By y3):ce (x0,x1,x2,x3,x4,x5,x6,x7) (y0,y1,y2,y3,y4,y5,y6,y7) 3 (3,p0,p1,p2,p3,p4,p5,p6,p7)=C (.inl (4,p0,p1,p2,p3,p4,p5,p6+x3*y3,p7)):=by
 show C (aB (wB wC (3+1),p0,p1,p2,p3,p4,p5,wB wC (p6+wB wC (x3*y3)),p7))=_;rw[(wF hp hx hy).1];rfl
theorem dF7 (hp:0<=p7/\p7<=1000000)(hx:By x3)(hy:By y4):ce (x0,x1,x2,x3,x4,x5,x6,x7) (y0,y1,y2,y3,y4,y5,y6,y7) 3 (4,p0,p1,p2,p3,p4,p5,p6,p7)=C (.inl (5,p0,p1,p2,p3,p4,p5,p6,p7+x3*y4)):=by
 show C (aB (wB wC (4+1),p0,p1,p2,p3,p4,p5,p6,wB wC (p7+wB wC (x3*y4))))=_;rw[(wF hp hx hy).1];rfl
theorem dV0 (h3:0<=p3/\p3<=1000000)(h4:0<=p4/\p4<=1000000)(h5:0<=p5/\p5<=1000000)(h6:0<=p6/\p6<=1000000)(h7:0<=p7/\p7<=1000000)(hx:By x3)(k0:By y0)(k1:By y1)(k2:By y2)(k3:By y3)(k4:By y4):gz (x0,x1,x2,x3,x4,x5,x6,x7) (y0,y1,y2,y3,y4,y5,y6,y7) (3,p0,p1,p2,p3,p4,p5,p6,p7)=C (.inl (4,p0,p1,p2,p3+x3*y0,p4+x3*y1,p5+x3*y2,p6+x3*y3,p7+x3*y4)):=by
 have key:cj (ce (x0,x1,x2,x3,x4,x5,x6,x7) (y0,y1,y2,y3,y4,y5,y6,y7) 3) gi (0,p0,p1,p2,p3,p4,p5,p6,p7)=C (p0,p1,p2,p3+x3*y0,p4+x3*y1,p5+x3*y2,p6+x3*y3,p7+x3*y4):=iu (((((Reach.one (dF3 h3 hx k0)).trans (Reach.one (dF4 h4 hx k1))).trans (Reach.one (dF5 h5 hx k2))).trans (Reach.one (dF6 h6 hx k3))).trans (Reach.one (dF7 h7 hx k4))) (by decide) rfl;show(cj (ce (x0,x1,x2,x3,x4,x5,x6,x7) (y0,y1,y2,y3,y4,y5,y6,y7) 3) gi (0,p0,p1,p2,p3,p4,p5,p6,p7)).bind (λr=>C (aB (wB wC (3+1),r.1,r.2.1,r.2.2.1,r.2.2.2.1,r.2.2.2.2.1,r.2.2.2.2.2.1,r.2.2.2.2.2.2.1,r.2.2.2.2.2.2.2)))=_;rw[key];rfl
theorem dF8 (hp:0<=p4/\p4<=1000000)(hx:By x4)(hy:By y0):ce (x0,x1,x2,x3,x4,x5,x6,x7) (y0,y1,y2,y3,y4,y5,y6,y7) 4 (0,p0,p1,p2,p3,p4,p5,p6,p7)=C (.inl (1,p0,p1,p2,p3,p4+x4*y0,p5,p6,p7)):=by
 show C (aB (wB wC (0+1),p0,p1,p2,p3,wB wC (p4+wB wC (x4*y0)),p5,p6,p7))=_;rw[(wF hp hx hy).1];rfl
theorem dF9 (hp:0<=p5/\p5<=1000000)(hx:By x4)(hy:By y1):ce (x0,x1,x2,x3,x4,x5,x6,x7) (y0,y1,y2,y3,y4,y5,y6,y7) 4 (1,p0,p1,p2,p3,p4,p5,p6,p7)=C (.inl (2,p0,p1,p2,p3,p4,p5+x4*y1,p6,p7)):=by
 show C (aB (wB wC (1+1),p0,p1,p2,p3,p4,wB wC (p5+wB wC (x4*y1)),p6,p7))=_;rw[(wF hp hx hy).1];rfl
theorem dG0 (hp:0<=p6/\p6<=1000000)(hx:By x4)(hy:By y2):ce (x0,x1,x2,x3,x4,x5,x6,x7) (y0,y1,y2,y3,y4,y5,y6,y7) 4 (2,p0,p1,p2,p3,p4,p5,p6,p7)=C (.inl (3,p0,p1,p2,p3,p4,p5,p6+x4*y2,p7)):=by
 show C (aB (wB wC (2+1),p0,p1,p2,p3,p4,p5,wB wC (p6+wB wC (x4*y2)),p7))=_;rw[(wF hp hx hy).1];rfl
theorem dG1 (hp:0<=p7/\p7<=1000000)(hx:By x4)(hy:By y3):ce (x0,x1,x2,x3,x4,x5,x6,x7) (y0,y1,y2,y3,y4,y5,y6,y7) 4 (3,p0,p1,p2,p3,p4,p5,p6,p7)=C (.inl (4,p0,p1,p2,p3,p4,p5,p6,p7+x4*y3)):=by
 show C (aB (wB wC (3+1),p0,p1,p2,p3,p4,p5,p6,wB wC (p7+wB wC (x4*y3))))=_;rw[(wF hp hx hy).1];rfl
theorem dV1 (h4:0<=p4/\p4<=1000000)(h5:0<=p5/\p5<=1000000)(h6:0<=p6/\p6<=1000000)(h7:0<=p7/\p7<=1000000)(hx:By x4)(k0:By y0)(k1:By y1)(k2:By y2)(k3:By y3):gz (x0,x1,x2,x3,x4,x5,x6,x7) (y0,y1,y2,y3,y4,y5,y6,y7) (4,p0,p1,p2,p3,p4,p5,p6,p7)=C (.inl (5,p0,p1,p2,p3,p4+x4*y0,p5+x4*y1,p6+x4*y2,p7+x4*y3)):=by
 have key:cj (ce (x0,x1,x2,x3,x4,x5,x6,x7) (y0,y1,y2,y3,y4,y5,y6,y7) 4) gi (0,p0,p1,p2,p3,p4,p5,p6,p7)=C (p0,p1,p2,p3,p4+x4*y0,p5+x4*y1,p6+x4*y2,p7+x4*y3):=iu ((((Reach.one (dF8 h4 hx k0)).trans (Reach.one (dF9 h5 hx k1))).trans (Reach.one (dG0 h6 hx k2))).trans (Reach.one (dG1 h7 hx k3))) (by decide) rfl;show(cj (ce (x0,x1,x2,x3,x4,x5,x6,x7) (y0,y1,y2,y3,y4,y5,y6,y7) 4) gi (0,p0,p1,p2,p3,p4,p5,p6,p7)).bind (λr=>C (aB (wB wC (4+1),r.1,r.2.1,r.2.2.1,r.2.2.2.1,r.2.2.2.2.1,r.2.2.2.2.2.1,r.2.2.2.2.2.2.1,r.2.2.2.2.2.2.2)))=_;rw[key];rfl
theorem dG2 (hp:0<=p5/\p5<=1000000)(hx:By x5)(hy:By y0):ce (x0,x1,x2,x3,x4,x5,x6,x7) (y0,y1,y2,y3,y4,y5,y6,y7) 5 (0,p0,p1,p2,p3,p4,p5,p6,p7)=C (.inl (1,p0,p1,p2,p3,p4,p5+x5*y0,p6,p7)):=by
 show C (aB (wB wC (0+1),p0,p1,p2,p3,p4,wB wC (p5+wB wC (x5*y0)),p6,p7))=_;rw[(wF hp hx hy).1];rfl
theorem dG3 (hp:0<=p6/\p6<=1000000)(hx:By x5)(hy:By y1):ce (x0,x1,x2,x3,x4,x5,x6,x7) (y0,y1,y2,y3,y4,y5,y6,y7) 5 (1,p0,p1,p2,p3,p4,p5,p6,p7)=C (.inl (2,p0,p1,p2,p3,p4,p5,p6+x5*y1,p7)):=by
 show C (aB (wB wC (1+1),p0,p1,p2,p3,p4,p5,wB wC (p6+wB wC (x5*y1)),p7))=_;rw[(wF hp hx hy).1];rfl
theorem dG4 (hp:0<=p7/\p7<=1000000)(hx:By x5)(hy:By y2):ce (x0,x1,x2,x3,x4,x5,x6,x7) (y0,y1,y2,y3,y4,y5,y6,y7) 5 (2,p0,p1,p2,p3,p4,p5,p6,p7)=C (.inl (3,p0,p1,p2,p3,p4,p5,p6,p7+x5*y2)):=by
 show C (aB (wB wC (2+1),p0,p1,p2,p3,p4,p5,p6,wB wC (p7+wB wC (x5*y2))))=_;rw[(wF hp hx hy).1];rfl
theorem dV2 (h5:0<=p5/\p5<=1000000)(h6:0<=p6/\p6<=1000000)(h7:0<=p7/\p7<=1000000)(hx:By x5)(k0:By y0)(k1:By y1)(k2:By y2):gz (x0,x1,x2,x3,x4,x5,x6,x7) (y0,y1,y2,y3,y4,y5,y6,y7) (5,p0,p1,p2,p3,p4,p5,p6,p7)=C (.inl (6,p0,p1,p2,p3,p4,p5+x5*y0,p6+x5*y1,p7+x5*y2)):=by
 have key:cj (ce (x0,x1,x2,x3,x4,x5,x6,x7) (y0,y1,y2,y3,y4,y5,y6,y7) 5) gi (0,p0,p1,p2,p3,p4,p5,p6,p7)=C (p0,p1,p2,p3,p4,p5+x5*y0,p6+x5*y1,p7+x5*y2):=iu (((Reach.one (dG2 h5 hx k0)).trans (Reach.one (dG3 h6 hx k1))).trans (Reach.one (dG4 h7 hx k2))) (by decide) rfl;show(cj (ce (x0,x1,x2,x3,x4,x5,x6,x7) (y0,y1,y2,y3,y4,y5,y6,y7) 5) gi (0,p0,p1,p2,p3,p4,p5,p6,p7)).bind (λr=>C (aB (wB wC (5+1),r.1,r.2.1,r.2.2.1,r.2.2.2.1,r.2.2.2.2.1,r.2.2.2.2.2.1,r.2.2.2.2.2.2.1,r.2.2.2.2.2.2.2)))=_;rw[key];rfl
theorem dG5 (hp:0<=p6/\p6<=1000000)(hx:By x6)(hy:By y0):ce (x0,x1,x2,x3,x4,x5,x6,x7) (y0,y1,y2,y3,y4,y5,y6,y7) 6 (0,p0,p1,p2,p3,p4,p5,p6,p7)=C (.inl (1,p0,p1,p2,p3,p4,p5,p6+x6*y0,p7)):=by
 show C (aB (wB wC (0+1),p0,p1,p2,p3,p4,p5,wB wC (p6+wB wC (x6*y0)),p7))=_;rw[(wF hp hx hy).1];rfl
theorem dG6 (hp:0<=p7/\p7<=1000000)(hx:By x6)(hy:By y1):ce (x0,x1,x2,x3,x4,x5,x6,x7) (y0,y1,y2,y3,y4,y5,y6,y7) 6 (1,p0,p1,p2,p3,p4,p5,p6,p7)=C (.inl (2,p0,p1,p2,p3,p4,p5,p6,p7+x6*y1)):=by
 show C (aB (wB wC (1+1),p0,p1,p2,p3,p4,p5,p6,wB wC (p7+wB wC (x6*y1))))=_;rw[(wF hp hx hy).1];rfl
theorem dV3 (h6:0<=p6/\p6<=1000000)(h7:0<=p7/\p7<=1000000)(hx:By x6)(k0:By y0)(k1:By y1):gz (x0,x1,x2,x3,x4,x5,x6,x7) (y0,y1,y2,y3,y4,y5,y6,y7) (6,p0,p1,p2,p3,p4,p5,p6,p7)=C (.inl (7,p0,p1,p2,p3,p4,p5,p6+x6*y0,p7+x6*y1)):=by
 have key:cj (ce (x0,x1,x2,x3,x4,x5,x6,x7) (y0,y1,y2,y3,y4,y5,y6,y7) 6) gi (0,p0,p1,p2,p3,p4,p5,p6,p7)=C (p0,p1,p2,p3,p4,p5,p6+x6*y0,p7+x6*y1):=iu ((Reach.one (dG5 h6 hx k0)).trans (Reach.one (dG6 h7 hx k1))) (by decide) rfl;show(cj (ce (x0,x1,x2,x3,x4,x5,x6,x7) (y0,y1,y2,y3,y4,y5,y6,y7) 6) gi (0,p0,p1,p2,p3,p4,p5,p6,p7)).bind (λr=>C (aB (wB wC (6+1),r.1,r.2.1,r.2.2.1,r.2.2.2.1,r.2.2.2.2.1,r.2.2.2.2.2.1,r.2.2.2.2.2.2.1,r.2.2.2.2.2.2.2)))=_;rw[key];rfl
theorem dG7 (hp:0<=p7/\p7<=1000000)(hx:By x7)(hy:By y0):ce (x0,x1,x2,x3,x4,x5,x6,x7) (y0,y1,y2,y3,y4,y5,y6,y7) 7 (0,p0,p1,p2,p3,p4,p5,p6,p7)=C (.inl (1,p0,p1,p2,p3,p4,p5,p6,p7+x7*y0)):=by
 show C (aB (wB wC (0+1),p0,p1,p2,p3,p4,p5,p6,wB wC (p7+wB wC (x7*y0))))=_;rw[(wF hp hx hy).1];rfl
theorem dV4 (h7:0<=p7/\p7<=1000000)(hx:By x7)(k0:By y0):gz (x0,x1,x2,x3,x4,x5,x6,x7) (y0,y1,y2,y3,y4,y5,y6,y7) (7,p0,p1,p2,p3,p4,p5,p6,p7)=C (.inl (8,p0,p1,p2,p3,p4,p5,p6,p7+x7*y0)):=by
 have key:cj (ce (x0,x1,x2,x3,x4,x5,x6,x7) (y0,y1,y2,y3,y4,y5,y6,y7) 7) gi (0,p0,p1,p2,p3,p4,p5,p6,p7)=C (p0,p1,p2,p3,p4,p5,p6,p7+x7*y0):=iu (Reach.one (dG7 h7 hx k0)) (by decide) rfl;show(cj (ce (x0,x1,x2,x3,x4,x5,x6,x7) (y0,y1,y2,y3,y4,y5,y6,y7) 7) gi (0,p0,p1,p2,p3,p4,p5,p6,p7)).bind (λr=>C (aB (wB wC (7+1),r.1,r.2.1,r.2.2.1,r.2.2.2.1,r.2.2.2.2.1,r.2.2.2.2.2.1,r.2.2.2.2.2.2.1,r.2.2.2.2.2.2.2)))=_;rw[key];rfl
theorem dz1 (x0 x1 x2 x3 x4 x5 x6 x7 y0 y1 y2 y3 y4 y5 y6 y7:Int):((0+x0*y0)+256*(0+x0*y1+x1*y0)+65536*(0+x0*y2+x1*y1+x2*y0)+16777216*(0+x0*y3+x1*y2+x2*y1+x3*y0)+4294967296*(0+x0*y4+x1*y3+x2*y2+x3*y1+x4*y0)+1099511627776*(0+x0*y5+x1*y4+x2*y3+x3*y2+x4*y1+x5*y0)+281474976710656*(0+x0*y6+x1*y5+x2*y4+x3*y3+x4*y2+x5*y1+x6*y0)+72057594037927936*(0+x0*y7+x1*y6+x2*y5+x3*y4+x4*y3+x5*y2+x6*y1+x7*y0)) % 18446744073709551616=((x0+256*x1+65536*x2+16777216*x3+4294967296*x4+1099511627776*x5+281474976710656*x6+72057594037927936*x7)*(y0+256*y1+65536*y2+16777216*y3+4294967296*y4+1099511627776*y5+281474976710656*y6+72057594037927936*y7)) % 18446744073709551616:=by
 have rows: ∀x:Int,x*(y0+256*y1+65536*y2+16777216*y3+4294967296*y4+1099511627776*y5+281474976710656*y6+72057594037927936*y7)=x*y0+256*(x*y1)+65536*(x*y2)+16777216*(x*y3)+4294967296*(x*y4)+1099511627776*(x*y5)+281474976710656*(x*y6)+72057594037927936*(x*y7):=λx=>by
  rw[cB,cB,cB,cB,cB,cB,cB,dB x 256 y1,dB x 65536 y2,dB x 16777216 y3,dB x 4294967296 y4,dB x 1099511627776 y5,dB x 281474976710656 y6,dB x 72057594037927936 y7]
 have cols: ∀y:Int,(x0+256*x1+65536*x2+16777216*x3+4294967296*x4+1099511627776*x5+281474976710656*x6+72057594037927936*x7)*y=x0*y+256*(x1*y)+65536*(x2*y)+16777216*(x3*y)+4294967296*(x4*y)+1099511627776*(x5*y)+281474976710656*(x6*y)+72057594037927936*(x7*y):=λy=>by
  rw[bD,bD,bD,bD,bD,bD,bD,cD 256 x1 y,cD 65536 x2 y,cD 16777216 x3 y,cD 4294967296 x4 y,cD 1099511627776 x5 y,cD 281474976710656 x6 y,cD 72057594037927936 x7 y]
 rw[cols,rows x0,rows x1,rows x2,rows x3,rows x4,rows x5,rows x6,rows x7];generalize x0*y0=z00;generalize x0*y1=z01;generalize x0*y2=z02;generalize x0*y3=z03;generalize x0*y4=z04;generalize x0*y5=z05;generalize x0*y6=z06;generalize x0*y7=z07;generalize x1*y0=z10;generalize x1*y1=z11;generalize x1*y2=z12;generalize x1*y3=z13;generalize x1*y4=z14;generalize x1*y5=z15;generalize x1*y6=z16;generalize x1*y7=z17;generalize x2*y0=z20;generalize x2*y1=z21;generalize x2*y2=z22;generalize x2*y3=z23;generalize x2*y4=z24;generalize x2*y5=z25;generalize x2*y6=z26;generalize x2*y7=z27;generalize x3*y0=z30;generalize x3*y1=z31;generalize x3*y2=z32;generalize x3*y3=z33;generalize x3*y4=z34;generalize x3*y5=z35;generalize x3*y6=z36;generalize x3*y7=z37;generalize x4*y0=z40;generalize x4*y1=z41;generalize x4*y2=z42;generalize x4*y3=z43;generalize x4*y4=z44;generalize x4*y5=z45;generalize x4*y6=z46;generalize x4*y7=z47;generalize x5*y0=z50;generalize x5*y1=z51;generalize x5*y2=z52;generalize x5*y3=z53;generalize x5*y4=z54
 generalize x5*y5=z55;generalize x5*y6=z56;generalize x5*y7=z57;generalize x6*y0=z60;generalize x6*y1=z61;generalize x6*y2=z62;generalize x6*y3=z63;generalize x6*y4=z64;generalize x6*y5=z65;generalize x6*y6=z66;generalize x6*y7=z67;generalize x7*y0=z70;generalize x7*y1=z71;generalize x7*y2=z72;generalize x7*y3=z73;generalize x7*y4=z74;generalize x7*y5=z75;generalize x7*y6=z76;generalize x7*y7=z77;refine(Int.add_mul_emod_self_right _ (1*z17+1*z26+256*z27+1*z35+256*z36+65536*z37+1*z44+256*z45+65536*z46+16777216*z47+1*z53+256*z54+65536*z55+16777216*z56+4294967296*z57+1*z62+256*z63+65536*z64+16777216*z65+4294967296*z66+1099511627776*z67+1*z71+256*z72+65536*z73+16777216*z74+4294967296*z75+1099511627776*z76+281474976710656*z77) _).symm.trans ?_
 congr 1
 omega
theorem be5 {a b:Int}(ha:vw a)(hb:vw b):vu a b=C (wB wD (a*b)):=by
 unfold vu;rw[aM0 ha,aM0 hb];simp only[wA,dgs];unfold vw at ha hb;have e: ∀x:Int,0<=x/\x<18446744073709551616->x=x % 256+256*(x / 256 % 256)+65536*(x / 65536 % 256)+16777216*(x / 16777216 % 256)+4294967296*(x / 4294967296 % 256)+1099511627776*(x / 1099511627776 % 256)+281474976710656*(x / 281474976710656 % 256)+72057594037927936*(x / 72057594037927936 % 256):=λx h=>by omega
 have ea:=e a ha;have eb:=e b hb;rw[wU];clear e;have qa0:By (a % 256):=uz _;have qa1:By (a / 256 % 256):=uz _;have qa2:By (a / 65536 % 256):=uz _;have qa3:By (a / 16777216 % 256):=uz _;have qa4:By (a / 4294967296 % 256):=uz _;have qa5:By (a / 1099511627776 % 256):=uz _;have qa6:By (a / 281474976710656 % 256):=uz _;have qa7:By (a / 72057594037927936 % 256):=uz _;have qb0:By (b % 256):=uz _;have qb1:By (b / 256 % 256):=uz _;have qb2:By (b / 65536 % 256):=uz _;have qb3:By (b / 16777216 % 256):=uz _;have qb4:By (b / 4294967296 % 256):=uz _;have qb5:By (b / 1099511627776 % 256):=uz _;have qb6:By (b / 281474976710656 % 256):=uz _;have qb7:By (b / 72057594037927936 % 256):=uz _
 suffices hs: ∀x0 x1 x2 x3 x4 x5 x6 x7 y0 y1 y2 y3 y4 y5 y6 y7:Int,By x0->By x1->By x2->By x3->By x4->By x5->By x6->By x7->By y0->By y1->By y2->By y3->By y4->By y5->By y6->By y7->(cj (gz (x0,x1,x2,x3,x4,x5,x6,x7) (y0,y1,y2,y3,y4,y5,y6,y7)) gi (0,0,0,0,0,0,0,0,0)).bind (λr29=>(pt r29.1 r29.2.1 r29.2.2.1 r29.2.2.2.1 r29.2.2.2.2.1 r29.2.2.2.2.2.1 r29.2.2.2.2.2.2.1 r29.2.2.2.2.2.2.2).bind λr30=>C r30)=C (((x0+256*x1+65536*x2+16777216*x3+4294967296*x4+1099511627776*x5+281474976710656*x6+72057594037927936*x7)*(y0+256*y1+65536*y2+16777216*y3+4294967296*y4+1099511627776*y5+281474976710656*y6+72057594037927936*y7)) % 18446744073709551616)by
  have:=hs _ _ _ _ _ _ _ _ _ _ _ _ _ _ _ _ qa0 qa1 qa2 qa3 qa4 qa5 qa6 qa7 qb0 qb1 qb2 qb3 qb4 qb5 qb6 qb7;rw[<-ea,<-eb]at this;exact this
 clear ea eb ha hb qa0 qb0 qa1 qb1 qa2 qb2 qa3 qb3 qa4 qb4 qa5 qb5 qa6 qb6 qa7 qb7;intro x0 x1 x2 x3 x4 x5 x6 x7 y0 y1 y2 y3 y4 y5 y6 y7 hx0 hx1 hx2 hx3 hx4 hx5 hx6 hx7 hy0 hy1 hy2 hy3 hy4 hy5 hy6 hy7;have z00:=(wF (p:=0) (by omega) hx0 hy0).2;have z01:=(wF (p:=0) (by omega) hx0 hy1).2;have z02:=(wF (p:=0) (by omega) hx0 hy2).2;have z03:=(wF (p:=0) (by omega) hx0 hy3).2;have z04:=(wF (p:=0) (by omega) hx0 hy4).2;have z05:=(wF (p:=0) (by omega) hx0 hy5).2;have z06:=(wF (p:=0) (by omega) hx0 hy6).2;have z07:=(wF (p:=0) (by omega) hx0 hy7).2;have z10:=(wF (p:=0) (by omega) hx1 hy0).2;have z11:=(wF (p:=0) (by omega) hx1 hy1).2;have z12:=(wF (p:=0) (by omega) hx1 hy2).2;have z13:=(wF (p:=0) (by omega) hx1 hy3).2;have z14:=(wF (p:=0) (by omega) hx1 hy4).2;have z15:=(wF (p:=0) (by omega) hx1 hy5).2;have z16:=(wF (p:=0) (by omega) hx1 hy6).2;have z20:=(wF (p:=0) (by omega) hx2 hy0).2;have z21:=(wF (p:=0) (by omega) hx2 hy1).2;have z22:=(wF (p:=0) (by omega) hx2 hy2).2;have z23:=(wF (p:=0) (by omega) hx2 hy3).2
 have z24:=(wF (p:=0) (by omega) hx2 hy4).2;have z25:=(wF (p:=0) (by omega) hx2 hy5).2;have z30:=(wF (p:=0) (by omega) hx3 hy0).2;have z31:=(wF (p:=0) (by omega) hx3 hy1).2;have z32:=(wF (p:=0) (by omega) hx3 hy2).2;have z33:=(wF (p:=0) (by omega) hx3 hy3).2;have z34:=(wF (p:=0) (by omega) hx3 hy4).2;have z40:=(wF (p:=0) (by omega) hx4 hy0).2;have z41:=(wF (p:=0) (by omega) hx4 hy1).2;have z42:=(wF (p:=0) (by omega) hx4 hy2).2;have z43:=(wF (p:=0) (by omega) hx4 hy3).2;have z50:=(wF (p:=0) (by omega) hx5 hy0).2;have z51:=(wF (p:=0) (by omega) hx5 hy1).2;have z52:=(wF (p:=0) (by omega) hx5 hy2).2;have z60:=(wF (p:=0) (by omega) hx6 hy0).2;have z61:=(wF (p:=0) (by omega) hx6 hy1).2;have z70:=(wF (p:=0) (by omega) hx7 hy0).2;have key:cj (gz (x0,x1,x2,x3,x4,x5,x6,x7) (y0,y1,y2,y3,y4,y5,y6,y7)) gi (0,0,0,0,0,0,0,0,0)=C (0+x0*y0,0+x0*y1+x1*y0,0+x0*y2+x1*y1+x2*y0,0+x0*y3+x1*y2+x2*y1+x3*y0,0+x0*y4+x1*y3+x2*y2+x3*y1+x4*y0,0+x0*y5+x1*y4+x2*y3+x3*y2+x4*y1+x5*y0,0+x0*y6+x1*y5+x2*y4+x3*y3+x4*y2+x5*y1+x6*y0,0+x0*y7+x1*y6+x2*y5+x3*y4+x4*y3+x5*y2+x6*y1+x7*y0):=iu ((((((((Reach.one (dU7 (by omega) (by omega) (by omega) (by omega) (by omega) (by omega) (by omega) (by omega) hx0 hy0 hy1 hy2 hy3 hy4 hy5 hy6 hy7)).trans (Reach.one (dU8 (by omega) (by omega) (by omega) (by omega) (by omega) (by omega) (by omega) hx1 hy0 hy1 hy2 hy3 hy4 hy5 hy6))).trans (Reach.one (dU9 (by omega) (by omega) (by omega) (by omega) (by omega) (by omega) hx2 hy0 hy1 hy2 hy3 hy4 hy5))).trans (Reach.one (dV0 (by omega) (by omega) (by omega) (by omega) (by omega) hx3 hy0 hy1 hy2 hy3 hy4))).trans (Reach.one (dV1 (by omega) (by omega) (by omega) (by omega) hx4 hy0 hy1 hy2 hy3))).trans (Reach.one (dV2 (by omega) (by omega) (by omega) hx5 hy0 hy1 hy2))).trans (Reach.one (dV3 (by omega) (by omega) hx6 hy0 hy1))).trans (Reach.one (dV4 (by omega) hx7 hy0))) (by decide) rfl
 rw[key];simp only[wA];rw[bD4 (by unfold Sm;omega) (by unfold Sm;omega) (by unfold Sm;omega) (by unfold Sm;omega) (by unfold Sm;omega) (by unfold Sm;omega) (by unfold Sm;omega) (by unfold Sm;omega),<-dz1];rfl
end
section
open List renaming replicate -> aB, append_assoc -> aD, getElem?_append_right -> bD, append_nil -> cD, getElem?_eq_getElem -> fB, getElem_mem -> fD
open Nat renaming le_refl -> bB, sub_self -> cB, add_zero -> dB, mul_comm -> dD, succ_mul -> eD, eq_zero_or_pos -> gB, le_mul_of_pos_left -> gD, mul_le_mul_right -> iA
theorem dJ8 (k:Int): ∃x,jj k=C (Zc (1<=k/\k<=6),x):=by
 have h: ∀b c:Bool×Bool×Bool,∀p q:Bool,p=q->∃x,(C (p,b):Option (Bool×Bool×Bool×Bool))=C (q,x):=λb _ p q e=>⟨b,by rw[e]⟩
 unfold jj;simp only[cd]
 repeat' split
 all_goals (simp only[wA,dg,cq,cd])
 all_goals (repeat' split)
 all_goals (refine h _ (Za,Za,Za) _ _ ?_;symm;first|exact zD (by omega)|exact zB (by omega))
section
variable {l:List df} {R:Int} {f:Fo}
theorem cI7 (hP:Prg R l f): ∃m S,ng l=C (0,m)/\MOK l m/\al3 l=C (0,S)/\cV3 l m S:=by
 have hl:=hP.ops.len;have hs:dj l 0=C 0:=by rw[<-hP.src];exact Fo.scan0 hP.ok
 rcases be6 (l:=l) (by omega)with⟨_,m,hm,hM⟩|⟨h,_⟩
 .obtain⟨r,hr,r1,r2,r3⟩:=by7 (l:=l) (by omega) hP.ops.v;have hw:=hP.w;rcases r3 with⟨r3,_⟩|⟨_,_,r4,r5,r6⟩
  .rw[hw]at r3;exact(r3 rfl).elim
  refine⟨m,r.2.2.1,hm,hM, ?_,dH8 hM r4 (λo ho=>hP.ops.v o ho) r6⟩;unfold al3;rw[aw5 hl hP.ops.v,hw];simp only[wA];rw[zB (by simp),yD,hm];simp only[wA]
  have key:=gl (f:=xj l (0,m)) (n:=l.length) (λi=>r.2.2.1.take i) (c:=r.2.2.1) (by omega)
   (λi hi=>by
    obtain⟨a,b,h1,h2,h3⟩:=r6 i hi
    have hv:(if l[i].1=7 then(te l m (i:Int))else C (if l[i].1=0 then 0 else 1))=C a:=by
     by_cases hk:l[i].1=7
     .rw[xB hk];obtain⟨inner,e,rest,b',w,mi,q1,q2,q3,q4,q5,q6,q7,q8,q9,q10⟩:=aS5 hl hP.ops.v hM hs hi hk;obtain⟨h4,h5⟩:=(h3 hi).1 hk inner e rest q1 q2 q3;obtain⟨e1,e2⟩:=q10 _ h4;rw[q6,e1]
      have hb0:0<=b:=by
       obtain⟨w',w1,w2⟩: ∃w',br0 b=w'/\0<=w':=⟨w,e2.symm,q9⟩
       unfold br0 at w1;split at w1<;>omega
      rw[(bv4 hb0 (hP.ops.v _ (fD hi)).1 h5).1]
     .rw[xD hk];obtain⟨_,h4⟩:=(h3 hi).2 hk;rw[h4]
    have hk0:0<=l[i].1/\l[i].1<=7:=by
     have: ∀(l:List df) (d:Nat),dj l d≠O->∀o∈l,0<=o.1/\o.1<=7:=by
      intro l;induction l with
      |nil=>intro d _ o ho;cases ho
      |cons x l ih=>
       intro d hd o ho;simp only[dj]at hd;split at hd
       .exact(hd rfl).elim
       rename_i hx;rcases List.mem_cons.1 ho with rfl|ho
       .omega
       .split at hd
        .split at hd
         .exact(hd rfl).elim
         .exact ih _ hd o ho
        .split at hd
         .exact ih _ hd o ho
         .exact ih _ hd o ho
     exact this l 0 (by rw[hs];simp) _ (fD hi)
    unfold xj;simp only[cd];rw[xB (by omega),dh hi];simp only[wA]
    have hopt:(if l[i].1=7 then((te l m (i:Int)).bind λr7=>C r7)else((jj l[i].1).bind λr9=>cond r9.1 (C (1:Int)) (C 0)))=C a:=by
     by_cases hk:l[i].1=7
     .rw[xB hk]at hv⊢;rw[hv];rfl
     .rw[xD hk]at hv⊢;obtain⟨x,hx⟩:=dJ8 l[i].1;rw[hx];simp only[wA];rw[<-hv];by_cases h0:l[i].1=0
      .rw[xB h0,zB (by omega)];rfl
      .rw[xD h0,zD (by omega)];rfl
    rw[hopt];simp only[wA];rw[ej (by rw[List.length_take];omega) (by omega),bg (by omega)]
    have:r.2.2.1.take (i+1)=r.2.2.1.take i++[a]:=by
     have hlt:i<r.2.2.1.length:=by omega
     rw[fB hlt]at h1;injection h1 with h1
     rw[List.take_succ_eq_append_getElem hlt,h1]
    rw[this,show(i:Int)+1=((i+1:Nat):Int)by omega])
   (by
    unfold xj
    rw[zB (by omega),yD,List.take_of_length_le (by omega)])
  rw[List.take_zero]at key;rw[key];rfl
 .exact(h hs).elim
theorem cx9 {m S:Zd}{i:Nat}{out:List df}(hl:l.length<=1000)(ho:out.length<=1000){x:df}(hx:l[i]?=C x)(h:x.1≠7∨∃n,S[i]?=C n/\n≠0):
  oj l (0,m) (0,S) ((i:Int),out)=C (.inl (((i+1:Nat):Int),out++[x])):=by
 obtain⟨hi,hx'⟩:=List.getElem?_eq_some_iff.1 hx;unfold oj;simp only[cd];rw[xB (by omega),dh hi,hx'];simp only[wA]
 have h9:(if x.1=7 then((ix (i:Int) S.length).bind λj7=>(S[j7]?).bind λx8=>if x8=0 then((ix (i:Int) m.length).bind λj9=>(m[j9]?).bind λx10=>C (.inl x10))else C (.inr (i:Int)))else C (.inr (i:Int)))=C (Sum.inr (i:Int):Int⊕Int):=by
  by_cases hk:x.1=7
  .rcases h with h|⟨n,h1,h2⟩
   .exact(h hk).elim
   rw[xB hk,cw (List.getElem?_eq_some_iff.1 h1).1];simp only[wA];rw[h1];simp only[wA];rw[xD h2]
  .rw[xD hk]
 rw[h9];simp only[wA,cq];rw[dh hi,hx'];simp only[wA];rw[ej (by omega) (by omega),bg (by omega)];rfl
theorem dB8 {m S:Zd}{i:Nat}{j:Nat}{out:List df}(hl:l.length<=1000){x:df}(hx:l[i]?=C x)(hk:x.1=7)(hs:S[i]?=C 0)(hm:m[i]?=C (j:Int))(hj:j<=1000):
  oj l (0,m) (0,S) ((i:Int),out)=C (.inl (((j+1:Nat):Int),out)):=by
 obtain⟨hi,hx'⟩:=List.getElem?_eq_some_iff.1 hx;unfold oj;simp only[cd];rw[xB (by omega),dh hi,hx'];simp only[wA];rw[xB hk,cw (List.getElem?_eq_some_iff.1 hs).1];simp only[wA];rw[hs];simp only[wA];rw[xB trivial,cw (List.getElem?_eq_some_iff.1 hm).1];simp only[wA];rw[hm];simp only[wA,dg];rw[bg (by omega)];rfl
theorem bW7 {m S:Zd}(hl:l.length<=1000)(hK:cV3 l m S): ∀(f:Fo) (A B:List df) (out:List df),l=A++f.src++B->f.Ok->out.length<=A.length->
  ∃k,k<=f.len/\Reach (oj l (0,m) (0,S)) k ((A.length:Int),out) (((A.length+f.len:Nat):Int),out++f.bare.src)
 | .nil,A,B,out,hs,_,_=>by
  refine⟨0,bB _, ?_⟩;simp only[Fo.bare,Fo.src,Fo.len,cD,dB];exact Reach.refl
 | .op o r,A,B,out,hs,hk,ho=>by
  have hA:(A++[o]).length=A.length+1:=by simp
  have hll:l.length=A.length+(r.len+1)+B.length:=by rw[hs];simp[Fo.src,Fo.src_len];omega
  have hx:l[A.length]?=C o:=by rw[hs,aD,bD (bB _),cB];rfl
  obtain⟨k,k1,k2⟩:=bW7 hl hK r (A++[o]) B (out++[o]) (by rw[hs];simp[Fo.src]) hk.2 (by simp;omega);refine⟨1+k,by simp only[Fo.len];omega, ?_⟩;have h1:=(Reach.one (cx9 (m:=m) (S:=S) (out:=out) hl (by omega) hx (.inl (by have:=hk.1;omega)))).trans (show Reach _ k _ _ from by rw[hA]at k2;exact k2);simp only[Fo.bare,Fo.src,Fo.len];rw[show A.length+(r.len+1)=A.length+1+r.len by omega];rw[aD]at h1;exact h1
 | .rep o b e r,A,B,out,hs,hk,ho=>by
  obtain⟨⟨k1,k2⟩,k3,k4⟩:=hk;have hll:l.length=A.length+(b.len+r.len+2)+B.length:=by rw[hs];simp[Fo.src,Fo.src_len];omega
  have hx:l[A.length]?=C o:=by rw[hs,aD,bD (bB _),cB];rfl
  obtain⟨hm,hS⟩:=hK.2.2 A (r.src++B) o e b (by rw[hs];simp[Fo.src]) k3 k1 k2;have hAr:(A++o::(b.src++[e])).length=A.length+1+b.len+1:=by simp[Fo.src_len];omega
  simp only[Fo.bare,Fo.len];by_cases hz:b.n*wG o=0
  .rw[xB hz];rw[hz]at hS;obtain⟨k,g1,g2⟩:=bW7 hl hK r (A++o::(b.src++[e])) B out (by rw[hs];simp[Fo.src]) k4 (by omega);refine⟨1+k,by omega, ?_⟩;have h1:=(Reach.one (dB8 (out:=out) hl hx k1 hS hm (by omega))).trans (show Reach _ k _ _ from by rw[hAr]at g2;exact g2);rw[show A.length+(b.len+r.len+2)=A.length+1+b.len+1+r.len by omega];exact h1
  .rw[xD hz];have hA:(A++[o]).length=A.length+1:=by simp
   have hAe:(A++o::b.src).length=A.length+1+b.len:=by simp[Fo.src_len];omega
   have hxe:l[A.length+1+b.len]?=C e:=by
    rw[show l=(A++o::b.src)++(e::(r.src++B))by rw[hs];simp[Fo.src],<-hAe,bD (bB _),cB];rfl
   obtain⟨kb,b1,b2⟩:=bW7 hl hK b (A++[o]) (e::(r.src++B)) (out++[o]) (by rw[hs];simp[Fo.src]) k3 (by simp;omega);rw[hA]at b2;have hbl:=b.bare_len;obtain⟨k,g1,g2⟩:=bW7 hl hK r (A++o::(b.src++[e])) B (out++[o]++b.bare.src++[e]) (by rw[hs];simp[Fo.src]) k4 (by simp[Fo.src_len];omega);rw[hAr]at g2;refine⟨1+kb+1+k,by omega, ?_⟩;have h1:=(((Reach.one (cx9 (m:=m) (out:=out) hl (by omega) hx (.inr ⟨_,hS,by omega⟩))).trans b2).trans (Reach.one (cx9 (m:=m) (S:=S) hl (by simp[Fo.src_len];omega) hxe (.inl (by omega))))).trans g2;rw[show A.length+(b.len+r.len+2)=A.length+1+b.len+1+r.len by omega];have e1:out++[o]++b.bare.src++[e]++r.bare.src=out++(Fo.rep o b.bare e r.bare).src:=by simp[Fo.src]
   rw[e1]at h1;exact h1
theorem cS3 (hP:Prg R l f):au2 l=C f.bare.src:=by
 obtain⟨m,S,h1,h2,h3,h4⟩:=cI7 hP;have hl:=hP.ops.len;unfold au2;rw[h1,h3];simp only[wA];obtain⟨k,k1,k2⟩:=bW7 (by omega) h4 f [] [] [] (by simp[hP.src]) hP.ok (by simp);have hfl:f.len=l.length:=by rw[<-Fo.src_len,hP.src]
 have:=iu (c:=f.bare.src) k2 (by omega) (by
  simp only[oj];rw[zB (by rw[hfl];simp),yD]
  rfl)
 rw[show((0:Int),([]:List df))=((([]:List df).length:Int),([]:List df))from rfl,this];rfl
end
section
variable {l:List df} {m:Zd}
def MOf (l:List df)(m:Zd):Prop:= ∀(A B:List df) (o e:df) (b:Fo),l=A++o::(b.src++e::B)->b.Ok->o.1=7->e.1=0->m[A.length]?=C ((A.length+1+b.len:Nat):Int)
theorem mOf (hm:MOK l m):MOf l m:=λA B o e b hl hb ho he=>by
 have hlen:l.length=A.length+1+(b.len+(B.length+1)):=by rw[hl];simp[Fo.src_len];omega
 have hlt:A.length<l.length:=by omega
 have hget:l[A.length]=o:=by
  have:l[A.length]?=C o:=by rw[hl,bD (bB _),cB];rfl
  rw[fB hlt]at this;injection this
 have hd:l.drop (A.length+1)=b.src++e::B:=by rw[hl,List.drop_append,List.drop_of_length_le (by omega),show A.length+1-A.length=1 by omega];rfl
 have:=hm.at' A.length hlt (by rw[hget];exact ho) b.src e B hd he (Fo.scan0 hb);rw[Fo.src_len]at this;exact this
theorem dx9 {K:List df->Zd->Int->Int->Option (List df×Int)}{i:Nat}{st:Nat}{a3:Int}{out:List df}(hl:l.length<=1000)(ho:out.length<=1000000)(hst:st<=1000000000000){x:df}(hx:l[i]?=C x)(hk:x.1≠7)(h3:(i:Int)<a3):
  me K l m a3 ((i:Int),(st:Int),out)=C (.inl (((i+1:Nat):Int),((st+1:Nat):Int),out++[x])):=by
 obtain⟨hi,hx'⟩:=List.getElem?_eq_some_iff.1 hx;unfold me;simp only[cd];rw[xB h3,dh hi,hx'];simp only[wA];rw[xB hk,ej (by omega) (by omega),bg (by omega),bg (by omega)];rfl
theorem cG2 {i:Nat}{u:List df}{nb:Nat}{s:Int×Int×List df}(hs:s.1=(i:Int)){x:df}(hx:l[i]?=C x)(hv:okV x)(st:Nat)(out:List df)(hst:st+wG x*(nb+1)<=1000000000000)(ho:out.length+wG x*u.length<=1000000)(hvo:wG x<=100000):
  cj (vj l s (u,(nb:Int))) gi (0,(st:Int),out)=C (((st+wG x*(nb+1):Nat):Int),out++(aB (wG x) u).flatten):=by
 obtain⟨hi,hx'⟩:=List.getElem?_eq_some_iff.1 hx;unfold okV at hv;have hvx:x.2.2.2.2=((wG x:Nat):Int):=(Int.toNat_of_nonneg hv.1).symm
 have key:=gl (f:=vj l s (u,(nb:Int))) (n:=wG x) (λk=>(((st+k*(nb+1):Nat):Int),out++(aB k u).flatten)) (c:=(((st+wG x*(nb+1):Nat):Int),out++(aB (wG x) u).flatten)) (by omega)
  (λk hk=>by
   have h1:k*(nb+1)+(nb+1)<=wG x*(nb+1):=by
    rw[<-eD];exact iA _ hk
   have h2:k*u.length+u.length<=wG x*u.length:=by
    rw[<-eD];exact iA _ hk
   unfold vj;simp only;rw[hs,dh hi,hx'];simp only[wA,cd];rw[xB (by rw[hvx];omega)];have hlen:(out++(aB k u).flatten).length=out.length+k*u.length:=by simp
   rw[hlen]
   have hf:jq (out.length+k*u.length+u.length) 40=Za:=by
    unfold jq;rw[zD (by omega)];rfl
   rw[show∀y:Option ((Int×Int×List df)⊕(Int×List df)),gd (jq (out.length+k*u.length+u.length) 40) y=y from λy=>by rw[hf];rfl];rw[zr ⟨by omega,by omega⟩,bg (n:=((st+k*(nb+1):Nat):Int)+nb) (by omega),bg (by omega)];rw[show(k:Int)+1=((k+1:Nat):Int)by omega,show((st+k*(nb+1):Nat):Int)+nb+1=((st+(k+1)*(nb+1):Nat):Int)by rw[eD];omega,aD]
   rw[show(aB (k+1) u).flatten=(aB k u).flatten++u by
    rw[List.replicate_succ',List.flatten_append];simp])
  (by
   unfold vj;simp only;rw[hs,dh hi,hx'];simp only[wA,cd]
   rw[xD (by rw[hvx];omega)])
 simp only[Nat.zero_mul,dB,List.replicate_zero,List.flatten_nil,cD]at key;exact key
theorem qm : ∀g:Fo,g.unroll.length=g.n
 | .nil=>rfl
 | .op o r=>by simp only[Fo.unroll,Fo.n,List.length_cons,qm r];omega
 | .rep o b e r=>by simp[Fo.unroll,Fo.n,qm r,qm b,dD]
theorem bw6 (hl:l.length<=1000)(hM:MOf l m): ∀(g:Fo) (fu:Nat) (A B:List df) (st:Nat) (out:List df) (a3:Int),l=A++g.src++B->g.Ok->g.Pos->(∀o∈g.src,okV o)->g.hi<=fu->out.length+g.n<=100000->st+g.steps<=1000000000000->((A.length+g.len:Nat):Int)<=a3->
  ∃k,k<=g.len/\Reach (me (ji fu) l m a3) k ((A.length:Int),(st:Int),out) (((A.length+g.len:Nat):Int),((st+g.steps:Nat):Int),out++g.unroll)
 | .nil,fu,A,B,st,out,a3,hs,_,_,_,_,_,_,_=>by
  refine⟨0,bB _, ?_⟩;simp only[Fo.unroll,Fo.steps,Fo.len,cD,dB];exact Reach.refl
 | .op o r,fu,A,B,st,out,a3,hs,hk,hp,hv,hh,hn,hst,h3=>by
  simp only[Fo.n,Fo.steps,Fo.len,Fo.hi]at hn hst h3 hh;have hA:(A++[o]).length=A.length+1:=by simp
  have hll:l.length=A.length+(r.len+1)+B.length:=by rw[hs];simp[Fo.src,Fo.src_len];omega
  have hx:l[A.length]?=C o:=by rw[hs,aD,bD (bB _),cB];rfl
  obtain⟨k,k1,k2⟩:=bw6 hl hM r fu (A++[o]) B (st+1) (out++[o]) a3 (by rw[hs];simp[Fo.src]) hk.2 hp (λx hx=>hv x (by simp[Fo.src,hx])) hh (by simp;omega) (by omega) (by rw[hA];omega);refine⟨1+k,by simp only[Fo.len];omega, ?_⟩;have h1:=(Reach.one (dx9 (m:=m) (K:=ji fu) (a3:=a3) (out:=out) (st:=st) hl (by omega) (by omega) hx (by have:=hk.1;omega) (by omega))).trans (show Reach _ k _ _ from by rw[hA]at k2;exact k2);simp only[Fo.unroll,Fo.steps,Fo.len];rw[show A.length+(r.len+1)=A.length+1+r.len by omega,show st+(1+r.steps)=st+1+r.steps by omega];rw[aD]at h1;exact h1
 | .rep o b e r,fu,A,B,st,out,a3,hs,hk,hp,hv,hh,hn,hst,h3=>by
  obtain⟨⟨k1,k2⟩,k3,k4⟩:=hk;obtain⟨p1,p2,p3⟩:=hp;simp only[Fo.n,Fo.steps,Fo.len,Fo.hi]at hn hst h3 hh;have hll:l.length=A.length+(b.len+r.len+2)+B.length:=by rw[hs];simp[Fo.src,Fo.src_len];omega
  have hx:l[A.length]?=C o:=by rw[hs,aD,bD (bB _),cB];rfl
  have hm:=hM A (r.src++B) o e b (by rw[hs];simp[Fo.src]) k3 k1 k2;have hA:(A++[o]).length=A.length+1:=by simp
  have hAr:(A++o::(b.src++[e])).length=A.length+1+b.len+1:=by simp[Fo.src_len];omega
  obtain⟨g,rfl⟩: ∃g,fu=g+1:=⟨fu-1,by omega⟩
  have hvo0:0<wG o/\0<b.n:=by
   rcases gB (wG o)with h0|h0
   .rw[h0,Nat.mul_zero]at p1;omega
   rcases gB b.n with h1|h1
   .rw[h1,Nat.zero_mul]at p1;omega
   exact⟨h0,h1⟩
  have hbn:b.n<=b.n*wG o:=Nat.le_mul_of_pos_right _ hvo0.1;have hvn:wG o<=b.n*wG o:=gD _ hvo0.2;have hbs:b.steps+1<=wG o*(b.steps+1):=gD _ hvo0.1;obtain⟨kb,b1,b2⟩:=bw6 hl hM b g (A++[o]) (e::(r.src++B)) 0 [] (((A.length+1+b.len:Nat):Int)) (by rw[hs];simp[Fo.src]) k3 p2 (λx hx=>hv x (by simp[Fo.src,hx])) (by omega) (by simp;omega) (by omega) (by rw[hA];omega);rw[hA]at b2
  have hin:ji (g+1) l m ((A.length+1:Nat):Int) ((A.length+1+b.len:Nat):Int)=C (b.unroll,(b.steps:Int)):=by
   show ad9 (ji g) l m _ _=_;unfold ad9
   have:=iu (c:=((b.steps:Int),b.unroll)) b2 (by omega) (by
    simp only[me];rw[zB (by omega),yD]
    simp)
   rw[show(((A.length+1:Nat):Int),(0:Int),([]:List df))=(((A.length+1:Nat):Int),((0:Nat):Int),([]:List df))from rfl,this];rfl
  have hone:me (ji (g+1)) l m a3 ((A.length:Int),(st:Int),out)=C (.inl (((A.length+1+b.len+1:Nat):Int),((st+1+wG o*(b.steps+1):Nat):Int),out++(aB (wG o) b.unroll).flatten)):=by
   obtain⟨hi,hx'⟩:=List.getElem?_eq_some_iff.1 hx;unfold me;simp only[cd];rw[xB (by omega),dh hi,hx'];simp only[wA];rw[xD (by omega)]
   have hmr:rd m ((A.length:Nat):Int)=C ((A.length+1+b.len:Nat):Int):=by
    obtain⟨q1,q2⟩:=List.getElem?_eq_some_iff.1 hm;rw[dh q1,q2]
   rw[hmr];simp only[wA];rw[bg (by omega),show(A.length:Int)+1=((A.length+1:Nat):Int)by omega,hin];simp only[wA];rw[bg (by omega),show(st:Int)+1=((st+1:Nat):Int)by omega];rw[cG2 (i:=A.length) (nb:=b.steps) (u:=b.unroll) (by rfl) hx (hv o (by simp[Fo.src])) (st+1) out (by omega) (by rw[qm,dD];omega) (by omega)];simp only[wA];rw[bg (by omega)];rfl
  obtain⟨k,g1,g2⟩:=bw6 hl hM r (g+1) (A++o::(b.src++[e])) B (st+1+wG o*(b.steps+1)) (out++(aB (wG o) b.unroll).flatten) a3 (by rw[hs];simp[Fo.src]) k4 p3 (λx hx=>hv x (by simp[Fo.src,hx])) (by omega) (by
    have:((aB (wG o) b.unroll).flatten).length=wG o*b.n:=by simp[qm]
    rw[List.length_append,this,dD];omega) (by omega) (by rw[hAr];omega)
  rw[hAr]at g2;refine⟨1+k,by simp only[Fo.len];omega, ?_⟩;have h1:=(Reach.one hone).trans g2;simp only[Fo.unroll,Fo.steps,Fo.len];rw[show A.length+(b.len+r.len+2)=A.length+1+b.len+1+r.len by omega,show st+(1+wG o*(b.steps+1)+r.steps)=st+1+wG o*(b.steps+1)+r.steps by omega];rw[aD]at h1;exact h1
end
section
variable {l:List df} {R:Int} {f:Fo}
theorem aw6 (hP:Prg R l f):pv R l=C (f.unroll,0):=by
 unfold pv;rw[cf5 hP.ops];simp only[wA];rw[hP.z,zB (by simp),yD,cS3 hP];simp only[wA];have hlen:f.bare.src.length<=100:=by rw[Fo.src_len];exact Nat.le_trans f.bare_len hP.len
 have hok:=f.bare_ok hP.ok;rcases be6 (l:=f.bare.src) (by omega)with⟨_,m,hm,hM⟩|⟨h,_⟩
 .rw[hm];simp only[wA];have hn:f.bare.n<=65536:=by rw[f.bare_n];exact hP.n
  have hhi:f.bare.hi<=399:=Nat.le_trans f.bare_hi (by have:=hP.deep;omega);obtain⟨k,k1,k2⟩:=bw6 (by omega) (mOf hM) f.bare 399 [] [] 0 [] ((f.bare.src.length:Nat):Int) (by simp) hok f.bare_pos (λo ho=>hP.ops.v o (by rw[<-hP.src];exact f.bare_mem ho)) hhi (by simp;omega) (by have:=hP.steps;omega) (by rw[Fo.src_len];simp);unfold aN6;show((ad9 (ji 399) _ _ _ _).bind _)=_;unfold ad9
  have:=iu (c:=(((f.bare.steps:Nat):Int),f.bare.unroll)) k2 (by have:=f.bare_len;have:=hP.len;omega) (by
   simp only[me];rw[zB (by rw[Fo.src_len];simp),yD]
   simp)
  rw[show((0:Int),(0:Int),([]:List df))=(((([]:List df).length:Nat):Int),((0:Nat):Int),([]:List df))from rfl,this];simp only[wA];rw[f.bare_unroll]
 .exact(h (Fo.scan0 hok)).elim
end
end
section
open Go.IntKind renaming wrap -> wB, i64 -> wC, u64 -> wD
open List renaming getElem_mem -> aB, length_take -> aD, mem_of_mem_take -> bB, take_length -> bD, take_succ_eq_append_getElem -> cB, append_assoc -> cD
def cz (r:Zd):Prop:= ∀x∈r,vw x
theorem w0 :vw 0:=by unfold vw;omega
theorem tw (n:Int):vw (wB wD n):=by rw[wU];unfold vw;omega
theorem aw8 {r:Zd}(h:cz r)(k:Int):vw (rg r k):=by
 unfold rg;rw[List.getD_eq_getElem?_getD];by_cases hk:k.toNat<r.length
 .rw[List.getElem?_eq_getElem hk];exact h _ (aB hk)
 .rw[List.getElem?_eq_none (by omega)];exact w0
theorem cz.set {r:Zd}(h:cz r){v:Int}(hv:vw v)(k:Nat):cz (r.set k v):=λx hx=>by
 rcases List.mem_or_eq_of_mem_set hx with h1|h1
 .exact h x h1
 .rw[h1];exact hv
theorem cz.app {r s:Zd}(h:cz r)(k:cz s):cz (r++s):=λx hx=>(List.mem_append.1 hx).elim (h x) (k x)
theorem cz.rep (n:Nat):cz (List.replicate n 0):=λx hx=>by rw[(List.mem_replicate.1 hx).2];exact w0
theorem cz.fill {R:Int}{r:Zd}(h:cz r):cz (fill R r):=h.app (cz.rep _)
theorem cz.drop {r:Zd}(h:cz r)(n:Nat):cz (r.drop n):=λx hx=>h x (List.mem_of_mem_drop hx)
theorem cz.take {r:Zd}(h:cz r)(n:Nat):cz (r.take n):=λx hx=>h x (bB hx)
theorem dH1 {o:df}(ho:okV o){x y:Int}(hx:vw x)(hy:vw y):vw (app o x y):=by
 unfold Go.V.app;unfold okV at ho
 repeat' split
 all_goals first|exact tw _|exact hx|exact w0|(unfold vw;omega)
theorem bI4 {o:df}{x y:Int}(hx:vw x)(hy:vw y):yx o.1 o.2.1 o.2.2.1 o.2.2.2.1 o.2.2.2.2 x y=C (app o x y):=by
 unfold yx Go.V.app;simp only[cd];rw[aC3 hx hy,bE0 hy,be5 hx hy,bE0 hx];simp only[wA];rw[aC3 hx (tw _)];have h1:wB wD (x+wB wD (-y))=wB wD (x-y):=by simp only[wU];omega
 have h2:(-x:Int)=0-x:=by omega
 simp only[wA];rw[h1,h2]
 repeat' split
 all_goals rfl
theorem bX0 (o:df)(x y:Int):xg o.1 o.2.1 o.2.2.1 o.2.2.2.1 o.2.2.2.2 x y=C (par o x y):=by
 unfold xg par;simp only[cd];rw[bE0 (a:=1) (by unfold vw;omega)];simp only[wA];rw[show wB wD (-1)=18446744073709551615 from rfl]
 repeat' split
 all_goals rfl
theorem aG8 {R:Int}{r:Zd}(hR:0<=R/\R<=1000000)(hr:r.length<=R.toNat):tf R r=C (fill R r):=by
 unfold tf;have hlen:=jb hr
 have key:=gl (f:=xm R r) (n:=R.toNat) (λi=>(fill R r).take i) (c:=fill R r) (by omega)
  (λi hi=>by
   unfold xm;simp only[cd];rw[xB (by omega)]
   have hv:(if(i:Int)<((r.length:Nat):Int)then(rd r (i:Int)).bind (λx5=>C x5)else C 0)=C ((fill R r)[i]'(by omega)):=by
    by_cases h:i<r.length
    .rw[xB (by omega),dh h];simp only[wA];unfold fill;rw[List.getElem_append_left h]
    .rw[xD (by omega)];unfold fill;rw[List.getElem_append_right (by omega),List.getElem_replicate]
   rw[hv];simp only[wA];rw[ej (by rw[aD];omega) (by omega),bg (by omega)];rw[cB (by omega)]
   rfl)
  (by
   unfold xm
   rw[zB (by omega),yD,List.take_of_length_le (by omega)])
 rw[List.take_zero]at key;rw[key];rfl
theorem bg8 {r:Zd}{f:Int×Zd->Option ((Int×Zd)⊕Zd)}(hr:r.length<=1000000)(s:Zd)(hs:s.length<=1000000)
  (hf: ∀s,f s=cond (Zc (s.1<((r.length:Nat):Int))) ((rd r s.1).bind λx=>gd (jq (s.2.length+1) 8) (C (.inl (wB wC (s.1+1),s.2++[x])))) (C (.inr s.2))):
  cj f gi (0,s)=C (s++r):=by
 have key:=gl (f:=f) (n:=r.length) (λi=>s++r.take i) (c:=s++r) (by omega)
  (λi hi=>by
   rw[hf,zD (by simp only;omega),yB,dh hi];simp only[wA];rw[ej (by rw[List.length_append,aD];omega) (by omega),bg (by omega),cB hi,cD]
   rfl)
  (by rw[hf,zB (by simp),yD,bD])
 rw[List.take_zero,List.append_nil]at key;exact key
theorem aU0 {r:Zd}(hr:r.length<=1000000):uP r=C r:=by
 unfold uP;rw[bg8 (f:=aV2 r) hr [] (by simp) (λs=>rfl)];rfl
theorem aw7 {a b c:Zd}(ha:a.length<=100000)(hb:b.length<=100000)(hc:c.length<=100000):um a b c=C (a++(b++c)):=by
 unfold um;rw[bg8 (r:=a) (f:=aE9 a) (by omega) [] (by simp) (λs=>rfl)];simp only[wA];rw[bg8 (r:=b) (f:=aF0 b) (by omega) _ (by simp;omega) (λs=>rfl)];simp only[wA];rw[bg8 (r:=c) (f:=aF1 c) (by omega) _ (by simp;omega) (λs=>rfl)];simp only[wA,List.nil_append,cD]
def dH5 (n:Nat)(l:List df):Prop:= ∀o∈l,inR n o/\okV o
theorem cF5 (l:List df): ∀s:FS,(fwd bf5 l s).1.length=s.1.length:=by
 induction l with
 |nil=>intro s;rfl
 |cons o l ih=>intro s;show(fwd bf5 l (bf5 o s)).1.length=_;rw[ih];unfold bf5;simp
theorem dl5 (l:List df): ∀s:FS,cz s.1->(∀o∈l,okV o)->cz (fwd bf5 l s).1:=by
 induction l with
 |nil=>intro s h _;exact h
 |cons o l ih=>
  intro s h ho;exact ih (bf5 o s) (h.set (dH1 (ho o (by simp)) (aw8 h _) (aw8 h _)) _) (λx hx=>ho x (by simp[hx]))
theorem cL2 {Y:Type}{stp:df->Y->Y}{l:List df}{i:Nat}(hi:i<l.length)(s:Y):fwd stp (l.take (i+1)) s=stp l[i] (fwd stp (l.take i) s):=by
 rw[cB hi,bM7];rfl
theorem bX2 {l:List df}{r:Zd}(hl:l.length<=1000000)(hr:r.length<=1000)(hg:dH5 r.length l)(hw:cz r)(n:Nat):xn l r=C (fwd bf5 l (r,n)).1:=by
 unfold xn;have hf:fill ((r.length:Nat):Int) r=r:=by unfold fill;simp
 rw[aG8 (by omega) (by omega),hf];simp only[wA]
 have key:=gl (f:=uc l) (n:=l.length) (λi=>(fwd bf5 (l.take i) (r,n)).1) (c:=(fwd bf5 l (r,n)).1) (by omega)
  (λi hi=>by
   rw[cL2 hi];have e1:=cF5 (l.take i) (r,n);have e2:=dl5 (l.take i) (r,n) hw (λo ho=>(hg o (bB ho)).2);generalize fwd bf5 (l.take i) (r,n)=s at*;have hgi:=hg _ (aB hi);generalize hx:l[i]=x at*;obtain⟨kd,ka,kb,q1,q2,q3,g1,g2,g3⟩:=aG2 hgi.1;have e1:s.1.length=r.length:=e1;unfold uc;simp only;rw[zD (by omega),yB,dh hi,hx];simp only[wA];rw[q2,q3,cw (by omega:ka<s.1.length)];simp only[wA];rw[gg (by omega:ka<s.1.length)];simp only[wA];rw[cw (by omega:kb<s.1.length)];simp only[wA];rw[gg (by omega:kb<s.1.length)];simp only[wA];rw[<-q2,<-q3,bI4 (aw8 e2 _) (aw8 e2 _)];simp only[wA];rw[q1,cw (by omega:kd<s.1.length)];simp only[wA];rw[gg (by omega:kd<s.1.length)];simp only[wA];rw[bg (by omega)];unfold bf5;rw[q1]
   rfl)
  (by
   unfold uc
   rw[zB (by simp),yD,bD])
 rw[show l.take 0=[]from rfl]at key;rw[show(0,r)=((0:Int),(fwd bf5 [] (r,n)).1)from rfl,key];rfl
section
variable {l:List df} {R:Int} {f:Fo}
theorem vh : ∀(g:Fo),g.Ok->∀o∈g.unroll,o∈g.src/\0<o.1/\o.1<7
 | .nil,_,o,ho=>by cases ho
 | .op x r,h,o,ho=>by
  rcases List.mem_cons.1 ho with rfl|ho
  .exact⟨by simp[Fo.src],h.1⟩
  .obtain⟨h1,h2⟩:=vh r h.2 o ho;exact⟨by simp[Fo.src,h1],h2⟩
 | .rep x b e r,h,o,ho=>by
  simp only[Fo.unroll]at ho;rcases List.mem_append.1 ho with ho|ho
  .obtain⟨u,hu,ho⟩:=List.mem_flatten.1 ho;rw[(List.mem_replicate.1 hu).2]at ho;obtain⟨h1,h2⟩:=vh b h.2.1 o ho;exact⟨by simp[Fo.src,h1],h2⟩
  .obtain⟨h1,h2⟩:=vh r h.2.2 o ho;exact⟨by simp[Fo.src,h1],h2⟩
theorem Prg.goodU (h:Prg R l f):dH5 R.toNat f.unroll:=λo ho=>by
 obtain⟨h1,h2⟩:=vh f h.ok o ho;rw[h.src]at h1;exact⟨h.regs o h1 h2,h.ops.v o h1⟩
theorem Prg.ulen (h:Prg R l f):f.unroll.length=f.n/\f.n<=65536:=⟨qm f,h.n⟩
theorem ck5 (h:Prg R l f){r:Zd}(hr:r.length<=R.toNat)(hw:cz r):am9 R l r=C (0,by5 f (fill R r)):=by
 have hR:=h.R1;have hu:=h.ulen;unfold am9 aN7;rw[aw6 h];simp only[wA];rw[zB (by simp),yD,zB (by omega),yD,zD (by omega),yB];simp only[wA];have hc:bo6 f.unroll 0 ((f.unroll.length:Nat):Int)=f.unroll:=by unfold bo6;simp
 have hgd:md 0 ((f.unroll.length:Nat):Int) f.unroll.length=Za:=i7 (by omega);rw[hgd,hc,aG8 ⟨by omega,by omega⟩ hr];simp only[wA,fg];rw[bX2 (by omega) (by rw[jb hr];omega) (by rw[jb hr];exact h.goodU) hw.fill 0];rfl
theorem bU3 (l:List df): ∀s:TS,(fwd yp l s).1.length=s.1.length/\(fwd yp l s).2.1.length=s.2.1.length/\(fwd yp l s).2.2=s.2.2+l.length:=by
 induction l with
 |nil=>intro s;exact⟨rfl,rfl,rfl⟩
 |cons o l ih=>
  intro s;obtain⟨h1,h2,h3⟩:=ih (yp o s);exact⟨h1.trans (by unfold yp;simp),h2.trans (by unfold yp;simp),h3.trans (by unfold yp;simp;omega)⟩
theorem dl6 (l:List df): ∀s:TS,cz s.1->cz s.2.1->(∀o∈l,okV o)->cz (fwd yp l s).1/\cz (fwd yp l s).2.1:=by
 induction l with
 |nil=>intro s h k _;exact⟨h,k⟩
 |cons o l ih=>
  intro s h k ho;exact ih (yp o s) (h.set (dH1 (ho o (by simp)) (aw8 h _) (aw8 h _)) _) (k.set (aw8 h _) _) (λx hx=>ho x (by simp[hx]))
theorem cy4 (h:Prg R l f){r t:Zd}(hr:r.length=R.toNat)(ht:f.n<=t.length)(ht2:t.length<=1000000)(hw:cz r)(hwt:cz t):af5 R l r t=C ((f.n:Int),0,(yo f r t).1,(yo f r t).2.1):=by
 have hR:=h.R1;have hu:=h.ulen;have hg:=h.goodU;unfold af5 aH5;rw[aw6 h];simp only[wA];rw[zB (by simp),yD,zB (by omega),yD,zB (by omega),yD,aU0 (by omega),aU0 ht2];simp only[wA];rw[zB (by simp),yD]
 have key:=gl (f:=wu (f.unroll,0)) (n:=f.unroll.length) (λi=>((fwd yp (f.unroll.take i) (r,t,0)).1,(fwd yp (f.unroll.take i) (r,t,0)).2.1)) (c:=((yo f r t).1,(yo f r t).2.1)) (by omega)
  (λi hi=>by
   rw[cL2 hi];obtain⟨e1,e3,e4⟩:=bU3 (f.unroll.take i) (r,t,0);obtain⟨e2,e5⟩:=dl6 (f.unroll.take i) (r,t,0) hw hwt (λo ho=>(hg o (bB ho)).2);rw[aD,Nat.min_eq_left (by omega)]at e4;generalize fwd yp (f.unroll.take i) (r,t,0)=s at*;have hgi:=hg _ (aB hi);generalize hx:f.unroll[i]=x at*;obtain⟨kd,ka,kb,q1,q2,q3,g1,g2,g3⟩:=aG2 hgi.1;have e1:s.1.length=r.length:=e1;have e3:s.2.1.length=t.length:=e3;have e4:s.2.2=i:=by rw[e4];simp
   unfold wu;simp only;rw[zD (by omega),yB,dh hi,hx];simp only[wA];rw[q1,cw (by omega:kd<s.1.length)];simp only[wA];rw[gg (by omega:kd<s.1.length)];simp only[wA];rw[cw (by omega:i<s.2.1.length)];simp only[wA];rw[gg (by omega:i<s.2.1.length)];simp only[wA];rw[q2,q3,cw (by omega:ka<s.1.length)];simp only[wA];rw[gg (by omega:ka<s.1.length)];simp only[wA];rw[cw (by omega:kb<s.1.length)];simp only[wA];rw[gg (by omega:kb<s.1.length)];simp only[wA];have ha:=bI4 (o:=x) (aw8 e2 x.2.2.1) (aw8 e2 x.2.2.2.1);rw[q1,q2,q3]at ha;rw[ha];simp only[wA];rw[bg (by omega)];unfold yp;rw[q1,q2,q3,e4]
   rfl)
  (by
   unfold wu;rw[zB (by simp),yD,bD]
   rfl)
 rw[show f.unroll.take 0=[]from rfl]at key;rw[show((0:Int),r,t)=((0:Int),(fwd yp [] (r,t,0)).1,(fwd yp [] (r,t,0)).2.1)from rfl,key];simp only[wA];rw[hu.1]
end
end
section
open Go.IntKind renaming wrap -> wB, i64 -> wC, u64 -> wD
open Int renaming toNat_natCast -> aD
open List renaming replicate -> aB, getElem?_eq_getElem -> bB
theorem cT5 {a:Zd}{k:Nat}(h:k<a.length):a.set k (rg a (k:Int))=a:=by
 have:=gg h;rw[bB h]at this;injection this with this
 rw[<-this];exact List.set_getElem_self h
theorem dq2 (o:df)(hk:0<o.1/\o.1<7)(x y:Int):((dx o.1).2.1=Zb->(par o x y).1=0)/\((dx o.1).2.2.1=Zb->(par o x y).2=0):=by
 have:o.1=1∨o.1=2∨o.1=3∨o.1=4∨o.1=5∨o.1=6:=by omega
 rcases this with h|h|h|h|h|h<;>(unfold dx par;simp[h])
theorem dT8 {o:df}{x y:Int}(hx:vw x)(hy:vw y):vw (par o x y).1/\vw (par o x y).2:=by
 unfold par;have h1:vw 1:=by unfold vw;omega
 have h2:vw 18446744073709551615:=by unfold vw;omega
 repeat' split
 all_goals first|exact⟨h1,h1⟩|exact⟨h1,h2⟩|exact⟨hy,hx⟩|exact⟨h2,w0⟩|exact⟨h1,w0⟩|exact⟨w0,w0⟩
theorem dq6 {o:df}{r a:Zd}{t:Int}(hr:cz r)(ha:cz a)(ht:vw t):cz (bx7 o r a t).1/\cz (bx7 o r a t).2:=by
 unfold bx7;exact⟨hr.set ht _,((ha.set w0 _).set (tw _) _).set (tw _) _⟩
theorem wU0 {x:Int}(hx:vw x)(g:Int):wB wD (x+wB wD (0*g))=x:=by
 rw[Int.zero_mul,show wB wD 0=0 from rfl,Int.add_zero];exact zr hx
section
variable {l:List df} {R:Int} {f:Fo}
theorem db7 {ls:List df}{t:Zd}{i:Nat}{r a:Zd}(hi:i<ls.length)(hl:ls.length<=1000000)(hg:inR r.length ls[i]/\okV ls[i])(hk:0<ls[i].1/\ls[i].1<7)(ha:a.length=r.length)(ht:i<t.length)(wr:cz r)(wa:cz a)(wt:cz t):
  vl t (ls,0) ((i:Int),r,a)=C (.inl ((i:Int)-1,(bx7 ls[i] r a (rg t (i:Int))).1,(bx7 ls[i] r a (rg t (i:Int))).2)):=by
 generalize hx:ls[i]=x at*;obtain⟨kd,ka,kb,q1,q2,q3,g1,g2,g3⟩:=aG2 hg.1;unfold vl;simp only;rw[zD (by omega),yB,dh hi,hx];simp only[wA];have hp:=dq6 (o:=x) wr wa (aw8 wt (i:Int));have hpar:=bX0 x;have hpn:=dq2 x hk;unfold bx7;simp only
 have hrt:rd t (i:Int)=C (rg t (i:Int)):=by
  rw[dh ht];have:=gg ht;rw[bB ht]at this;exact this
 have hpw:=dT8 (o:=x) (aw8 (wr.set (aw8 wt (i:Int)) x.2.1.toNat) x.2.2.1) (aw8 (wr.set (aw8 wt (i:Int)) x.2.1.toNat) x.2.2.2.1);rw[q1]at hpw⊢;rw[aD]at hpw⊢;rw[q2,q3]at hpw⊢;rw[aD,aD];rw[cw (by omega:kd<a.length)];simp only[wA];rw[gg (by omega:kd<a.length)];simp only[wA];rw[hrt];simp only[wA];rw[cw (by omega:kd<r.length)];simp only[wA];rw[gg (by omega:kd<r.length)];simp only[wA];have wr1:=wr.set (aw8 wt (i:Int)) kd;have lr1:(r.set kd (rg t (i:Int))).length=r.length:=by simp
 have wa1:=wa.set w0 kd;have la1:(a.set kd 0).length=r.length:=by simp[ha]
 have wg:=aw8 wa (kd:Int);generalize r.set kd (rg t (i:Int))=r1 at*;generalize a.set kd 0=a1 at*;generalize rg a (kd:Int)=g at*;rw[cw (by omega:ka<r1.length)];simp only[wA];rw[gg (by omega:ka<r1.length)];simp only[wA];rw[cw (by omega:kb<r1.length)];simp only[wA];rw[gg (by omega:kb<r1.length)];simp only[wA];have hp2:=hpar (rg r1 (ka:Int)) (rg r1 (kb:Int));rw[q1,q2,q3]at hp2;rw[hp2,aJ9];have hpn2:=hpn (rg r1 (ka:Int)) (rg r1 (kb:Int));generalize par x (rg r1 (ka:Int)) (rg r1 (kb:Int))=q at*;generalize dx x.1=s at*;simp only[wA];rw[cw (by omega:ka<a1.length)];simp only[wA];rw[gg (by omega:ka<a1.length)];simp only[wA];rw[be5 hpw.1 wg];simp only[wA];rw[aC3 (aw8 wa1 _) (tw _)];simp only[wA]
 have h1:(cond s.2.1 (C (a1.set ka (wB wD (rg a1 (ka:Int)+wB wD (q.1*g))))) (C a1))=C (a1.set ka (wB wD (rg a1 (ka:Int)+wB wD (q.1*g)))):=by
  cases hs:s.2.1 with
  |true=>rfl
  |false=>rw[yD,hpn2.1 hs,wU0 (aw8 wa1 _),cT5 (by omega)]
 rw[h1];simp only[wA];have wa2:=wa1.set (tw (rg a1 (ka:Int)+wB wD (q.1*g))) ka;have la2:(a1.set ka (wB wD (rg a1 (ka:Int)+wB wD (q.1*g)))).length=r.length:=by simp[la1]
 generalize a1.set ka (wB wD (rg a1 (ka:Int)+wB wD (q.1*g)))=a2 at*;rw[cw (by omega:kb<a2.length)];simp only[wA];rw[gg (by omega:kb<a2.length)];simp only[wA];rw[be5 hpw.2 wg];simp only[wA];rw[aC3 (aw8 wa2 _) (tw _),bg (by omega)];simp only[wA];cases hs:s.2.2.1 with
 |true=>rfl
 |false=>rw[yD,hpn2.2 hs,wU0 (aw8 wa2 _),cT5 (by omega)]
theorem dl1 {Y:Type}{stp:df->Y->Y}{l:List df}{i:Nat}(hi:i<l.length)(s:Y):bwd stp (l.drop i) s=stp l[i] (bwd stp (l.drop (i+1)) s):=by
 rw[List.drop_eq_getElem_cons hi];rfl
theorem cW1 {t:Zd}(wt:cz t)(l:List df): ∀s:BS,cz s.1->cz s.2.1->(bwd (vg t) l s).1.length=s.1.length/\(bwd (vg t) l s).2.1.length=s.2.1.length/\(bwd (vg t) l s).2.2=s.2.2-l.length/\cz (bwd (vg t) l s).1/\cz (bwd (vg t) l s).2.1:=by
 induction l with
 |nil=>intro s h k;exact⟨rfl,rfl,rfl,h,k⟩
 |cons o l ih=>
  intro s h k;obtain⟨h1,h2,h3,h4,h5⟩:=ih s h k;have hp:=bW6 o (bwd (vg t) l s).1 (bwd (vg t) l s).2.1 (rg t (((bwd (vg t) l s).2.2-1:Nat):Int));have hw:=dq6 (o:=o) h4 h5 (aw8 wt (((bwd (vg t) l s).2.2-1:Nat):Int));refine⟨hp.1.trans h1,hp.2.trans h2, ?_,hw.1,hw.2⟩;show(bwd (vg t) l s).2.2-1=_;rw[h3,List.length_cons];omega
theorem cS4 (h:Prg R l f){r a t:Zd}(hr:r.length=R.toNat)(ha:a.length=R.toNat)(ht:f.n<=t.length)(wr:cz r)(wa:cz a)(wt:cz t):au3 R l r a t=C (0,(mg f r a t).1,(mg f r a t).2.1):=by
 have hR:=h.R1;have hu:=h.ulen;have hg:=h.goodU;have hk:=vh f h.ok;unfold au3;rw[aw6 h];simp only[wA];rw[aU0 (by omega),aU0 (by omega)];simp only[wA];rw[zB (by simp),yD,zB (by omega),yD,zB (by omega),yD,zB (by omega),yD,bg (by omega)]
 have key:=aB8 (f:=vl t (f.unroll,0)) (n:=f.unroll.length) (λk=>((f.unroll.length:Int)-1-(k:Int),(bwd (vg t) (f.unroll.drop (f.unroll.length-k)) (r,a,f.n)).1,(bwd (vg t) (f.unroll.drop (f.unroll.length-k)) (r,a,f.n)).2.1)) (c:=((mg f r a t).1,(mg f r a t).2.1)) (by omega)
  (λk hki=>by
   obtain⟨i,hi⟩: ∃i,f.unroll.length-k=i+1:=⟨f.unroll.length-k-1,by omega⟩
   have hil:i<f.unroll.length:=by omega
   rw[show f.unroll.length-(k+1)=i by omega,hi,dl1 hil];obtain⟨e1,e2,e3,e4,e5⟩:=cW1 wt (f.unroll.drop (i+1)) (r,a,f.n) wr wa;rw[List.length_drop]at e3;generalize bwd (vg t) (f.unroll.drop (i+1)) (r,a,f.n)=s at*;have e1:s.1.length=r.length:=e1;have e2:s.2.1.length=a.length:=e2;have e3:s.2.2=i+1:=by rw[e3];simp only;omega
   have hmem:=List.getElem_mem hil;rw[show(f.unroll.length:Int)-1-(k:Int)=(i:Int)by omega];rw[db7 hil (by omega) (by rw[e1,hr];exact hg _ hmem) (hk _ hmem).2 (by omega) (by omega) e4 e5 wt];unfold vg;rw[e3,show(f.unroll.length:Int)-1-((k+1:Nat):Int)=(i:Int)-1 by omega]
   rfl)
  (by
   simp only[Nat.sub_self,List.drop_zero];unfold vl;rw[zB (by omega),yD]
   rfl)
 simp only[Nat.sub_zero,List.drop_length]at key;rw[show((f.unroll.length:Int)-1,r,a)=((f.unroll.length:Int)-1-((0:Nat):Int),(bwd (vg t) [] (r,a,f.n)).1,(bwd (vg t) [] (r,a,f.n)).2.1)from by simp[bwd],key];rfl
theorem aT9 (h:Prg R l f){r t:Zd}(wr:cz r)(wt:cz t):cz (yo f r t).1/\cz (yo f r t).2.1/\(yo f r t).1.length=r.length/\(yo f r t).2.1.length=t.length:=by
 obtain⟨h1,h2⟩:=dl6 f.unroll (r,t,0) wr wt (λo ho=>(h.goodU o ho).2);obtain⟨h3,h4,_⟩:=bU3 f.unroll (r,t,0);exact⟨h1,h2,h3,h4⟩
def cI2 (R:Int)(f:Fo)(r w:Zd):Zd:=(mg f (yo f (fill R r) (aB f.n 0)).1 (fill R w) (yo f (fill R r) (aB f.n 0)).2.1).2.1
theorem bX3 (h:Prg R l f){r w:Zd}(hr:r.length<=R.toNat)(hw:w.length<=R.toNat)(wr:cz r)(ww:cz w):af6 R l r w=C (0,cI2 R f r w):=by
 have hR:=h.R1;have hu:=h.ulen;unfold af6;rw[aw6 h];simp only[wA];rw[zB (by simp),yD,zB (by omega),yD,zB (by omega),yD,gdz ⟨by omega,by omega⟩,aG8 ⟨by omega,by omega⟩ hr];simp only[wA];rw[gdz ⟨by omega,by omega⟩,aD,hu.1];obtain⟨f1,f2,f3,f4⟩:=aT9 h (r:=fill R r) (t:=aB f.n 0) wr.fill (cz.rep _);rw[cy4 h (jb hr) (by simp) (by simp;omega) wr.fill (cz.rep _)];simp only[wA];rw[aG8 ⟨by omega,by omega⟩ hw];simp only[wA];rw[cS4 h (by rw[f3,jb hr]) (jb hw) (by rw[f4];simp) f1 ww.fill f2];rfl
theorem bI3 (h:Prg R l f){r w:Zd}(hr:r.length<=R.toNat)(hw:w.length<=R.toNat)(wr:cz r)(ww:cz w):(cI2 R f r w).length=R.toNat/\cz (cI2 R f r w):=by
 obtain⟨f1,f2,f3,f4⟩:=aT9 h (r:=fill R r) (t:=aB f.n 0) wr.fill (cz.rep _);obtain⟨b1,b2,b3,b4,b5⟩:=cW1 f2 f.unroll ((yo f (fill R r) (aB f.n 0)).1,fill R w,f.n) f1 ww.fill;exact⟨b2.trans (jb hw),b5⟩
theorem aU1 (h:Prg R l f){r:Zd}(wr:cz r):(by5 f r).length=r.length/\cz (by5 f r):=⟨cF5 _ _,dl5 _ _ wr λo ho=>(h.goodU o ho).2⟩
theorem dK8 (l:List df): ∀(r t:Zd) (k n:Nat),(fwd yp l (r,t,k)).1=(fwd bf5 l (r,n)).1:=by
 induction l with
 |nil=>intro r t k n;rfl
 |cons o l ih=>intro r t k n;exact ih _ _ _ _
theorem ck4 (f:Fo)(r t:Zd):(yo f r t).1=by5 f r:=dK8 _ _ _ _ _
end
end
section
open Int renaming toNat_natCast -> bB
open List renaming length_take -> aD, getElem?_eq_getElem -> cB
open Nat renaming le_refl -> aB, sub_zero -> bD, lt_or_gt_of_ne -> cD
theorem cz.put {W w:Zd}(h:cz W)(k:cz w)(o:Nat):cz (put W o w):=(h.take o).app (k.app (h.drop _))
theorem cz.seg {W:Zd}(h:cz W)(o n:Nat):cz (seg W o n):=(h.drop o).take n
theorem di7 (x:Nat)(g a:Zd):cz (ao5 x g a):=λv hv=>by
 unfold ao5 at hv;obtain⟨i,_,rfl⟩:=List.mem_map.1 hv;exact tw _
section
variable {c:Cx}
structure Has (c:Cx)(W st ax at':Zd):Prop where
 wd:Wd c W
 w:cz W
 t:seg W 0 c.T.length=c.T
 s:seg W (c.off 1) c.X.length=st
 x:seg W (c.off 5) c.X.length=ax
 a:seg W (c.off 6) c.T.length=at'
theorem cl0 (h:c.Ok){W:Zd}(hW:Wd c W){i:Nat}(hi:i<9){w:Zd}(hw:w.length<=c.sz i):c.off i+w.length<=W.length:=by
 have:=hW.in' h hi;omega
theorem Has.put (h:c.Ok){W st ax at':Zd}(H:Has c W st ax at'){i:Nat}(hi:i<9){w:Zd}(hw:w.length<=c.sz i)(ww:cz w)(h0:i≠0)(h1:i≠1)(h5:i≠5)(h6:i≠6):Has c (put W (c.off i) w) st ax at':=by
 have hl:=cl0 h H.wd hi hw
 have key: ∀j n,j≠i->n<=c.sz j->j<9->seg (Go.V.put W (c.off i) w) (c.off j) n=seg W (c.off j) n:=λj n hj hn h9=>by
  refine aC6 hl ?_;rcases cD hj with hlt|hgt
  .exact .inl (by have:=ko (c:=c) hlt;omega)
  .exact .inr (by have:=ko (c:=c) hgt;omega)
 refine⟨H.wd.put h (by have:=ko (c:=c) (show i<9 from hi);omega),H.w.put ww _, ?_, ?_, ?_, ?_⟩
 .have:=key 0 c.T.length (Ne.symm h0) (aB _) (by omega);exact this.trans H.t
 .exact(key 1 c.X.length (Ne.symm h1) (aB _) (by omega)).trans H.s
 .exact(key 5 c.X.length (Ne.symm h5) (aB _) (by omega)).trans H.x
 .exact(key 6 c.T.length (Ne.symm h6) (aB _) (by omega)).trans H.a
theorem aC5 (h:c.Ok){W:Zd}(hW:Wd c W){i j n:Nat}(hij:j≠i)(hi:i<9)(hj:j<9)(hn:n<=c.sz j){w:Zd}(hw:w.length<=c.sz i):seg (put W (c.off i) w) (c.off j) n=seg W (c.off j) n:=by
 refine aC6 (cl0 h hW hi hw) ?_;rcases cD hij with hlt|hgt
 .exact .inl (by have:=ko (c:=c) hlt;omega)
 .exact .inr (by have:=ko (c:=c) hgt;omega)
theorem Has.put1 (h:c.Ok){W st ax at':Zd}(H:Has c W st ax at'){w:Zd}(hw:w.length=c.X.length)(ww:cz w):Has c (Go.V.put W (c.off 1) w) w ax at':=by
 have hs:w.length<=c.sz 1:=Nat.le_of_eq hw;refine⟨H.wd.put h (by have:=ko (c:=c) (show 1<9 by omega);omega),H.w.put ww _,(aC5 h H.wd (i:=1) (j:=0) (by omega) (by omega) (by omega) (aB _) hs).trans H.t, ?_,(aC5 h H.wd (i:=1) (j:=5) (by omega) (by omega) (by omega) (aB _) hs).trans H.x,(aC5 h H.wd (i:=1) (j:=6) (by omega) (by omega) (by omega) (aB _) hs).trans H.a⟩;rw[<-hw];exact ah9 (cl0 h H.wd (by omega) hs)
theorem Has.back (h:c.Ok){W st ax at' a:Zd}(H:Has c W st ax at')(ha:c.X.length+c.T.length<=a.length)(ha2:a.length<=max c.R.toNat c.Q.toNat)(wa:cz a):Has c (aL8 c W a) st (a.take c.X.length) (ao5 c.X.length at' a):=by
 have H4:=H.put h (i:=4) (by omega) (w:=a) ha2 wa (by omega) (by omega) (by omega) (by omega);unfold aL8;generalize Go.V.put W (c.off 4) a=W1 at*;have hs:(a.take c.X.length).length<=c.sz 5:=by rw[aD];exact Nat.min_le_left _ _
 have hx:(a.take c.X.length).length=c.X.length:=by rw[aD];omega
 have w5:=H4.wd.put h (o:=c.off 5) (w:=a.take c.X.length) (by have:=ko (c:=c) (show 5<9 by omega);omega);have p:=λj (hj:j≠5) (h9:j<9)=>aC5 h H4.wd (i:=5) (j:=j) hj (by omega) h9 (aB _) hs
 have e5:seg (Go.V.put W1 (c.off 5) (a.take c.X.length)) (c.off 5) c.X.length=a.take c.X.length:=by
  have:=ah9 (cl0 h H4.wd (i:=5) (by omega) hs);rw[hx]at this;exact this
 have e6:=(p 6 (by omega) (by omega)).trans H4.a;have e0:=(p 0 (by omega) (by omega)).trans H4.t;have e1:=(p 1 (by omega) (by omega)).trans H4.s;have a5:cz (Go.V.put W1 (c.off 5) (a.take c.X.length)):=H4.w.put (wa.take _) _;generalize Go.V.put W1 (c.off 5) (a.take c.X.length)=W2 at*;have e6':seg W2 (c.off 6) c.T.length=at':=e6;rw[e6'];have hl6:at'.length=c.T.length:=by rw[<-e6'];exact gy (w5.in' h (i:=6) (by omega))
 have hl:(ao5 c.X.length at' a).length=c.T.length:=by rw[zj,hl6]
 have hs6:(ao5 c.X.length at' a).length<=c.sz 6:=Nat.le_of_eq hl;have q:=λj (hj:j≠6) (h9:j<9)=>aC5 h w5 (i:=6) (j:=j) hj (by omega) h9 (aB _) hs6
 refine⟨w5.put h (by have:=ko (c:=c) (show 6<9 by omega);omega),a5.put (di7 _ _ _) _,(q 0 (by omega) (by omega)).trans e0,(q 1 (by omega) (by omega)).trans e1,(q 5 (by omega) (by omega)).trans e5, ?_⟩;have:=ah9 (cl0 h w5 (i:=6) (by omega) hs6);rw[hl]at this;exact this
def aS3 (c:Cx)(t:Int)(x:Zd):Zd:=x++(c.T++[IntKind.u64.wrap t])
def aq0 (c:Cx)(t:Int)(x:Zd):Zd:=(by5 c.fl (fill c.R (aS3 c t x))).take c.X.length
def lossV (c:Cx)(x:Zd):Int:=rg (by5 c.fk (fill c.Q (x++(c.T++[])))) 0
def at3 (c:Cx)(t:Int)(x adj:Zd):Zd:=cI2 c.R c.fl (aS3 c t x) adj
def aC2 (c:Cx)(x:Zd):Zd:=cI2 c.Q c.fk (x++(c.T++[])) [1]
theorem Cx.Ok.lens (h:c.Ok):((c.X.length:Int)+c.T.length+1<=c.R/\(c.X.length:Int)+c.T.length<=c.Q)/\(1<=c.R/\c.R<=64)/\(1<=c.Q/\c.Q<=64)/\1<=c.X.length/\c.X.length<=64/\c.T.length<=64:=by
 have n:=h.num;have h1:=bC5 h.hc;exact⟨ch6 (by have:=n.x;omega) (by have:=n.t;omega) h1.2,n.R,n.Q,n.x.1,n.x.2,n.t⟩
theorem aA7 (t:Int){x:Zd}(hx:x.length=c.X.length):(aS3 c t x).length=c.X.length+c.T.length+1:=by unfold aS3;simp[hx];omega
theorem bo4 {t:Int}{x:Zd}(wx:cz x)(wT:cz c.T):cz (aS3 c t x):=wx.app (wT.app λv hv=>by rw[List.mem_singleton.1 hv];exact tw _)
variable (h:c.Ok) (wT:cz c.T)
include h wT
theorem aq1 {t:Int}{x:Zd}(hx:x.length=c.X.length)(wx:cz x):(aq0 c t x).length=c.X.length/\cz (aq0 c t x):=by
 obtain⟨⟨l1,l2⟩,hR,hQ,x1,x2,t2⟩:=h.lens;obtain⟨f1,f2⟩:=aU1 h.pl (r:=fill c.R (aS3 c t x)) (bo4 wx wT).fill;rw[jb (by rw[aA7 t hx];omega)]at f1;unfold aq0;exact⟨by rw[aD,f1];omega,f2.take _⟩
theorem bq5 {t:Int}(ht:0<=t/\t<65536){x:Zd}(hx:x.length=c.X.length)(wx:cz x):uQ c.R c.l c.Q c.k (c.X.length:Int) c.T t x=C (0,aq0 c t x):=by
 obtain⟨⟨l1,l2⟩,hR,hQ,x1,x2,t2⟩:=h.lens;unfold uQ yy;rw[zB (by omega),yD,zB (by omega),yD,zB (by omega),yD,aw7 (by omega) (by omega) (by simp)];simp only[wA];have hb:=aA7 (c:=c) t hx;have e:x++(c.T++[IntKind.u64.wrap t])=aS3 c t x:=rfl;rw[e,ck5 h.pl (by omega) (bo4 wx wT)];obtain⟨f1,f2⟩:=aU1 h.pl (r:=fill c.R (aS3 c t x)) (bo4 wx wT).fill;rw[jb (by omega)]at f1;simp only[wA];rw[i7 (by omega),fg,bB,bD];rfl
theorem cS5 {x:Zd}(hx:x.length=c.X.length)(wx:cz x):au4 c.R c.l c.Q c.k (c.X.length:Int) c.T x=C (lossV c x,0):=by
 obtain⟨⟨l1,l2⟩,hR,hQ,x1,x2,t2⟩:=h.lens;unfold au4;have wb:cz (x++(c.T++[])):=wx.app (wT.app λv hv=>by cases hv);have hb:(x++(c.T++[])).length=c.X.length+c.T.length:=by simp[hx]
 rw[zB (by omega),yD,aw7 (by omega) (by omega) (by simp)];simp only[wA];rw[ck5 h.pk (by omega) wb];obtain⟨f1,f2⟩:=aU1 h.pk (r:=fill c.Q (x++(c.T++[]))) wb.fill;rw[jb (by omega)]at f1;simp only[wA];rw[show ix 0 (by5 c.fk (fill c.Q (x++(c.T++[])))).length=C 0 from cw (k:=0) (by omega)];simp only[wA];rw[gg (by omega)];rfl
theorem aG7 {t:Int}{x adj:Zd}(hx:x.length=c.X.length)(wx:cz x)(ha:adj.length=c.X.length)(wa:cz adj):(at3 c t x adj).length=c.R.toNat/\cz (at3 c t x adj):=by
 obtain⟨⟨l1,l2⟩,hR,hQ,x1,x2,t2⟩:=h.lens;exact bI3 h.pl (by rw[aA7 t hx];omega) (by omega) (bo4 wx wT) wa
theorem dI1 :cz [1]:=λv hv=>by rw[List.mem_singleton.1 hv];unfold vw;omega
theorem aG6 {x:Zd}(hx:x.length=c.X.length)(wx:cz x):(aC2 c x).length=c.Q.toNat/\cz (aC2 c x):=by
 obtain⟨⟨l1,l2⟩,hR,hQ,x1,x2,t2⟩:=h.lens;exact bI3 h.pk (by simp[hx];omega) (by simp;omega) (wx.app (wT.app λv hv=>by cases hv)) (dI1 h wT)
theorem bX5 {t:Int}(ht:0<=t/\t<65536){x adj:Zd}(hx:x.length=c.X.length)(wx:cz x)(ha:adj.length=c.X.length)(wa:cz adj):xp c.R c.l c.Q c.k (c.X.length:Int) c.T t x adj=C ((at3 c t x adj).take c.X.length,((at3 c t x adj).drop c.X.length).take c.T.length,0):=by
 obtain⟨⟨l1,l2⟩,hR,hQ,x1,x2,t2⟩:=h.lens;unfold xp yy;rw[zB (by omega),yD,zB (by omega),yD,zB (by omega),yD,zB (by omega),yD,aw7 (by omega) (by omega) (by simp)];simp only[wA];have hb:=aA7 (c:=c) t hx;have e:x++(c.T++[IntKind.u64.wrap t])=aS3 c t x:=rfl;rw[e,bX3 h.pl (by omega) (by omega) (bo4 wx wT) wa];obtain⟨f1,f2⟩:=aG7 h wT (t:=t) hx wx ha wa;unfold at3 at f1⊢;simp only[wA];rw[i7 (by omega),fg,bg (by omega),i7 (by omega),fg,bB,bD,List.drop_zero,show((c.X.length:Int)+(c.T.length:Int)).toNat-c.X.length=c.T.length by omega]
theorem bX4 {x:Zd}(hx:x.length=c.X.length)(wx:cz x):xo c.R c.l c.Q c.k (c.X.length:Int) c.T x=C ((aC2 c x).take c.X.length,((aC2 c x).drop c.X.length).take c.T.length,0):=by
 obtain⟨⟨l1,l2⟩,hR,hQ,x1,x2,t2⟩:=h.lens;unfold xo;rw[zB (by omega),yD,aw7 (by omega) (by omega) (by simp)];simp only[wA];rw[bX3 h.pk (by simp[hx];omega) (by simp;omega) (wx.app (wT.app λv hv=>by cases hv)) (dI1 h wT)];obtain⟨f1,f2⟩:=aG6 h wT hx wx;unfold aC2 at f1⊢;simp only[wA];rw[i7 (by omega),fg,bg (by omega),i7 (by omega),fg,bB,bD,List.drop_zero,show((c.X.length:Int)+(c.T.length:Int)).toNat-c.X.length=c.T.length by omega]
omit h wT in
theorem ck6 {g a:Zd}{x:Nat}(hg:g.length<=1000)(ha:x+g.length<=a.length)(wg:cz g)(wa:cz a):an0 g ((a.drop x).take g.length)=C (ao5 x g a):=by
 unfold an0;have hl:((a.drop x).take g.length).length=g.length:=by rw[aD,List.length_drop];omega
 have key:=gl (f:=ag0 g ((a.drop x).take g.length)) (n:=g.length) (λi=>(ao5 x g a).take i) (c:=ao5 x g a) (by omega)
  (λi hi=>by
   unfold ag0;simp only;rw[zD (by omega),yB,dh hi,dh (by omega)];simp only[wA];have e1:g[i]=rg g (i:Int):=by have:=gg hi;rw[cB hi]at this;injection this
   have e2:((a.drop x).take g.length)[i]'(by omega)=rg a ((x+i:Nat):Int):=by
    rw[List.getElem_take,List.getElem_drop];have:=gg (r:=a) (k:=x+i) (by omega);rw[cB (by omega)]at this;injection this
   rw[e1,e2,aC3 (aw8 wg _) (aw8 wa _)];simp only[wA];have hi':i<(ao5 x g a).length:=by rw[zj];exact hi
   rw[ej (by rw[aD];omega) (by omega),bg (by omega),List.take_succ_eq_append_getElem hi'];have e3:(ao5 x g a)[i]=IntKind.u64.wrap (rg g (i:Int)+rg a ((x+i:Nat):Int)):=by unfold ao5;simp
   rw[e3]
   rfl)
  (by
   unfold ag0
   rw[zB (by simp),yD,List.take_of_length_le (by rw[zj];exact aB _)])
 rw[List.take_zero]at key;rw[key];rfl
end
end
section
open Nat renaming le_of_eq -> aB
section
variable {c:Cx} (h:c.Ok) (wT:cz c.T) {W st ax at':Zd}
def wj (c:Cx)(t:Int)(x:Zd):TS:=yo c.fl (fill c.R (aS3 c t x)) (du c.fl.n)
include h wT
theorem Has.lens (H:Has c W st ax at'):st.length=c.X.length/\ax.length=c.X.length/\at'.length=c.T.length/\cz st/\cz ax/\cz at':=by
 refine⟨?_, ?_, ?_, ?_, ?_, ?_⟩
 .rw[<-H.s];exact gy (H.wd.in' h (i:=1) (by omega))
 .rw[<-H.x];exact gy (H.wd.in' h (i:=5) (by omega))
 .rw[<-H.a];exact gy (H.wd.in' h (i:=6) (by omega))
 .rw[<-H.s];exact H.w.seg _ _
 .rw[<-H.x];exact H.w.seg _ _
 .rw[<-H.a];exact H.w.seg _ _
theorem aC9 {t:Int}{x:Zd}(hx:x.length=c.X.length)(wx:cz x):cz (wj c t x).1/\cz (wj c t x).2.1/\(wj c t x).1.length=c.R.toNat/\(wj c t x).2.1.length=c.fl.n/\(wj c t x).1.take c.X.length=aq0 c t x:=by
 obtain⟨⟨l1,l2⟩,hR,hQ,x1,x2,t2⟩:=h.lens;obtain⟨f1,f2,f3,f4⟩:=aT9 h.pl (r:=fill c.R (aS3 c t x)) (t:=du c.fl.n) (bo4 wx wT).fill (cz.rep _);refine⟨f1,f2,f3.trans (jb (by rw[aA7 t hx];omega)),f4.trans (er _), ?_⟩;unfold wj aq0;rw[ck4]
omit wT in
theorem Has.stepR (H:Has c W st ax at')(p:Int):stepR c W p=wj c p st:=by
 unfold Go.V.stepR wj aS3;rw[H.s,H.t]
omit wT in
theorem Has.lossR (H:Has c W st ax at')(x:Zd):lossR c W x=yo c.fk (fill c.Q (x++(c.T++[]))) (du c.fk.n):=by
 unfold Go.V.lossR;rw[H.t]
theorem Has.lossV (H:Has c W st ax at')(x:Zd):rg (Go.V.lossR c W x).1 0=lossV c x:=by
 rw[H.lossR h,ck4];rfl
theorem Has.taped (H:Has c W st ax at')(p:Int):Has c (Go.V.put W (c.off 2) (Go.V.stepR c W p).1) st ax at':=by
 obtain⟨k1,k2,k3,k4,k5,k6⟩:=H.lens h wT;obtain⟨f1,f2,f3,f4,f5⟩:=aC9 h wT (t:=p) k1 k4;rw[H.stepR h];exact H.put h (i:=2) (by omega) (aB f3) f1 (by omega) (by omega) (by omega) (by omega)
theorem Has.endd (H:Has c W st ax at'){x:Zd}(hx:x.length=c.X.length)(wx:cz x):Has c (bT5 c W x) st ((aC2 c x).take c.X.length) (ao5 c.X.length at' (aC2 c x)):=by
 obtain⟨⟨l1,l2⟩,hR,hQ,x1,x2,t2⟩:=h.lens;have hb:(x++(c.T++[])).length=c.X.length+c.T.length:=by simp[hx]
 have wb:cz (x++(c.T++[])):=wx.app (wT.app λv hv=>by cases hv);obtain⟨f1,f2,f3,f4⟩:=aT9 h.pk (r:=fill c.Q (x++(c.T++[]))) (t:=du c.fk.n) wb.fill (cz.rep _);rw[jb (by omega)]at f3;obtain⟨p1,p2⟩:=aG6 h wT hx wx;unfold bT5;rw[H.lossR h];have H3:=H.put h (i:=3) (by omega) (aB f3) f1 (by omega) (by omega) (by omega) (by omega);have e:(mg c.fk (yo c.fk (fill c.Q (x++(c.T++[]))) (du c.fk.n)).1 (fill c.Q [1]) (yo c.fk (fill c.Q (x++(c.T++[]))) (du c.fk.n)).2.1).2.1=aC2 c x:=rfl;rw[e];exact H3.back h (by omega) (by omega) p2
theorem Has.turn (H:Has c W st ax at'){p:Int}{x:Zd}(hx:x.length=c.X.length)(wx:cz x):Has c (ca1 c W (wj c p x).1 (wj c p x).2.1) st ((at3 c p x ax).take c.X.length) (ao5 c.X.length at' (at3 c p x ax)):=by
 obtain⟨⟨l1,l2⟩,hR,hQ,x1,x2,t2⟩:=h.lens;obtain⟨k1,k2,k3,k4,k5,k6⟩:=H.lens h wT;obtain⟨p1,p2⟩:=aG7 h wT (t:=p) hx wx k2 k5;unfold ca1;rw[H.x];have e:(mg c.fl (wj c p x).1 (fill c.R ax) (wj c p x).2.1).2.1=at3 c p x ax:=rfl;rw[e];exact H.back h (by omega) (by omega) p2
theorem Has.adv1 (H:Has c W st ax at')(p:Int):Has c (Go.V.adv1 c W p) (aq0 c p st) ax at':=by
 obtain⟨⟨l1,l2⟩,hR,hQ,x1,x2,t2⟩:=h.lens;obtain⟨k1,k2,k3,k4,k5,k6⟩:=H.lens h wT
 have e:bI9 c W p=by5 c.fl (fill c.R (aS3 c p st)):=by
  unfold bI9 aS3;rw[H.s,H.t]
 obtain⟨f1,f2⟩:=aU1 h.pl (r:=fill c.R (aS3 c p st)) (bo4 k4 wT).fill;rw[jb (by rw[aA7 p k1];omega)]at f1;obtain⟨s1,s2⟩:=aq1 h wT (t:=p) k1 k4;unfold Go.V.adv1;rw[e];exact(H.put h (i:=2) (by omega) (aB f1) f2 (by omega) (by omega) (by omega) (by omega)).put1 h s1 s2
def br1 (c:Cx)(t:Int)(x:Zd):Nat->Zd
 |0=>x
 |i+1=>aq0 c (t+(i:Int)) (br1 c t x i)
theorem Has.advW (H:Has c W st ax at')(p:Int): ∀i,Has c (Go.V.advW c W p i) (br1 c p st i) ax at'
 |0=>H
 |i+1=>(Has.advW H p i).adv1 h wT _
theorem aU4 {t:Int}{x:Zd}(hx:x.length=c.X.length)(wx:cz x): ∀i,(br1 c t x i).length=c.X.length/\cz (br1 c t x i)
 |0=>⟨hx,wx⟩
 |i+1=>aq1 h wT (aU4 hx wx i).1 (aU4 hx wx i).2
theorem Has.rev (H:Has c W st ax at')(p:Int):Has c (dg5 c W p) st ((at3 c p st ax).take c.X.length) (ao5 c.X.length at' (at3 c p st ax)):=by
 obtain⟨k1,k2,k3,k4,k5,k6⟩:=H.lens h wT;unfold dg5;have:=(H.taped h wT p).turn h wT (p:=p) k1 k4;rw[H.stepR h]at this⊢;exact this
theorem Has.both (H:Has c W st ax at')(p:Int):Has c (cg8 c W p) st ((at3 c p st ((aC2 c (aq0 c p st)).take c.X.length)).take c.X.length) (ao5 c.X.length (ao5 c.X.length at' (aC2 c (aq0 c p st))) (at3 c p st ((aC2 c (aq0 c p st)).take c.X.length))):=by
 obtain⟨k1,k2,k3,k4,k5,k6⟩:=H.lens h wT;obtain⟨f1,f2,f3,f4,f5⟩:=aC9 h wT (t:=p) k1 k4;obtain⟨s1,s2⟩:=aq1 h wT (t:=p) k1 k4;unfold cg8;have H2:=H.taped h wT p;rw[H.stepR h]at H2⊢;rw[f5];exact(H2.endd h wT s1 s2).turn h wT (p:=p) k1 k4
end
end
section
open List renaming countP_le_length -> aB, getElem?_eq_getElem -> aD, getElem?_eq_none -> bB, getElem?_map -> bD, length_take -> cB, take_succ_eq_append_getElem -> cD
structure RS where
 L:Int
 p:Int
 q:Int
 st:Zd
 sl:List (Int×Zd)
 sx:Int
 kp:List (Zd)
 ax:Zd
 th:Zd
 ls:Int
 n0:Int
 n1:Int
 n2:Int
 n3:Int
 pk:Int
def aS1 (c:Cx)(W:Zd)(k:Nat)(x:Int×Zd):Prop:=gm c W k=x.1+1/\((0<=x.1/\x.2=seg W (sp c k+1) c.X.length)∨(x.1= -1/\seg W (sp c k+1) c.X.length=du c.X.length))
structure Slo (c:Cx)(W:Zd)(r:RS):Prop where
 kp:r.kp=[]
 sx:r.sx=(c.X.length:Int)
 len:r.sl.length=c.ns.toNat
 slot: ∀k,∀hk:k<r.sl.length,aS1 c W k r.sl[k]
structure RelD (c:Cx)(s:Dy)(r:RS):Prop where
 L:r.L=s.L
 p:r.p=s.p
 q:r.q=s.q
 n0:r.n0=s.c0
 n1:r.n1=s.c1
 n2:r.n2=s.c2
 n3:r.n3=s.c3
 ls:r.ls=s.z
 pk:r.pk=s.pk
 has:Has c s.W r.st r.ax r.th
section
variable {c:Cx} {W:Zd} {r:RS}
theorem bf2 (H:Slo c W r){k:Nat}(hk:k<r.sl.length):r.sl[k].1=gm c W k-1:=by
 have:=(H.slot k hk).1;omega
theorem cS7 (H:Slo c W r)(h:c.Ok):au6 r.sl r.sx=C (ai6 c W):=by
 unfold au6;have hn:=h.ns;have hl:=H.len
 have key:=gl (f:=zy r.sl) (n:=r.sl.length) (λi=>(ai6 c W).take i) (c:=ai6 c W) (by omega)
  (λi hi=>by
   have h1:i<(ai6 c W).length:=by rw[ai1];omega
   unfold zy;simp only;rw[zD (by omega),yB,dh hi];simp only[wA];rw[ej (by rw[cB];omega) (by omega),bg (by omega),cD h1];have e:=bZ5 (c:=c) (W:=W) (k:=i) (by omega);rw[aD h1]at e;injection e with e
   rw[e,bf2 H hi]
   rfl)
  (by
   unfold zy
   rw[zB (by simp),yD,List.take_of_length_le (by rw[ai1];omega)])
 rw[List.take_zero]at key;rw[key];rfl
theorem cE3 (H:Slo c W r):(r.sl.countP λx=>Zc (0<=x.1))=jf c W:=by
 have:r.sl.map (λx=>Zc (0<=x.1))=(List.range c.ns.toNat).map λ(k:Nat)=>Zc (0<gm c W k):=by
  apply List.ext_getElem?;intro i;rw[bD,bD];by_cases hi:i<r.sl.length
  .rw[aD hi,List.getElem?_range (by rw[<-H.len];exact hi)];simp only[Option.map_some]
   congr 1
   have:=bf2 H hi;by_cases ht:0<gm c W i
   .rw[zD ht,zD (by omega)]
   .rw[zB ht,zB (by omega)]
  .rw[bB (by omega),bB (by rw[List.length_range,<-H.len];omega)];rfl
 unfold jf;have e1: ∀{α:Type} (l:List α) (p:α->Bool),l.countP p=(l.map p).countP id:=λl p=>by rw[List.countP_map];rfl
 rw[e1,this,<-e1]
theorem cS8 (l:List (Int×Zd))(x:Int)(hl:l.length<=2000000):au7 l x=C ((l.countP λx=>Zc (0<=x.1):Nat):Int):=by
 unfold au7
 have key:=gl (f:=aa0 l) (n:=l.length) (λi=>(((l.take i).countP λx=>Zc (0<=x.1):Nat):Int)) (c:=((l.countP λx=>Zc (0<=x.1):Nat):Int)) (by omega)
  (λi hi=>by
   unfold aa0;simp only;rw[zD (by omega),yB,dh hi];simp only[wA];rw[cD hi,List.countP_append,List.countP_singleton];have hc:(l.take i).countP (λx=>Zc (0<=x.1))<=i:=Nat.le_trans aB (by rw[cB];omega);rw[bg (n:=(i:Int)+1) (by omega),bg (by omega)];by_cases ht:0<=l[i].1
   .rw[zD ht,yB,xB rfl];rfl
   .rw[zB ht,yD,xD (by simp)];rfl)
  (by
   unfold aa0
   rw[zB (by simp),yD,List.take_length])
 rw[show((0:Int),(0:Int))=((0:Int),(((l.take 0).countP λx=>Zc (0<=x.1):Nat):Int))from rfl,key];rfl
theorem bX7 (h:c.Ok)(hl:r.sl.length<=1048576)(hk:r.kp.length<=100000)(hb:0<=c.sl*(((r.sl.countP λx=>Zc (0<=x.1):Nat):Int)+r.kp.length)/\c.fixed+c.sl*(((r.sl.countP λx=>Zc (0<=x.1):Nat):Int)+r.kp.length)<=1048576)(h0:0<=c.fixed):
  jk c.mode c.X c.T c.R c.l c.Q c.k c.len c.words c.R c.l c.Q c.k (c.X.length:Int) c.T c.fixed c.tp c.sl c.ns r.L r.p r.q r.st r.sl r.sx r.kp r.ax r.th r.ls r.n0 r.n1 r.n2 r.n3 r.pk=C (c.fixed+c.sl*(((r.sl.countP λx=>Zc (0<=x.1):Nat):Int)+r.kp.length)):=by
 unfold jk;rw[cS8 _ _ (by omega)];simp only[wA];have:(r.sl.countP λx=>Zc (0<=x.1))<=r.sl.length:=aB;rw[bg (n:=((r.sl.countP λx=>Zc (0<=x.1):Nat):Int)+_) (by omega),bg (n:=c.sl*_) (by omega),bg (by omega)]
theorem bp5 (h:c.Ok){s:Dy}(hi:Inv c s)(H:Slo c s.W r):jk c.mode c.X c.T c.R c.l c.Q c.k c.len c.words c.R c.l c.Q c.k (c.X.length:Int) c.T c.fixed c.tp c.sl c.ns r.L r.p r.q r.st r.sl r.sx r.kp r.ax r.th r.ls r.n0 r.n1 r.n2 r.n3 r.pk=C s.lv:=by
 have hl:=aG4 h hi;have hf:=wZ h;have hn:=h.ns;have e:=cE3 H;have hlv:=hi.lv;have hc:0<=c.sl*(jf c s.W:Int):=Int.mul_nonneg (by have:=h.num.sl;have:=h.num.R;rw[h.num.sl];split<;>omega) (by omega);rw[bX7 h (by rw[H.len];omega) (by rw[H.kp];simp) (by rw[e,H.kp];simp only[List.length_nil];rw[show((jf c s.W:Int)+((0:Nat):Int))=(jf c s.W:Int)by omega];omega) (by omega),e,H.kp,hlv];simp
end
end
section
open Int renaming reduceEq -> aB, reduceLE -> aD
open List renaming getElem?_eq_getElem -> bB, getD_eq_getElem?_getD -> bD
theorem bI5 (a n:Int):yz a n=C (my a n):=by
 have h26:au8 a=C (if a=1 then(1,65535)else if 2<=a/\a<=4 then(0,1048575)else(0,0)):=by
  unfold au8;simp only[cd]
  repeat' split
  all_goals first|rfl|omega
 unfold yz my;rw[h26];simp only[wA,cd];by_cases h1:a<1
 .rw[xB h1,xD (show¬1<=a by omega)]
 by_cases h9:9<a
 .rw[xD h1,xB h9,xB (show 1<=a by omega),xD (show¬a<=9 by omega)]
 rw[xD h1,xD h9,xB (show 1<=a by omega),xB (show a<=9 by omega)];by_cases c1:a=1
 .rw[xB c1,xB c1];by_cases c2:1<=n
  .rw[xB c2];congr 1;by_cases c3:n<65536
   .rw[zD (show n<=65535 by omega),zD ⟨c2,c3⟩]
   .rw[zB (show¬n<=65535 by omega),zB (by omega)]
  .rw[xD c2,zB (by omega)]
 rw[xD c1,xD c1];by_cases c4:a<=4
 .rw[xB (show 2<=a/\a<=4 by omega),xB c4];by_cases c2:0<=n
  .rw[xB c2];congr 1;by_cases c3:n<1048576
   .rw[zD (show n<=1048575 by omega),zD ⟨c2,c3⟩]
   .rw[zB (show¬n<=1048575 by omega),zB (by omega)]
  .rw[xD c2,zB (by omega)]
 .rw[xD (show¬(2<=a/\a<=4)by omega),xD c4];by_cases c2:0<=n
  .rw[xB c2];congr 1;by_cases c3:n<=0
   .rw[zD c3,zD (by omega)]
   .rw[zB c3,zB (by omega)]
  .rw[xD c2,zB (by omega)]
theorem xc (p q:Int){l:Zd}(hl:l.length<=1048576):af9 p q l=C (p,q,l):=by
 unfold af9
 have key:=gl (f:=aa2 l) (n:=l.length) (λi=>(p,q,l.take i)) (c:=(p,q,l)) (by omega)
  (λi hi=>by
   unfold aa2;simp only;rw[zD (by omega),yB,dh hi];simp only[wA];rw[ej (by rw[List.length_take];omega) (by omega),bg (by omega),List.take_succ_eq_append_getElem hi]
   rfl)
  (by
   unfold aa2
   rw[zB (by simp),yD,List.take_length])
 rw[List.take_zero]at key;rw[key];rfl
theorem dq9 {L p q:Int}{l:Zd}(hL:0<=L/\L<=65535)(hp:0<=p/\p<=L)(hq: -1<=q/\q<=L)(hl:l.length<=1048576)(h: ∀t∈l,-1<=t/\t<=L):aN8 L p q l=C (L,p,q,0,l):=by
 unfold aN8;rw[zB (by omega),yD,zB (by omega),yD,zB (by omega),yD,zB (by omega),yD,zB (by omega),yD,zB (by omega),yD,zB (by omega),yD]
 have key:=ad1 (f:=al5 L l) (n:=l.length) (c:= .inr ()) (by omega)
  (λi hi=>by
   have:=h _ (List.getElem_mem hi);unfold al5;rw[zD (by omega),yB,dh hi];simp only[wA];rw[zB (by omega),yD,zB (by omega),yD,bg (by omega)]
   rfl)
  (by
   unfold al5
   rw[zB (by omega),yD])
 rw[key];simp only[wA,cq];rw[xc p q hl];rfl
theorem dr0 {a n p q L tot:Int}{l:Zd}(hL:0<=L/\L<=65535)(hp:0<=p/\p<=L)(hq: -1<=q/\q<=L)(ht:0<=tot/\tot<=1000000000000)(hl:l.length<=1048576)(hlt: ∀t∈l,-1<=t/\t<=L):
  aN9 L p q l tot a n=C (L,(cf2 a n p q L tot l).2.1,(cf2 a n p q L tot l).2.2.1,(cf2 a n p q L tot l).2.2.2.2.2,(cf2 a n p q L tot l).2.2.2.2.1,(cf2 a n p q L tot l).1):=by
 unfold aN9 cf2;rw[bI5];simp only[wA];by_cases hr:my a n=Zb
 .rw[hr,xB (.inl rfl)];rfl
 have hr':my a n=Za:=by cases h:my a n with
  |true=>rfl
  |false=>exact(hr h).elim
 rw[hr',Bool.not_true,yD];by_cases h7:7<a
 .rw[zD h7,yB,xB (.inr h7)]
 rw[zB h7,yD,xD (by simp[h7])];have hk:=ak7 (a:=a) (n:=n) (by simp[hr',h7]);by_cases hs:(2<=a/\a<=4)/\(l.length:Int)<=n
 .rw[xB hs];simp only[cd];rw[xB hs.1.1];simp only[wA,cd];rw[xB hs.1.2,xB hs.2];rfl
 rw[xD hs];have hn:=hk.1;rcases hk.2 with ha|ha|ha|ha|ha|ha|ha
 .subst ha;have:=yd hn (by omega);simp only[cd,aD,if_false,if_true,wA,yD,cq];rw[xc p q hl];simp only[wA];rw[bg (n:=p+n) (by omega),bg (n:=tot+n) (by omega)];by_cases c:L-p<n
  .rw[xB (by omega),xB c]
  .rw[xD (by omega),xD c]
 .subst ha;have hn3:=yd hn (by omega);have hlen:n.toNat<l.length:=by omega
  have hnn:n=((n.toNat:Nat):Int):=by omega
  simp only[cd,aD,aB,if_false,if_true,wA];rw[xD (by omega)];simp only[wA,cq,aB,if_false,if_true];rw[xc p q hl];simp only[wA];rw[cy0 (by omega) (by omega)];simp only[wA];have e:l[n.toNat]=rg l n:=by unfold rg;rw[bD,bB hlen];rfl
  rw[e];by_cases c:0<=rg l n
  .rw[xB c,xB c]
  .rw[xD c,xD c];rw[show ix n l.length=C n.toNat from(congrArg (λz=>ix z l.length) hnn).trans (cw hlen)];simp only[wA];rw[bB hlen];rfl
 .subst ha;have hn3:=yd hn (by omega);have hlen:n.toNat<l.length:=by omega
  simp only[cd,aD,aB,if_false,if_true,wA];rw[xD (by omega)];simp only[wA,cq,aB,if_false,if_true];rw[xc p q hl];simp only[wA];rw[cy0 (by omega) (by omega)];simp only[wA];have e:l[n.toNat]=rg l n:=by unfold rg;rw[bD,bB hlen];rfl
  rw[e];by_cases c:rg l n<0
  .rw[xB c,xB c];rfl
  .rw[xD c,xD c]
   try rfl
 .subst ha;have hn3:=yd hn (by omega);have hlen:n.toNat<l.length:=by omega
  have hnn:n=((n.toNat:Nat):Int):=by omega
  simp only[cd,aD,aB,if_false,if_true,wA];rw[xD (by omega)];simp only[wA,cq,aB,if_false,if_true];rw[xc p q hl];simp only[wA];rw[cy0 (by omega) (by omega)];simp only[wA,decide_true,if_true];have e:l[n.toNat]=rg l n:=by unfold rg;rw[bD,bB hlen];rfl
  rw[e];by_cases c:rg l n<0
  .rw[xB c,xB c];rfl
  .rw[xD c,xD c]
   try rfl
   rw[show ix n l.length=C n.toNat from(congrArg (λz=>ix z l.length) hnn).trans (cw hlen)];simp only[wA];rw[bB hlen];rfl
 .subst ha;simp only[cd,aD,aB,if_false,if_true,wA,decide_false,yD,cq];rw[xc p q hl];simp only[wA];by_cases c:0<=q
  .rw[xB c,xB (show q≠ -1 by omega)]
  .rw[xD c,xD (show¬q≠ -1 by omega)];by_cases c2:p≠L
   .rw[xB c2,xB c2]
   .rw[xD c2,xD c2];rw[show L=p by omega]
 .subst ha;simp only[cd,aD,aB,if_false,if_true,wA,decide_false,yD,cq];rw[xc p q hl];simp only[wA];rw[bg (n:=L-1) (by omega)];by_cases c:0<=q
  .rw[xB c,xB (show q≠ -1 by omega)]
  .rw[xD c,xD (show¬q≠ -1 by omega)];by_cases c2:p≠L-1
   .rw[xB c2,xB c2]
   .rw[xD c2,xD c2,show L-1=p by omega]
 .subst ha;simp only[cd,aD,aB,if_false,if_true,wA,decide_false,yD,cq];rw[xc p q hl];simp only[wA];rw[bg (n:=q-1) (by omega)];by_cases c:q<1
  .rw[xB c,xB (show q<=0 by omega)]
  .rw[xD c,xD (show¬q<=0 by omega)];by_cases c2:p≠q-1
   .rw[xB c2,xB c2]
   .rw[xD c2,xD c2,show q-1=p by omega]
end
section
open Int renaming toNat_natCast -> cB
open List renaming length_cons -> aB, length_set -> aD, getD_eq_getElem?_getD -> bD, getElem_set -> cD, length_take -> dB
open Nat renaming le_refl -> bB, mul_le_mul_right -> dD
section
variable {c:Cx} {r:RS}
def br9 (B:Int)(r:RS):Prop:=(0<=r.n0/\r.n0<=B)/\(0<=r.n1/\r.n1<=B)/\(0<=r.n2/\r.n2<=B)/\(0<=r.n3/\r.n3<=B)
theorem RelD.cnt {s:Dy}(H:RelD c s r){B:Int}(hc:Cnt B s):br9 B r:=by
 unfold br9 Cnt at*;rw[H.n0,H.n1,H.n2,H.n3];exact hc
def ar6 (c:Cx)(x:Zd)(r:RS):RS:={r with ls:=lossV c x,n2:=r.n2+1,n3:=r.n3+1,ax:=(aC2 c x).take c.X.length,th:=ao5 c.X.length r.th (aC2 c x)}
def cl5 (c:Cx)(t:Int)(x:Zd)(r:RS):RS:={r with n3:=r.n3+1,ax:=(at3 c t x r.ax).take c.X.length,th:=ao5 c.X.length r.th (at3 c t x r.ax)}
theorem bE2 (h:c.Ok)(wT:cz c.T){x:Zd}(hx:x.length=c.X.length)(wx:cz x)(hth:r.th.length=c.T.length)(wth:cz r.th){B:Int}(hc:br9 B r)(hB:B<=4611686018427387904):
  sj c.mode c.X c.T c.R c.l c.Q c.k c.len c.words c.R c.l c.Q c.k (c.X.length:Int) c.T c.fixed c.tp c.sl c.ns r.L r.p r.q r.st r.sl r.sx r.kp r.ax r.th r.ls r.n0 r.n1 r.n2 r.n3 r.pk x=C (c.mode,c.X,c.T,c.R,c.l,c.Q,c.k,c.len,c.words,c.R,c.l,c.Q,c.k,(c.X.length:Int),c.T,c.fixed,c.tp,c.sl,c.ns,r.L,r.p,r.q,r.st,r.sl,r.sx,r.kp,(ar6 c x r).ax,(ar6 c x r).ls,(ar6 c x r).n0,(ar6 c x r).n1,(ar6 c x r).n2,(ar6 c x r).n3,r.pk,(ar6 c x r).th):=by
 obtain⟨⟨l1,l2⟩,hR,hQ,x1,x2,t2⟩:=h.lens;obtain⟨p1,p2⟩:=aG6 h wT hx wx;unfold br9 at hc;unfold sj;rw[cS5 h wT hx wx,bX4 h wT hx wx];simp only[wA];rw[<-hth,ck6 (by omega) (by rw[hth];omega) wth p2];simp only[wA];rw[bg (by omega),bg (by omega)];rfl
theorem bq8 (h:c.Ok)(wT:cz c.T){t:Int}(ht:0<=t/\t<65536){x:Zd}(hx:x.length=c.X.length)(wx:cz x)(hax:r.ax.length=c.X.length)(wax:cz r.ax)(hth:r.th.length=c.T.length)(wth:cz r.th){B:Int}(hc:br9 B r)(hB:B<=4611686018427387904):
  pf c.mode c.X c.T c.R c.l c.Q c.k c.len c.words c.R c.l c.Q c.k (c.X.length:Int) c.T c.fixed c.tp c.sl c.ns r.L r.p r.q r.st r.sl r.sx r.kp r.ax r.th r.ls r.n0 r.n1 r.n2 r.n3 r.pk t x=C (c.mode,c.X,c.T,c.R,c.l,c.Q,c.k,c.len,c.words,c.R,c.l,c.Q,c.k,(c.X.length:Int),c.T,c.fixed,c.tp,c.sl,c.ns,r.L,r.p,r.q,r.st,r.sl,r.sx,r.kp,(cl5 c t x r).ax,r.ls,r.n0,r.n1,r.n2,(cl5 c t x r).n3,r.pk,(cl5 c t x r).th):=by
 obtain⟨⟨l1,l2⟩,hR,hQ,x1,x2,t2⟩:=h.lens;obtain⟨p1,p2⟩:=aG7 h wT (t:=t) hx wx hax wax;unfold br9 at hc;unfold pf;rw[bX5 h wT ht hx wx hax wax];simp only[wA];rw[<-hth,ck6 (by omega) (by rw[hth];omega) wth p2];simp only[wA];rw[bg (by omega)];rfl
theorem bX6 {l:List (Int×Zd)}{sx:Int}{k:Nat}{t:Int}{x:Zd}(hl:l.length<=1048576)(hk:k<l.length):af8 l sx (k:Int) t x=C (sx,l.set k (t,x)):=by
 unfold af8
 have key:=gl (f:=aa1 (k:Int)) (n:=l.length) (λi=>(l,sx,t,x,sx,(l.set k (t,x)).take i)) (c:=(l,sx,t,x,sx,l.set k (t,x))) (by omega)
  (λi hi=>by
   have hi':i<(l.set k (t,x)).length:=by rw[aD];exact hi
   unfold aa1;simp only;rw[zD (by omega),yB,List.take_succ_eq_append_getElem hi',cD];by_cases he:k=i
   .rw[zD (by omega),yB,ej (by rw[dB];omega) (by omega),bg (by omega),xB he];rfl
   .rw[zB (by omega),yD,dh hi];simp only[wA];rw[ej (by rw[dB];omega) (by omega),bg (by omega),xD he]
    rfl)
  (by
   unfold aa1;rw[zB (by simp),yD];simp only
   rw[List.take_of_length_le (by simp)])
 rw[List.take_zero]at key;rw[key];rfl
theorem aS1.kept {W W':Zd}(hK:gu c W W'){k:Nat}{x:Int×Zd}(h:aS1 c W k x):aS1 c W' k x:=by
 unfold aS1 at*;rw[hK.tag,hK.seg (by unfold sp;omega)];exact h
theorem Slo.kept {W W':Zd}{r r':RS}(H:Slo c W r)(hK:gu c W W')(e1:r'.kp=r.kp)(e2:r'.sx=r.sx)(e3:r'.sl=r.sl):Slo c W' r':=by
 refine⟨e1.trans H.kp,e2.trans H.sx,by rw[e3];exact H.len,λk hk=> ?_⟩;have:r'.sl[k]=r.sl[k]'(by rw[<-e3];exact hk):=by simp only[e3]
 rw[this];exact(H.slot k _).kept hK
theorem Has.put8 (h:c.Ok){W st ax at':Zd}(H:Has c W st ax at'){o:Nat}{w:Zd}(ho:c.off 8<=o)(hw:o+w.length<=c.off 9)(ww:cz w):Has c (Go.V.put W o w) st ax at':=by
 have htk:=H.wd.tk h
 have key: ∀j n,j<8->n<=c.sz j->seg (Go.V.put W o w) (c.off j) n=seg W (c.off j) n:=λj n hj hn=>
  aC6 (by omega) (.inl (by have:=ko (c:=c) hj;omega))
 exact⟨H.wd.put h hw,H.w.put ww _,(key 0 _ (by omega) (bB _)).trans H.t,(key 1 _ (by omega) (bB _)).trans H.s,(key 5 _ (by omega) (bB _)).trans H.x,(key 6 _ (by omega) (bB _)).trans H.a⟩
theorem ds8 (h:c.Ok)(hm:c.mode≠3){W:Zd}(hW:Wd c W){k:Nat}(hk:k<c.ns.toNat){v:Int}{x:Zd}(hx:x.length=c.X.length):
  (∀j,j<c.ns.toNat->j≠k->∀y,aS1 c W j y->aS1 c (put W (sp c k) (v::x)) j y)/\gm c (put W (sp c k) (v::x)) k=v/\seg (put W (sp c k) (v::x)) (sp c k+1) c.X.length=x:=by
 obtain⟨s1,s2,s3⟩:=ai0 h hm hk;have htk:=hW.tk h;have hlen:sp c k+(v::x).length<=W.length:=by rw[aB];omega
 refine⟨λj hj hne y hy=> ?_, ?_, ?_⟩
 .have hd:sp c j+(c.X.length+1)<=sp c k∨sp c k+(v::x).length<=sp c j:=by
   rw[aB,hx];unfold sp;rcases Nat.lt_or_gt_of_ne hne with hlt|hgt
   .left;have:=dD (c.X.length+1) (show j+1<=k from hlt);rw[Nat.succ_mul]at this;omega
   .right;have:=dD (c.X.length+1) (show k+1<=j from hgt);rw[Nat.succ_mul]at this;omega
  unfold aS1 at*
  have e1:gm c (put W (sp c k) (v::x)) j=gm c W j:=by
   unfold gm rg;rw[cB,bD,bD,cx8 hlen (by rcases hd with hd|hd<;>omega)]
  rw[e1,aC6 hlen (by rcases hd with hd|hd;exact .inl (by omega);exact .inr (by omega))];exact hy
 .unfold gm rg;rw[cB,bD,aT8 hlen,xB (by rw[aB];omega),Nat.sub_self];rfl
 .apply List.ext_getElem?;intro i;rw[aw9,aT8 hlen];by_cases hi:i<c.X.length
  .rw[xB hi,xB (by rw[aB,hx];omega),show sp c k+1+i-sp c k=i+1 by omega];rfl
  .rw[xD hi,List.getElem?_eq_none (by omega)]
theorem Slo.put (h:c.Ok)(hm:c.mode≠3){W:Zd}{r r':RS}(H:Slo c W r)(hW:Wd c W){k:Nat}(hk:k<c.ns.toNat){t:Int}{x y:Zd}(hx:x.length=c.X.length)(hy:(0<=t/\y=x)∨(t= -1/\x=du c.X.length))(e1:r'.kp=r.kp)(e2:r'.sx=r.sx)(e3:r'.sl=r.sl.set k (t,y)):Slo c (Go.V.put W (sp c k) ((t+1)::x)) r':=by
 obtain⟨p1,p2,p3⟩:=ds8 h hm hW hk (v:=t+1) hx;have hl:=H.len;refine⟨e1.trans H.kp,e2.trans H.sx,by rw[e3,aD];exact hl,λj hj=> ?_⟩;have hj':j<r.sl.length:=by rw[e3,aD]at hj;exact hj
 have e4:r'.sl[j]=(r.sl.set k (t,y))[j]'(by rw[aD];exact hj'):=by simp only[e3]
 rw[e4,cD];by_cases he:k=j
 .subst he;rw[xB rfl];unfold aS1;rw[p2,p3];refine⟨rfl, ?_⟩;rcases hy with⟨a,b⟩|⟨a,b⟩
  .exact .inl ⟨a,b⟩
  .exact .inr ⟨a,b⟩
 .rw[xD he];exact p1 j (by omega) (λe=>he e.symm) _ (H.slot j hj')
end
end
end Go.V
