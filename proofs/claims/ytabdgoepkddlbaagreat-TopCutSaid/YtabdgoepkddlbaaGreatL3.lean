/- A part of the proofs of this claim: what functions of the program answer on an abstract machine, and plain laws. No condition. -/
import Derived.Test.YtabdgoepkddlbaaGreatL2
import Derived.Test.YtabdgoepkddlbaaGreatA6
import Derived.Test.YtabdgoepkddlbaaGreatD2
set_option linter.unusedVariables false
set_option linter.unusedSimpArgs false
set_option linter.unusedSectionVars false
namespace Go.V
open Go.Ab
open Option renaming some->Y,none->Z
open Bool renaming true->Za,false->Zb
open Decidable renaming decide->Zc
section
open Go.IntKind renaming wrap -> zH, i64 -> zI, u64 -> zJ
open Bool renaming not_true -> aB
open Int renaming mul_comm -> aD, mul_le_mul_of_nonneg_left -> bB
set_option maxRecDepth 100000
theorem dne {x:Int}{i:Decidable (x≠x)}: @Zc (x≠x) i=Zb:=zA λk=>k rfl
section
variable {c:Cx}
def bv1 (c:Cx)(s:Dy):Int×Int×Int×Int×Int×Int×Int×Int×Int×Int×Int×Int×Int×Int×Int×Int:=
 (zH zJ c.mode,zH zJ s.L,zH zJ s.p,zH zJ (zH zI (s.q+1)),zH zJ c.ns,zH zJ s.c0,zH zJ s.c1,zH zJ s.c2,zH zJ s.c3,zH zJ s.lv,zH zJ s.pk,s.z,0,0,0,0)
theorem dh5 (s:Dy):od c.fixed c.tp c.sl c.ns c.mode c.R c.Q c.len c.words s.L s.p s.q s.c0 s.c1 s.c2 s.c3 s.z c.X c.T c.l c.k c.P c.tk s.lv s.pk c.words s.W=Y (bv1 c s):=by
 unfold od vS vT pf pg;simp only[zG];have key:ap (vK c.ns c.mode s.L s.p s.q s.c0 s.c1 s.c2 s.c3 s.lv s.pk) fy ((0,0,0,0,0,0,0,0,0,0,0,0,0,0,0,0,0))=Y (zH zJ c.mode,zH zJ s.L,zH zJ s.p,zH zJ (zH zI (s.q+1)),zH zJ c.ns,zH zJ s.c0,zH zJ s.c1,zH zJ s.c2,zH zJ s.c3,zH zJ s.lv,zH zJ s.pk,0,0,0,0,0):=by kernel_rfl
 rw[key];rfl
theorem cy3 (s:Dy){sb sn sx:Int}:iw c.fixed c.tp c.sl c.ns c.mode c.R c.Q c.len c.words s.L s.p s.q s.c0 s.c1 s.c2 s.c3 s.z c.X c.T c.l c.k c.P c.tk sb sn sx s.lv s.pk c.words s.W=Y (bv1 c s):=by
 unfold iw uj uk pf pg;simp only[zG];have key:ap (uB c.ns c.mode s.L s.p s.q s.c0 s.c1 s.c2 s.c3 s.lv s.pk) fy ((0,0,0,0,0,0,0,0,0,0,0,0,0,0,0,0,0))=Y (zH zJ c.mode,zH zJ s.L,zH zJ s.p,zH zJ (zH zI (s.q+1)),zH zJ c.ns,zH zJ s.c0,zH zJ s.c1,zH zJ s.c2,zH zJ s.c3,zH zJ s.lv,zH zJ s.pk,0,0,0,0,0):=by kernel_rfl
 rw[key];rfl
theorem dg9 {l:Zd}(hl:l.length<1000000):ap (jj l) fy (0,0)=Y ((l.countP λt=>Zc (0<=t):Nat):Int):=by
 have h: ∀i,((l.take i).countP λt=>Zc (0<=t))<=l.length:=λi=>Nat.le_trans List.countP_le_length (by simp;omega)
 have key:ap (jj l) fy (0,(((l.take 0).countP λt=>Zc (0<=t):Nat):Int))=Y (((l.take l.length).countP λt=>Zc (0<=t):Nat):Int):=by
  refine pu (n:=l.length) (λi=>(((l.take i).countP λt=>Zc (0<=t):Nat):Int)) (by omega) (λi hi=> ?_) ?_
  .have h1:=h i;unfold jj;simp only;rw[zB (show(i:Int)<(l.length:Int)by omega),zC,bp hi];simp only[zG];rw[List.getElem?_eq_getElem hi];simp only[zG];rw[ad (n:=(i:Int)+1) (by omega),List.take_succ_eq_append_getElem hi,List.countP_append,ak];by_cases hp:0<=l[i]
   .rw[zE hp,ad (by omega)];simp[hp]
   .rw[zF hp];simp[hp]
  .unfold jj;simp only;rw[zA (by omega),zD]
 rw[List.take_length]at key;exact key
theorem dh0 (W:Zd):((sw c W).countP λt=>Zc (0<=t))=ld c W:=by
 unfold sw ld;rw[List.countP_map];apply List.countP_congr;intro k _;simp only[Function.comp,decide_eq_true_eq];omega
theorem cu4 (h:c.Ok)(hm:c.mode≠3){W:Zd}(hW:Wd c W)(ht: ∀k,k<c.ns.toNat->0<=jq c W k/\jq c W k<=65536):wF (c.off 8:Int) c.ns (c.X.length:Int) c.tk W=Y (.inr ((c.off 8:Int),c.ns,(c.X.length:Int))):=by
 have n:=h.num;have nx:=n.x;have nns:=h.ns;have nm:=n.mul;have nw:=n.words;have hsl:=n.sl;rw[zF hm]at hsl;have h9:=h.off9_le;have h89:c.off 9=c.off 8+(c.sl*c.ns).toNat:=cd2;obtain⟨t1,t2⟩:=hW.tk h;unfold wF rn dn;rw[zB (show 0<=c.ns by omega),zB (show c.ns<=1048576 by omega),zB (show 1<=(c.X.length:Int)by omega),zB (show(c.X.length:Int)<=64 by omega)];simp only[zC,zD,aB,zG];rw[ad (n:=(c.X.length:Int)+1) (by omega),<-hsl,aD c.ns,ad (n:=c.sl*c.ns) (by omega)]
 have hrd:co (c.off 8:Int) (c.sl*c.ns) c.tk W=Y (0,seg W (c.off 8) (c.sl*c.ns).toNat):=by
  have:=an9 (W:=W) (o:=c.off 8) (n:=(c.sl*c.ns).toNat) (tk:=c.off 9) (by omega) t1 t2;rw[Int.toNat_of_nonneg nm]at this;exact this
 rw[hrd];simp only[zG];rw[zA (by simp),zD]
 have key:ap (tF (c.off 8:Int) c.ns (c.X.length:Int) c.tk W) fy 0=Y (.inr ()):=by
  refine xu (n:=c.ns.toNat) (by omega) (λi hi=> ?_) ?_
  .have hti:=ht i hi;unfold tF;rw[zB (by omega),zC,ap8 h hm hi];simp only[zG];rw[bv5 h hm hW hi];simp only[zG];rw[zA (by omega),zD,ad (by omega)];rfl
  .unfold tF;rw[zA (by omega),zD]
 rw[key];rfl
def cT6 (c:Cx)(s:Dy):Int×Int×Int×Int×Int×Int×Int×Int×Int×Int×Int×Int×Int×Int×Int×Int×Int×(Zd)×(Zd)×(List (Int×Int×Int×Int×Int))×(List (Int×Int×Int×Int×Int))×(Zd)×Int×Int×Int×Int×Zd:=
 (c.fixed,c.tp,c.sl,c.ns,c.mode,c.R,c.Q,c.len,c.words,s.L,s.p,s.q,s.c0,s.c1,s.c2,s.c3,s.z,c.X,c.T,c.l,c.k,c.P,c.tk,s.lv,s.pk,c.words,s.W)
def cf5 (c:Cx)(s:Dy):Int×Int×Int×Int×Int×Int×Int×Int×Int×Int×Int×Int×Int×Int×Int×Int×Int×(Zd)×(Zd)×(List (Int×Int×Int×Int×Int))×(List (Int×Int×Int×Int×Int))×(Zd)×Int×Int×Int×Int×Int×Int×Int×Zd:=
 (c.fixed,c.tp,c.sl,c.ns,c.mode,c.R,c.Q,c.len,c.words,s.L,s.p,s.q,s.c0,s.c1,s.c2,s.c3,s.z,c.X,c.T,c.l,c.k,c.P,c.tk,(c.off 8:Int),c.ns,(c.X.length:Int),s.lv,s.pk,c.words,s.W)
theorem wIU {n:Int}(h:0<=n/\n<=9223372036854775807):zH zI (zH zJ n)=n:=by
 rw[cc (by omega),ad (by omega)]
theorem bP3 (h:c.Ok){W:Zd}(hW:Wd c W):ah4 W=Y (.inr W):=by
 have f:=ac6 h;have nw:=h.num.words;unfold Wd at hW;unfold ah4 wc;rw[zA (by omega),zD,zA (by omega),zD];simp only[zG];rw[zA (by simp),zD,ac2 (by omega)];rfl
theorem cC6 {b lv pk:Int}(h:0<=lv)(h1:lv<=pk)(h2:pk<=b):uL b lv pk=Y (.inr (lv,pk,b)):=by
 unfold uL;rw[zA (by omega),zD,zA (by omega),zD,zA (by omega),zD]
def bp9 (c:Cx)(s:Dy):Prop:=c.mode≠2->s.L=c.len
theorem dO2 (h:c.Ok)(hm:c.mode≠3)(e:ke c.mode c.X.length c.T.length c.R c.l c.Q c.k c.len c.words=(c.fixed,c.tp,c.sl,c.ns,0)){s:Dy}(hi:Inv c s)(hL:bp9 c s){B:Int}(hc:Cnt B s)(hB:B<=2305843009213693952):
  jr c.mode c.X c.T c.R c.l c.Q c.k c.len c.words s.W (zH zJ c.mode) (zH zJ s.L) (zH zJ s.p) (zH zJ (zH zI (s.q+1))) (zH zJ c.ns) (zH zJ s.c0) (zH zJ s.c1) (zH zJ s.c2) (zH zJ s.c3) (zH zJ s.lv) (zH zJ s.pk) s.z 0 0 0 0=Y (.inr (.inr (cf5 c s))):=by
 have n:=h.num;have f:=ac6 h;have nw:=n.words;have nns:=h.ns;have nm:=n.mul;have nlen:=n.len;have nmode:=n.mode;have hW:=hi.w;have hp:=hi.p;have hq:=hi.q;have hLL:=hi.L;have hpk:=hi.pk;obtain⟨k0,k1,k2,k3⟩:=hc.in' hB;obtain⟨g1,g2,g3,g4⟩:=bt1 h hi;have h9:=h.off9_le;have h89:c.off 9=c.off 8+(c.sl*c.ns).toNat:=cd2;obtain⟨t1,t2⟩:=hW.tk h;have hWl:s.W.length=c.words.toNat:=hW;unfold jr;rw[bu2 h e];simp only[zG,bg];rw[cc (n:=((s.W.length:Nat):Int)) (by omega),cc (n:=c.words) (by omega),zA (show¬(((s.W.length:Nat):Int)≠c.words)by omega),zD,dne,zD,dne,zD]
 have hlong:kf (zH zJ s.L) c.fixed c.tp c.sl c.ns c.mode c.R c.Q c.len c.words c.len 0 (-1) 0 0 0 0 0 c.X c.T c.l c.k c.P=Y Za:=by
  unfold kf;rw[ak];by_cases h2:c.mode=2
  .rw[zE h2,cc (by omega),zB (by omega)]
  .rw[zF h2,hL h2,zB rfl]
 rw[hlong];simp only[zG,aB,zD];have hq1:zH zI (s.q+1)=s.q+1:=ad (by omega);rw[hq1,cc (n:=s.L) (by omega),cc (n:=s.p) (by omega),cc (n:=s.q+1) (by omega),cc (n:=s.L+1) (by omega),cc (n:=s.lv) (by omega),cc (n:=s.pk) (by omega),zA (show¬s.L<s.p by omega),zD,zA (show¬s.L+1<s.q+1 by omega),zD,zA (show¬c.words<s.lv by omega),zD,zA (show¬c.words<s.pk by omega),zD,bP3 h hW];simp only[zG,bg];rw[show ix 8 c.P.length=Y 8 from bp (k:=8) (by rw[Cx.P_len];omega)];simp only[zG];rw[Cx.P_get (show 8<10 by omega)];simp only[zG]
 have etk:cg (zH zI ((c.off 8:Int)+zH zI (c.ns*c.sl))) 0 s.W=Y (0,0,c.tk):=by
  rw[aD,ad (n:=c.sl*c.ns) (by omega),ad (by omega),show(c.off 8:Int)+c.sl*c.ns=((c.off 9:Nat):Int)by omega];have:=bf9 (o:=0) (n:=c.off 9) (W:=s.W) (by omega) (by omega);rw[Nat.zero_add]at this;exact this
 rw[etk];simp only[zG];rw[ad (n:=s.L) (by omega),ad (n:=s.p) (by omega),ad (n:=s.q+1) (by omega),ad (n:=s.q+1-1) (by omega),show s.q+1-1=s.q by omega];unfold mq eu;simp only[zG];rw[zA hm,zD,show ix 8 c.P.length=Y 8 from bp (k:=8) (by rw[Cx.P_len];omega)];simp only[zG];rw[Cx.P_get (show 8<10 by omega)];simp only[zG];have htag: ∀k,k<c.ns.toNat->0<=jq c s.W k/\jq c s.W k<=65536:=λk hk=>by have:=hi.tag k hk;omega
 rw[cu4 h hm hW htag];simp only[zG,bg];unfold ul
 have hlen:(sw c s.W).length<1000000:=by
  rw[vm];rcases Nat.eq_zero_or_pos c.ns.toNat with h0|h0
  .omega
  .have:=(zf h hm h0).2.2;omega
 rw[bv6 h hm hW htag];simp only[zG];rw[aL6 hLL hp hq hlen (bv7 hi.tag)];simp only[zG,bg,aB,zD];unfold uo qm;simp only[zG];rw[zA hm,Bool.not_false,zC];unfold uQ;rw[bv6 h hm hW htag];simp only[zG];rw[dg9 hlen,dh0];simp only[zG];have hlv:=hi.lv;have hul:=cY2 c s.W;have hsl1:1<=c.sl:=by have:=n.sl;rw[zF hm]at this;omega
 have h8:c.sl*(ld c s.W:Int)<=c.sl*c.ns:=bB (by omega) (by omega);have h8':0<=c.sl*(ld c s.W:Int):=Int.mul_nonneg (by omega) (by omega);rw[aD ((ld c s.W:Nat):Int),ad (n:=c.sl*(ld c s.W:Int)) (by omega),ad (n:=c.fixed+c.sl*(ld c s.W:Int)) (by omega),ad (n:=s.lv) (by omega),zA (show¬(s.lv≠c.fixed+c.sl*(ld c s.W:Int))by omega),zD];simp only[zG,bg];rw[ad (n:=s.pk) (by omega),cC6 g1 hpk.1 hpk.2];simp only[zG,bg];rw[wIU (by omega),wIU (by omega),wIU (by omega),wIU (by omega)];rfl
theorem dO1 (h:c.Ok)(hm:c.mode=3)(e:ke c.mode c.X.length c.T.length c.R c.l c.Q c.k c.len c.words=(c.fixed,c.tp,c.sl,c.ns,0)){s:Dy}(hi:InvB c s){B:Int}(hc:Cnt B s)(hB:B<=2305843009213693952):
  jr c.mode c.X c.T c.R c.l c.Q c.k c.len c.words s.W (zH zJ c.mode) (zH zJ s.L) (zH zJ s.p) (zH zJ (zH zI (s.q+1))) (zH zJ c.ns) (zH zJ s.c0) (zH zJ s.c1) (zH zJ s.c2) (zH zJ s.c3) (zH zJ s.lv) (zH zJ s.pk) s.z 0 0 0 0=Y (.inr (.inl (cT6 c s))):=by
 have n:=h.num;have f:=ac6 h;have nw:=n.words;have nns:=h.ns;have nm:=n.mul;have nlen:=n.len;have nmode:=n.mode;have hW:=hi.w;have hp:=hi.p;have hq:=hi.q;have hLL:=hi.L;have hpk:=hi.pk;have hqp:=hi.qp;obtain⟨k0,k1,k2,k3⟩:=hc.in' hB;obtain⟨g1,g2,g3,g4,g5,g6,g7⟩:=cN8 h hm hi;have h9:=h.off9_le;have h89:c.off 9=c.off 8+(c.sl*c.ns).toNat:=cd2;obtain⟨t1,t2⟩:=hW.tk h;have hWl:s.W.length=c.words.toNat:=hW;unfold jr;rw[bu2 h e];simp only[zG,bg];rw[cc (n:=((s.W.length:Nat):Int)) (by omega),cc (n:=c.words) (by omega),zA (show¬(((s.W.length:Nat):Int)≠c.words)by omega),zD,dne,zD,dne,zD]
 have hlong:kf (zH zJ s.L) c.fixed c.tp c.sl c.ns c.mode c.R c.Q c.len c.words c.len 0 (-1) 0 0 0 0 0 c.X c.T c.l c.k c.P=Y Za:=by
  unfold kf;rw[ak,zF (by omega),hLL,zB rfl]
 rw[hlong];simp only[zG,aB,zD];have hq1:zH zI (s.q+1)=s.q+1:=ad (by omega);rw[hq1,cc (n:=s.L) (by omega),cc (n:=s.p) (by omega),cc (n:=s.q+1) (by omega),cc (n:=s.L+1) (by omega),cc (n:=s.lv) (by omega),cc (n:=s.pk) (by omega),zA (show¬s.L<s.p by omega),zD,zA (show¬s.L+1<s.q+1 by omega),zD,zA (show¬c.words<s.lv by omega),zD,zA (show¬c.words<s.pk by omega),zD,bP3 h hW];simp only[zG,bg];rw[show ix 8 c.P.length=Y 8 from bp (k:=8) (by rw[Cx.P_len];omega)];simp only[zG];rw[Cx.P_get (show 8<10 by omega)];simp only[zG]
 have etk:cg (zH zI ((c.off 8:Int)+zH zI (c.ns*c.sl))) 0 s.W=Y (0,0,c.tk):=by
  rw[aD,ad (n:=c.sl*c.ns) (by omega),ad (by omega),show(c.off 8:Int)+c.sl*c.ns=((c.off 9:Nat):Int)by omega];have:=bf9 (o:=0) (n:=c.off 9) (W:=s.W) (by omega) (by omega);rw[Nat.zero_add]at this;exact this
 rw[etk];simp only[zG];rw[ad (n:=s.L) (by omega),ad (n:=s.p) (by omega),ad (n:=s.q+1) (by omega),ad (n:=s.q+1-1) (by omega),show s.q+1-1=s.q by omega];unfold mq eu;simp only[zG];rw[zB hm,zC];simp only[zG,kn,aB,zD];unfold um eu;simp only[zG];rw[zB hm,aB,zD]
 have hheld:cond (Zc (s.q<0)) (Y s.p) (Y s.q)=Y (nz s):=by
  unfold nz;rw[ak];split<;>rfl
 rw[hheld];simp only[zG];have hlv:=hi.lv;have hh:0<=nz s/\nz s<=c.ns:=by unfold nz;split<;>omega
 have hsl1:1<=c.sl:=by have:=n.sl;rw[zE hm]at this;have:=n.R;omega
 have h8:c.sl*nz s<=c.sl*c.ns:=bB hh.2 (by omega);have h8':0<=c.sl*nz s:=Int.mul_nonneg (by omega) hh.1;rw[aD (nz s),ad (n:=c.sl*nz s) (by omega),ad (n:=c.fixed+c.sl*nz s) (by omega),ad (n:=s.lv) (by omega),zA (show¬(s.lv≠c.fixed+c.sl*nz s)by omega),zD];simp only[zG,bg,kn];rw[ad (n:=s.pk) (by omega),cC6 g1 hpk.1 hpk.2];simp only[zG,bg];rw[wIU (by omega),wIU (by omega),wIU (by omega),wIU (by omega)];rfl
end
end
section
open List renaming length_take -> aB
section
variable {c:Cx}
theorem dG2 (h:c.Ok)(hm:c.mode=3){s:Dy}(hi:InvB c s)(a n:Int):InvB c (plF c a n s).2:=by
 have nm:=h.num;have hW:=hi.w;have hL:=hi.L;have hp:=hi.p;have hq:=hi.q;have hpk:=hi.pk;have hqp:=hi.qp;have hns:=h.ns;have nR:=nm.R;have n1:=nm.xtR;have nx:=nm.x;obtain⟨g1,g2,g3,g4,g5,g6,g7⟩:=cN8 h hm hi;have htp:=nm.tp;rw[zE hm]at htp;have l1:(seg s.W (c.off 1) c.X.length).length=c.X.length:=eb (hW.in' h (i:=1) (by omega));have z1:c.sz 1=c.X.length:=rfl;have o1:=kl (c:=c) (i:=1) (j:=9) (by omega);unfold plF;by_cases a8:a=8
 .rw[zE a8];by_cases hn:n≠0
  .rw[zE hn];exact hi
  rw[zF hn];by_cases hq0:0<=s.q
  .rw[zE hq0];exact hi
  rw[zF hq0];by_cases hpl:s.p=s.L
  .rw[zE hpl];exact hi
  rw[zF hpl];have hheld:nz s=s.p:=by unfold nz;rw[zE (by omega)]
  have hlt:s.p.toNat<c.ns.toNat:=by omega
  obtain⟨s1,s2,s3,s4⟩:=bb2 h hm hlt;obtain⟨f1,f2,f3⟩:=kj h hW s.p;have w1:=ak4 h hW s.p;have hla:((stepR c s.W s.p).2.1++(stepR c s.W s.p).1).length=c.sl.toNat:=by rw[List.length_append];omega
  have w2:=w1.put h (w:=(stepR c s.W s.p).2.1++(stepR c s.W s.p).1) (o:=aq0 c s.p.toNat) (by rw[hla];exact s3);have hbd:=g5 (by rw[hheld];omega);refine⟨w2.put h (by rw[aB];omega),hL,⟨by show 0<=s.p+1;omega,by show s.p+1<=s.L;omega⟩,hq,λhq1=> ?_, ?_, ?_⟩
  .have hq1:0<=s.q:=hq1;omega
  .show s.lv+c.sl=c.fixed+c.sl*(if s.q<0 then s.p+1 else s.q);rw[zE (by omega),hi.lv,hheld,Int.mul_add,Int.mul_one];omega
  .show s.lv+c.sl<=max s.pk (s.lv+c.sl)/\max s.pk (s.lv+c.sl)<=c.words;omega
 rw[zF a8];by_cases a5:a=5
 .rw[zE a5];by_cases hn:n≠0
  .rw[zE hn];exact hi
  rw[zF hn];by_cases hq0:0<=s.q
  .rw[zE hq0];exact hi
  rw[zF hq0];by_cases hpl:s.p≠s.L
  .rw[zE hpl];exact hi
  rw[zF hpl];refine⟨(aL1 h hW l1).2,hL,hp,⟨by show-1<=s.L;omega,Int.le_refl _⟩,λ_=>by show s.p=s.L;omega, ?_, ?_⟩
  .show s.lv=c.fixed+c.sl*(if s.L<0 then s.p else s.L);rw[zF (by omega),hi.lv];unfold nz;rw[zE (by omega),show s.p=s.L by omega]
  .show s.lv<=max s.pk (s.lv+(c.fk.n:Int))/\max s.pk (s.lv+(c.fk.n:Int))<=c.words;omega
 rw[zF a5];by_cases a9:a=9
 .rw[zE a9];by_cases hn:n≠0
  .rw[zE hn];exact hi
  rw[zF hn];by_cases hq1:s.q<1
  .rw[zE hq1];exact hi
  rw[zF hq1];have hlt:(s.q-1).toNat<c.ns.toNat:=by omega
  obtain⟨b1,b2,b3,b4,b5,b6⟩:=bD3 h hm hW hlt;obtain⟨v1,v2,v3⟩:=td h (a:=(bP7 c s.W (s.q-1).toNat).2.1) hW (by omega) (by omega);refine⟨v3.put h (by rw[aB];omega),hL,⟨by show 0<=s.q-1;omega,by show s.q-1<=s.L;omega⟩,⟨by show-1<=s.q-1;omega,by show s.q-1<=s.L;omega⟩,λ_=>rfl, ?_, ?_⟩
  .show s.lv-c.sl=c.fixed+c.sl*(if s.q-1<0 then s.q-1 else s.q-1);have hheld:nz s=s.q:=by unfold nz;rw[zF (by omega)]
   rw[zF (by omega),hi.lv,hheld,Int.mul_sub,Int.mul_one];omega
  .show s.lv-c.sl<=s.pk/\s.pk<=c.words;have:=nm.sl;rw[zE hm]at this;omega
 rw[zF a9];exact hi
theorem dG1 {s:Dy}{B:Int}(hc:Cnt B s)(a n:Int):Cnt (B+65536) (plF c a n s).2:=by
 have key:Cnt (B+65536) s:=by unfold Cnt at hc⊢;omega
 unfold plF
 repeat' split
 all_goals first|exact key|(unfold Cnt at hc⊢;simp only;omega)
def ah1 (c:Cx)(s:Dy):Int×Dy:=if c.mode≠2 then(19,s)else if 0<=s.q then(19,s)else if s.L=65535 then(14,s)else(0,{s with L:=s.L+1})
theorem ch1 {s:Dy}{B:Int}(hc:Cnt B s):Cnt (B+65536) (ah1 c s).2:=by
 have key:Cnt (B+65536) s:=by unfold Cnt at hc⊢;omega
 unfold ah1
 repeat' split
 all_goals first|exact key|(unfold Cnt at hc⊢;simp only;omega)
theorem cO2 (hm:c.mode=3){s:Dy}(hi:InvB c s):InvB c (ah1 c s).2:=by
 unfold ah1;rw[zE (by omega)];exact hi
theorem cO3 {s:Dy}(hi:Inv c s):Inv c (ah1 c s).2:=by
 unfold ah1;split
 .exact hi
 split
 .exact hi
 split
 .exact hi
 .have:=hi.L;have:=hi.p;have:=hi.q;exact⟨hi.w,⟨by show 0<=s.L+1;omega,by show s.L+1<=65535;omega⟩,⟨hi.p.1,by show s.p<=s.L+1;omega⟩,⟨hi.q.1,by show s.q<=s.L+1;omega⟩,λk hk=>by have:=hi.tag k hk;exact⟨this.1,by show jq c s.W k<=s.L+1+1;omega⟩,hi.lv,hi.pk⟩
theorem dd8 {s:Dy}(hl:bp9 c s):bp9 c (ah1 c s).2:=by
 intro hm;unfold ah1;rw[zE hm];exact hl hm
theorem dY1 (a n:Int)(s:Dy):(doF c a n s).2.L=s.L:=by
 unfold doF;by_cases h1:ol a n=Zb∨7<a
 .rw[zE h1]
 rw[zF h1];by_cases h4:(2<=a/\a<=4)/\c.ns<=n
 .rw[zE h4]
 rw[zF h4]
 have two: ∀{P:Prop} [Decidable P] {x y:Int×Dy},x.2.L=s.L->y.2.L=s.L->(if P then x else y).2.L=s.L:=by
  intro P _ x y hx hy;by_cases hP:P
  .rw[zE hP];exact hx
  .rw[zF hP];exact hy
 exact two (two rfl rfl) (two (two rfl rfl) (two (two rfl rfl) (two (two rfl rfl) (two (two rfl (two rfl rfl)) (two (two rfl (two rfl rfl)) (two rfl (two rfl rfl)))))))
theorem dB2 {s:Dy}(hl:bp9 c s)(a n:Int):bp9 c (doF c a n s).2:=λhm=>(dY1 a n s).trans (hl hm)
def dz4 (c:Cx)(x:Int×Int)(s:Dy):Int×Dy:=if x.1=0 then ah1 c s else plF c x.1 x.2 s
theorem dZ6 {s:Dy}(hL:0<=s.L/\s.L<=65535):ko c.fixed c.tp c.sl c.ns c.mode c.R c.Q c.len c.words s.L s.p s.q s.c0 s.c1 s.c2 s.c3 s.z c.X c.T c.l c.k c.P c.tk (c.off 8:Int) c.ns (c.X.length:Int) s.lv s.pk c.words s.W=Y ((ah1 c s).1,c.fixed,c.tp,c.sl,c.ns,c.mode,c.R,c.Q,c.len,c.words,(ah1 c s).2.L,s.p,s.q,s.c0,s.c1,s.c2,s.c3,s.z):=by
 unfold ko ah1;rw[ak];by_cases h1:c.mode≠2
 .rw[zE h1,zE h1]
 rw[zF h1,zF h1,ak];by_cases h2:0<=s.q
 .rw[zE h2,zE h2]
 rw[zF h2,zF h2,ak];by_cases h3:s.L=65535
 .rw[zE h3,zE h3]
 rw[zF h3,zF h3,ad (by omega)]
def dh9 (c:Cx)(x:Int×Int)(s:Dy):Int×Dy:=if x.1=0 then ah1 c s else doF c x.1 x.2 s
structure Well1 (c:Cx)(i:Nat)(s:Dy):Prop where
 inv:InvB c s
 cnt:Cnt (65536*i) s
structure Well2 (c:Cx)(i:Nat)(s:Dy):Prop where
 inv:Inv c s
 cnt:Cnt (65536*i) s
 len:bp9 c s
theorem Well1.act (h:c.Ok)(hm:c.mode=3){i:Nat}{s:Dy}(w:Well1 c i s)(x:Int×Int):Well1 c (i+1) (dz4 c x s).2:=by
 have e:(65536:Int)*((i+1:Nat):Int)=65536*i+65536:=by omega
 unfold dz4;split
 .exact⟨cO2 hm w.inv,by rw[e];exact ch1 w.cnt⟩
 .exact⟨dG2 h hm w.inv _ _,by rw[e];exact dG1 w.cnt _ _⟩
theorem Well2.act (h:c.Ok)(hm:c.mode≠3){i:Nat}{s:Dy}(w:Well2 c i s)(x:Int×Int):Well2 c (i+1) (dh9 c x s).2:=by
 have e:(65536:Int)*((i+1:Nat):Int)=65536*i+65536:=by omega
 unfold dh9;split
 .exact⟨cO3 w.inv,by rw[e];exact ch1 w.cnt,dd8 w.len⟩
 .exact⟨dB1 h hm w.inv _ _,by rw[e];exact dB0 w.cnt _ _,dB2 w.len _ _⟩
theorem Well1.L (h:c.Ok){i:Nat}{s:Dy}(w:Well1 c i s):0<=s.L/\s.L<=65535:=by
 have:=w.inv.L;have:=h.num.len;omega
def dS8 (f:(Int×Int)->Dy->Int×Dy)(l:List (Int×Int))(s:Dy):Nat->Dy
 |0=>s
 |i+1=>(f (l.getD i (0,0)) (dS8 f l s i)).2
theorem cV9 (s:Dy)(h:s.c0=0/\s.c1=0/\s.c2=0/\s.c3=0):Cnt (65536*(0:Nat)) s:=by
 unfold Cnt;omega
theorem ci8 (h:c.Ok)(hm:c.mode=3)(l:List (Int×Int)): ∀i,Well1 c i (dS8 (dz4 c) l (new1 c) i)
 |0=>⟨dp7 h hm,cV9 _ ⟨rfl,rfl,rfl,rfl⟩⟩
 |i+1=>(ci8 h hm l i).act h hm _
theorem ci9 (h:c.Ok)(hm:c.mode≠3)(l:List (Int×Int)): ∀i,Well2 c i (dS8 (dh9 c) l (new2 c) i)
 |0=>⟨dp8 h hm,cV9 _ ⟨rfl,rfl,rfl,rfl⟩,λ_=>rfl⟩
 |i+1=>(ci9 h hm l i).act h hm _
def az4 (c:Cx)(s:Dy):Int×Int×(Zd)×Zd:=if s.q≠0 then(0,19,[],[])else(s.z,0,seg s.W (c.off 5) c.X.length,seg s.W (c.off 6) c.T.length)
theorem dG7 (h:c.Ok){s:Dy}(hW:Wd c s.W):py c.fixed c.tp c.sl c.ns c.mode c.R c.Q c.len c.words s.L s.p s.q s.c0 s.c1 s.c2 s.c3 s.z c.X c.T c.l c.k c.P c.tk s.lv s.pk c.words s.W=Y (az4 c s):=by
 unfold py az4;rw[ak];by_cases h1:s.q≠0
 .rw[zE h1,zE h1]
 rw[zF h1,zF h1,cB4 (ii:=5) (i:=5) h hW rfl (by omega)];simp only[zG];rw[cB4 (ii:=6) (i:=6) h hW rfl (by omega)];rfl
theorem dQ5 (h:c.Ok){s:Dy}(hW:Wd c s.W):qz c.fixed c.tp c.sl c.ns c.mode c.R c.Q c.len c.words s.L s.p s.q s.c0 s.c1 s.c2 s.c3 s.z c.X c.T c.l c.k c.P c.tk s.lv s.pk c.words s.W=Y s.W:=by
 unfold qz np;rw[ac2 (hW.tk h).2];rfl
theorem cW9 (h:c.Ok){s:Dy}(hW:Wd c s.W):i9 c.fixed c.tp c.sl c.ns c.mode c.R c.Q c.len c.words s.L s.p s.q s.c0 s.c1 s.c2 s.c3 s.z c.X c.T c.l c.k c.P c.tk (c.off 8:Int) c.ns (c.X.length:Int) s.lv s.pk c.words s.W=Y (az4 c s):=by
 unfold i9 az4;rw[ak];by_cases h1:s.q≠0
 .rw[zE h1,zE h1]
 rw[zF h1,zF h1,cd1 (ii:=5) (i:=5) h hW rfl (by omega)];simp only[zG];rw[cd1 (ii:=6) (i:=6) h hW rfl (by omega)];rfl
theorem dn3 (h:c.Ok){s:Dy}(hW:Wd c s.W):ju c.fixed c.tp c.sl c.ns c.mode c.R c.Q c.len c.words s.L s.p s.q s.c0 s.c1 s.c2 s.c3 s.z c.X c.T c.l c.k c.P c.tk (c.off 8:Int) c.ns (c.X.length:Int) s.lv s.pk c.words s.W=Y s.W:=by
 unfold ju np;rw[ac2 (hW.tk h).2];rfl
theorem ci1 {l:Zd}{f:Int->Option (Int⊕(Bool⊕Unit))}(hl:l.length<1000000000)(hf: ∀s,f s=cond (Zc (s<((l.length:Nat):Int))) ((rd l s).bind λx=>(rd l s).bind λy=>cond (Zc (x≠y)) (Y (.inr (.inl Zb))) (Y (.inl (IntKind.i64.wrap (s+1))))) (Y (.inr (.inr ())))):ap f fy 0=Y (.inr ()):=by
 refine xu (n:=l.length) (by omega) (λi hi=> ?_) ?_
 .rw[hf];rw[zB (by omega),zC,dq hi];simp only[zG];rw[dne,zD,ad (by omega)];rfl
 .rw[hf];rw[zA (by omega),zD]
theorem cQ0 {z:Int}{l k:Zd}(hl:l.length<1000000000)(hk:k.length<1000000000):i4 z l k z l k=Y Za:=by
 unfold i4;rw[dne,dne,dne,zD,zD,zD,ci1 (f:=aN4 l l) (l:=l) hl λs=>rfl];simp only[zG,bg];rw[ci1 (f:=aN5 k k) (l:=k) hk λs=>rfl];rfl
end
end
section
section
variable {c:Cx}
end
end
section
section
variable {a0:Int} {a1 a2:Zd} {a3:Int} {a4:List cd} {a5:Int} {a6:List cd} {a7 a8:Int}
theorem dH8 (h4: ∀o∈a4,okV o)(h6: ∀o∈a6,okV o):se a0 a1 a2 a3 a4 a5 a6 a7 a8=Y Zb∨(se a0 a1 a2 a3 a4 a5 a6 a7 a8=Y Za/\OpsOk a4/\OpsOk a6/\a1.length<=200/\a2.length<=200):=by
 unfold se av9;by_cases c1:(a4.length:Int)<=60
 .by_cases c2:(a6.length:Int)<=60
  .by_cases c3:(a1.length:Int)<=200
   .by_cases c4:(a2.length:Int)<=200
    .have o4:OpsOk a4:=⟨by omega,h4⟩;have o6:OpsOk a6:=⟨by omega,h6⟩;rw[zB c1,zB c2,zB c3,zB c4];simp only[zC,zG,Bool.not_true,zD];rw[dt4 o4 o6 (by omega) (by omega)];simp only[zG,ak]
     have key: ∀b:Bool,(Y b=Y Zb)∨(Y b=Y Za/\OpsOk a4/\OpsOk a6/\a1.length<=200/\a2.length<=200):=λb=>by
      cases b
      .exact .inl rfl
      .exact .inr ⟨rfl,o4,o6,by omega,by omega⟩
     repeat' split
     all_goals exact key _
    .rw[zB c1,zB c2,zB c3,zA c4];exact .inl rfl
   .rw[zB c1,zB c2,zA c3];exact .inl rfl
  .rw[zB c1,zA c2];exact .inl rfl
 .rw[zA c1];exact .inl rfl
end
end
section
open Go.IntKind renaming wrap -> zH, i64 -> zI, u64 -> zJ
def W64 (a:Int):Prop:=0<=a/\a<18446744073709551616
theorem wU (n:Int):zH zJ n=n % 18446744073709551616:=rfl
theorem dx3 {n:Int}(h:W64 n):zH zJ n=n:=by rw[wU];unfold W64 at h;omega
variable {x s d0 d1 d2 d3 d4 d5 d6 d7 c0 c1 c2 c3 c4 c5 c6 c7 r0 r1 r2 r3 r4 r5 r6 r7 x0 x1 x2 x3 x4 x5 x6 x7 y0 y1 y2 y3 y4 y5 y6 y7 p0 p1 p2 p3 p4 p5 p6 p7:Int}
def Sm (c:Int):Prop:=0<=c/\c<=1000000000
theorem nw {k c n b:Int}(hk:0<=k/\k<=1000000000)(hc:Sm c)(hn:0<=n/\n<b)(hb:0<b/\b<=72057594037927936):zH zI (Int.tdiv (zH zI (k+c)) 256)=(k+c) / 256/\IntKind.u64.wrap (n+(zH zJ ((zH zJ (Int.tmod (zH zI (k+c)) 256))*b)))=n+(k+c) % 256*b:=by
 unfold Sm at hc;have h1:0<=(k+c) % 256/\(k+c) % 256<=255:=by omega
 have h2:0<=(k+c) % 256*b/\(k+c) % 256*b<=255*b:=⟨Int.mul_nonneg h1.1 (by omega),Int.mul_le_mul_of_nonneg_right h1.2 (by omega)⟩;rw[ad (n:=k+c) (by omega),Int.tdiv_eq_ediv_of_nonneg (by omega),Int.tmod_eq_emod_of_nonneg (by omega),ad (by omega),dx3 (n:=(k+c) % 256) ⟨by omega,by omega⟩,dx3 (n:=(k+c) % 256*b) ⟨by omega,by omega⟩,dx3 (n:=n+(k+c) % 256*b) ⟨by omega,by omega⟩];exact⟨rfl,rfl⟩
end
section
section
variable {l:List cd} {R:Int} {f:Fo}
end
section
variable {l:List cd} {m:Zd}
theorem vn : ∀g:Fo,g.unroll.length=g.n
 | .nil=>rfl
 | .op o r=>by simp only[Fo.unroll,Fo.n,List.length_cons,vn r];omega
 | .rep o b e r=>by simp[Fo.unroll,Fo.n,vn r,vn b,Nat.mul_comm]
end
section
variable {l:List cd} {R:Int} {f:Fo}
end
end
section
def oz (r:Zd):Prop:= ∀x∈r,W64 x
theorem w0 :W64 0:=by unfold W64;omega
theorem ec0 (n:Int):W64 (IntKind.u64.wrap n):=by rw[wU];unfold W64;omega
theorem ea4 {r:Zd}(h:oz r)(k:Int):W64 (rg r k):=by
 unfold rg;rw[List.getD_eq_getElem?_getD];by_cases hk:k.toNat<r.length
 .rw[List.getElem?_eq_getElem hk];exact h _ (List.getElem_mem hk)
 .rw[List.getElem?_eq_none (by omega)];exact w0
theorem oz.set {r:Zd}(h:oz r){v:Int}(hv:W64 v)(k:Nat):oz (r.set k v):=λx hx=>by
 rcases List.mem_or_eq_of_mem_set hx with h1|h1
 .exact h x h1
 .rw[h1];exact hv
theorem oz.app {r s:Zd}(h:oz r)(k:oz s):oz (r++s):=λx hx=>(List.mem_append.1 hx).elim (h x) (k x)
theorem oz.rep (n:Nat):oz (List.replicate n 0):=λx hx=>by rw[(List.mem_replicate.1 hx).2];exact w0
theorem oz.fill {R:Int}{r:Zd}(h:oz r):oz (fill R r):=h.app (oz.rep _)
theorem oz.drop {r:Zd}(h:oz r)(n:Nat):oz (r.drop n):=λx hx=>h x (List.mem_of_mem_drop hx)
theorem oz.take {r:Zd}(h:oz r)(n:Nat):oz (r.take n):=λx hx=>h x (List.mem_of_mem_take hx)
theorem dX5 {o:cd}(ho:okV o){x y:Int}(hx:W64 x)(hy:W64 y):W64 (app o x y):=by
 unfold Go.V.app;unfold okV at ho
 repeat' split
 all_goals first|exact ec0 _|exact hx|exact w0|(unfold W64;omega)
def dZ0 (n:Nat)(l:List cd):Prop:= ∀o∈l,inR n o/\okV o
theorem dm7 (l:List cd): ∀s:FS,(fwd cd7 l s).1.length=s.1.length:=by
 induction l with
 |nil=>intro s;rfl
 |cons o l ih=>intro s;show(fwd cd7 l (cd7 o s)).1.length=_;rw[ih];unfold cd7;simp
theorem dQ0 (l:List cd): ∀s:FS,oz s.1->(∀o∈l,okV o)->oz (fwd cd7 l s).1:=by
 induction l with
 |nil=>intro s h _;exact h
 |cons o l ih=>
  intro s h ho;exact ih (cd7 o s) (h.set (dX5 (ho o (by simp)) (ea4 h _) (ea4 h _)) _) (λx hx=>ho x (by simp[hx]))
section
variable {l:List cd} {R:Int} {f:Fo}
theorem vo : ∀(g:Fo),g.Ok->∀o∈g.unroll,o∈g.src/\0<o.1/\o.1<7
 | .nil,_,o,ho=>by cases ho
 | .op x r,h,o,ho=>by
  rcases List.mem_cons.1 ho with rfl|ho
  .exact⟨by simp[Fo.src],h.1⟩
  .obtain⟨h1,h2⟩:=vo r h.2 o ho;exact⟨by simp[Fo.src,h1],h2⟩
 | .rep x b e r,h,o,ho=>by
  simp only[Fo.unroll]at ho;rcases List.mem_append.1 ho with ho|ho
  .obtain⟨u,hu,ho⟩:=List.mem_flatten.1 ho;rw[(List.mem_replicate.1 hu).2]at ho;obtain⟨h1,h2⟩:=vo b h.2.1 o ho;exact⟨by simp[Fo.src,h1],h2⟩
  .obtain⟨h1,h2⟩:=vo r h.2.2 o ho;exact⟨by simp[Fo.src,h1],h2⟩
theorem Prg.goodU (h:Prg R l f):dZ0 R.toNat f.unroll:=λo ho=>by
 obtain⟨h1,h2⟩:=vo f h.ok o ho;rw[h.src]at h1;exact⟨h.regs o h1 h2,h.ops.v o h1⟩
end
end
section
section
variable {l:List cd} {R:Int} {f:Fo}
theorem bV9 (h:Prg R l f){r:Zd}(wr:oz r):(cd5 f r).length=r.length/\oz (cd5 f r):=⟨dm7 _ _,dQ0 _ _ wr λo ho=>(h.goodU o ho).2⟩
end
end
section
open Nat renaming le_refl -> aB, lt_or_gt_of_ne -> aD
theorem oz.put {W w:Zd}(h:oz W)(k:oz w)(o:Nat):oz (put W o w):=(h.take o).app (k.app (h.drop _))
theorem oz.seg {W:Zd}(h:oz W)(o n:Nat):oz (seg W o n):=(h.drop o).take n
section
variable {c:Cx}
structure Has (c:Cx)(W st ax at':Zd):Prop where
 wd:Wd c W
 w:oz W
 t:seg W 0 c.T.length=c.T
 s:seg W (c.off 1) c.X.length=st
 x:seg W (c.off 5) c.X.length=ax
 a:seg W (c.off 6) c.T.length=at'
theorem dv5 (h:c.Ok){W:Zd}(hW:Wd c W){i:Nat}(hi:i<9){w:Zd}(hw:w.length<=c.sz i):c.off i+w.length<=W.length:=by
 have:=hW.in' h hi;omega
theorem Has.put (h:c.Ok){W st ax at':Zd}(H:Has c W st ax at'){i:Nat}(hi:i<9){w:Zd}(hw:w.length<=c.sz i)(ww:oz w)(h0:i≠0)(h1:i≠1)(h5:i≠5)(h6:i≠6):Has c (put W (c.off i) w) st ax at':=by
 have hl:=dv5 h H.wd hi hw
 have key: ∀j n,j≠i->n<=c.sz j->j<9->seg (Go.V.put W (c.off i) w) (c.off j) n=seg W (c.off j) n:=λj n hj hn h9=>by
  refine bo0 hl ?_;rcases aD hj with hlt|hgt
  .exact .inl (by have:=kl (c:=c) hlt;omega)
  .exact .inr (by have:=kl (c:=c) hgt;omega)
 refine⟨H.wd.put h (by have:=kl (c:=c) (show i<9 from hi);omega),H.w.put ww _, ?_, ?_, ?_, ?_⟩
 .have:=key 0 c.T.length (Ne.symm h0) (aB _) (by omega);exact this.trans H.t
 .exact(key 1 c.X.length (Ne.symm h1) (aB _) (by omega)).trans H.s
 .exact(key 5 c.X.length (Ne.symm h5) (aB _) (by omega)).trans H.x
 .exact(key 6 c.T.length (Ne.symm h6) (aB _) (by omega)).trans H.a
theorem bW1 (h:c.Ok){W:Zd}(hW:Wd c W){i j n:Nat}(hij:j≠i)(hi:i<9)(hj:j<9)(hn:n<=c.sz j){w:Zd}(hw:w.length<=c.sz i):seg (put W (c.off i) w) (c.off j) n=seg W (c.off j) n:=by
 refine bo0 (dv5 h hW hi hw) ?_;rcases aD hij with hlt|hgt
 .exact .inl (by have:=kl (c:=c) hlt;omega)
 .exact .inr (by have:=kl (c:=c) hgt;omega)
theorem Has.put1 (h:c.Ok){W st ax at':Zd}(H:Has c W st ax at'){w:Zd}(hw:w.length=c.X.length)(ww:oz w):Has c (Go.V.put W (c.off 1) w) w ax at':=by
 have hs:w.length<=c.sz 1:=Nat.le_of_eq hw;refine⟨H.wd.put h (by have:=kl (c:=c) (show 1<9 by omega);omega),H.w.put ww _,(bW1 h H.wd (i:=1) (j:=0) (by omega) (by omega) (by omega) (aB _) hs).trans H.t, ?_,(bW1 h H.wd (i:=1) (j:=5) (by omega) (by omega) (by omega) (aB _) hs).trans H.x,(bW1 h H.wd (i:=1) (j:=6) (by omega) (by omega) (by omega) (aB _) hs).trans H.a⟩;rw[<-hw];exact ct9 (dv5 h H.wd (by omega) hs)
def cc2 (c:Cx)(t:Int)(x:Zd):Zd:=x++(c.T++[IntKind.u64.wrap t])
def cG5 (c:Cx)(t:Int)(x:Zd):Zd:=(cd5 c.fl (fill c.R (cc2 c t x))).take c.X.length
theorem Cx.Ok.lens (h:c.Ok):((c.X.length:Int)+c.T.length+1<=c.R/\(c.X.length:Int)+c.T.length<=c.Q)/\(1<=c.R/\c.R<=64)/\(1<=c.Q/\c.Q<=64)/\1<=c.X.length/\c.X.length<=64/\c.T.length<=64:=by
 have n:=h.num;have h1:=bz5 h.hc;exact⟨cf3 (by have:=n.x;omega) (by have:=n.t;omega) h1.2,n.R,n.Q,n.x.1,n.x.2,n.t⟩
theorem cz2 (t:Int){x:Zd}(hx:x.length=c.X.length):(cc2 c t x).length=c.X.length+c.T.length+1:=by unfold cc2;simp[hx];omega
theorem dj1 {t:Int}{x:Zd}(wx:oz x)(wT:oz c.T):oz (cc2 c t x):=wx.app (wT.app λv hv=>by rw[List.mem_singleton.1 hv];exact ec0 _)
variable (h:c.Ok) (wT:oz c.T)
include h wT
theorem cG6 {t:Int}{x:Zd}(hx:x.length=c.X.length)(wx:oz x):(cG5 c t x).length=c.X.length/\oz (cG5 c t x):=by
 obtain⟨⟨l1,l2⟩,hR,hQ,x1,x2,t2⟩:=h.lens;obtain⟨f1,f2⟩:=bV9 h.pl (r:=fill c.R (cc2 c t x)) (dj1 wx wT).fill;rw[vi (by rw[cz2 t hx];omega)]at f1;unfold cG5;exact⟨by rw[List.length_take,f1];omega,f2.take _⟩
end
end
section
section
variable {c:Cx} (h:c.Ok) (wT:oz c.T) {W st ax at':Zd}
def dI3 (c:Cx)(t:Int)(x:Zd):TS:=aM2 c.fl (fill c.R (cc2 c t x)) (gx c.fl.n)
include h wT
theorem Has.lens (H:Has c W st ax at'):st.length=c.X.length/\ax.length=c.X.length/\at'.length=c.T.length/\oz st/\oz ax/\oz at':=by
 refine⟨?_, ?_, ?_, ?_, ?_, ?_⟩
 .rw[<-H.s];exact eb (H.wd.in' h (i:=1) (by omega))
 .rw[<-H.x];exact eb (H.wd.in' h (i:=5) (by omega))
 .rw[<-H.a];exact eb (H.wd.in' h (i:=6) (by omega))
 .rw[<-H.s];exact H.w.seg _ _
 .rw[<-H.x];exact H.w.seg _ _
 .rw[<-H.a];exact H.w.seg _ _
omit wT in
theorem Has.stepR (H:Has c W st ax at')(p:Int):stepR c W p=dI3 c p st:=by
 unfold Go.V.stepR dI3 cc2;rw[H.s,H.t]
omit wT in
theorem Has.lossR (H:Has c W st ax at')(x:Zd):lossR c W x=aM2 c.fk (fill c.Q (x++(c.T++[]))) (gx c.fk.n):=by
 unfold Go.V.lossR;rw[H.t]
theorem Has.adv1 (H:Has c W st ax at')(p:Int):Has c (Go.V.adv1 c W p) (cG5 c p st) ax at':=by
 obtain⟨⟨l1,l2⟩,hR,hQ,x1,x2,t2⟩:=h.lens;obtain⟨k1,k2,k3,k4,k5,k6⟩:=H.lens h wT
 have e:bE7 c W p=cd5 c.fl (fill c.R (cc2 c p st)):=by
  unfold bE7 cc2;rw[H.s,H.t]
 obtain⟨f1,f2⟩:=bV9 h.pl (r:=fill c.R (cc2 c p st)) (dj1 k4 wT).fill;rw[vi (by rw[cz2 p k1];omega)]at f1;obtain⟨s1,s2⟩:=cG6 h wT (t:=p) k1 k4;unfold Go.V.adv1;rw[e];exact(H.put h (i:=2) (by omega) (Nat.le_of_eq f1) f2 (by omega) (by omega) (by omega) (by omega)).put1 h s1 s2
def cQ7 (c:Cx)(t:Int)(x:Zd):Nat->Zd
 |0=>x
 |i+1=>cG5 c (t+(i:Int)) (cQ7 c t x i)
theorem Has.advW (H:Has c W st ax at')(p:Int): ∀i,Has c (Go.V.advW c W p i) (cQ7 c p st i) ax at'
 |0=>H
 |i+1=>(Has.advW H p i).adv1 h wT _
end
end
section
open Nat renaming le_refl -> aB
def ch :Nat->Nat->Nat
 |_,0=>1
 |0,_+1=>0
 |n+1,k+1=>ch n k+ch n (k+1)
theorem cp8 (n:Nat):ch n 0=1:=by cases n<;>rfl
theorem bI0 (n k:Nat):ch (n+1) (k+1)=ch n k+ch n (k+1):=rfl
theorem cp9 : ∀n k,ch (n+1) (k+1)*(k+1)=ch n k*(n+1)
 |0,0=>rfl
 |0,k+1=>by rw[bI0];simp[ch]
 |n+1,0=>by
  have h:=cp9 n 0;rw[cp8]at h;rw[bI0 (n+1) 0,cp8];omega
 |n+1,k+1=>by
  have h1:=cp9 n k;have h2:=cp9 n (k+1);rw[bI0 (n+1) (k+1),Nat.add_mul,h2,show k+1+1=(k+1)+1 from rfl,Nat.mul_add (ch (n+1) (k+1)),h1,Nat.mul_one,bI0 n k,Nat.mul_add (ch n k+ch n (k+1)) (n+1) 1,Nat.add_mul];omega
theorem cL6 : ∀{n k:Nat},k<=n->1<=ch n k
 |n,0,_=>by rw[cp8];exact aB _
 |n+1,k+1,h=>by rw[bI0];have:=cL6 (n:=n) (k:=k) (by omega);omega
theorem cq0 : ∀{n k:Nat},n<k->ch n k=0
 |0,k+1,_=>rfl
 |n+1,k+1,h=>by rw[bI0,cq0 (by omega),cq0 (by omega)]
theorem cT3 (n:Nat):ch n n=1:=by
 induction n with
 |zero=>rfl
 |succ n ih=>rw[bI0,ih,cq0 (by omega)]
theorem br7 : ∀s a b,a+b=s->ch s a=ch s b
 |0,a,b,h=>by rw[show a=0 by omega,show b=0 by omega]
 |s+1,0,b,h=>by rw[show b=s+1 by omega,cp8,cT3]
 |s+1,a+1,0,h=>by rw[show a=s by omega,cp8,cT3]
 |s+1,a+1,b+1,h=>by
  rw[bI0,bI0,br7 s a (b+1) (by omega),br7 s (a+1) b (by omega)];omega
theorem dX9 (d i:Nat):ch (d+i) i<=ch (d+(i+1)) (i+1):=by
 rw[show d+(i+1)=(d+i)+1 by omega,bI0];omega
theorem dk3 (d:Nat){i j:Nat}(h:i<=j):ch (d+i) i<=ch (d+j) j:=by
 induction j with
 |zero=>rw[show i=0 by omega];exact aB _
 |succ j ih=>
  by_cases hi:i=j+1
  .rw[hi];exact aB _
  .exact Nat.le_trans (ih (by omega)) (dX9 d j)
theorem bJ3 {s:Nat}(hs:1<=s): ∀l,l+1<=ch (s+l) l
 |0=>by rw[cp8];exact aB _
 |l+1=>by
  rw[show s+(l+1)=(s+l)+1 by omega,bI0];have:=bJ3 hs l;have:=cL6 (n:=s+l) (k:=l+1) (by omega);omega
def ai2 :Nat:=1099511627776
def chI (n k:Int):Int:=if n<0∨k<0∨n<k then 0 else((min ai2 (ch n.toNat k.toNat):Nat):Int)
theorem dA2 {d i:Nat}(hi:1<=i):ch (d+(i-1)) (i-1)*(d+i) / i=ch (d+i) i:=by
 have:=cp9 (d+(i-1)) (i-1);rw[show i-1+1=i by omega,show d+(i-1)+1=d+i by omega]at this;rw[<-this];exact Nat.mul_div_cancel _ (by omega)
structure IsRep (l s r:Nat):Prop where
 up:l<=ch (s+r) r
 low: ∀x,x<r->ch (s+x) x<l
theorem IsRep.eq {l s r r':Nat}(h:IsRep l s r)(h':IsRep l s r'):r=r':=by
 rcases Nat.lt_trichotomy r r' with k|k|k
 .have:=h'.low _ k;have:=h.up;omega
 .exact k
 .have:=h.low _ k;have:=h'.up;omega
theorem IsRep.le {l s r:Nat}(h:IsRep l s r)(hs:1<=s):r<=l:=by
 rcases Nat.lt_or_ge l r with k|k
 .have:=h.low _ k;have:=bJ3 hs l;omega
 .exact k
theorem dS6 {l s r:Nat}(h:l<=ch (s+r) r)(h':r=0∨ch (s+(r-1)) (r-1)<l):IsRep l s r:=
 ⟨h,λx hx=>by
  rcases h' with h'|h'
  .omega
  .exact Nat.lt_of_le_of_lt (dk3 s (show x<=r-1 by omega)) h'⟩
def spI (n c r:Int):Int:=max 1 (max (chI (c+r-2) c) (n-chI (c+r-1) (c-1)))
theorem cp7 {n k:Nat}(h:k<=n):chI (n:Int) (k:Int)=((min ai2 (ch n k):Nat):Int):=by
 unfold chI;rw[zF (by omega)];rfl
theorem dP2 (n k:Int):0<=chI n k/\chI n k<=1099511627776:=by
 unfold chI ai2;split<;>omega
theorem dT2 {n c r:Nat}(hn:2<=n)(hc:1<=c)(hr:IsRep n c r)(hM:n<=65536):1<=spI n c r/\spI n c r<=n-1/\(c=1->spI n c r=n-1):=by
 have r1:1<=r:=by
  rcases Nat.eq_zero_or_pos r with h|h
  .have:=hr.up;rw[h,cp8]at this;omega
  .exact h
 have hlow:=hr.low (r-1) (by omega)
 have a1:chI ((c:Int)+r-2) c<=(n:Int)-1:=by
  unfold chI;split
  .omega
  .rename_i h;rw[show((c:Int)+r-2).toNat=c+r-2 by omega,Int.toNat_natCast];have e1:ch (c+(r-1)) (r-1)=ch (c+(r-1)) c:=br7 _ _ _ (by omega)
   have e2:ch (c+r-2) c<=ch (c+(r-1)) c:=by
    obtain⟨c',rfl⟩: ∃c',c=c'+1:=⟨c-1,by omega⟩
    rw[show c'+1+(r-1)=(c'+1+r-2)+1 by omega,bI0];omega
   omega
 have b0:1<=chI ((c:Int)+r-1) (c-1):=by
  rw[show(c:Int)+r-1=((c+r-1:Nat):Int)by omega,show(c:Int)-1=((c-1:Nat):Int)by omega,cp7 (by omega)];have:=cL6 (n:=c+r-1) (k:=c-1) (by omega);unfold ai2;omega
 unfold spI;refine⟨by omega,by omega,λhc1=> ?_⟩;subst hc1
 have b1:chI (((1:Nat):Int)+r-1) (((1:Nat):Int)-1)=1:=by
  rw[show(((1:Nat):Int))+r-1=((r:Nat):Int)by omega,show(((1:Nat):Int))-1=((0:Nat):Int)by omega,cp7 (by omega),cp8];rfl
 rw[b1];omega
end
section
open List renaming getElem_mem -> aB
structure Mc where
 L:Int
 p:Int
 q:Int
 t:Zd
def mac (a:Int×Int)(m:Mc):Option Mc:=
 if a.1=1 then(if 1<=a.2/\a.2<=65535/\m.p+a.2<=m.L then Y {m with p:=m.p+a.2}else Z)
 else if a.1=2 then(if 0<=a.2/\a.2<m.t.length/\m.t.getD a.2.toNat 0<0 then Y {m with t:=m.t.set a.2.toNat m.p}else Z)
 else if a.1=3 then(if 0<=a.2/\a.2<m.t.length/\0<=m.t.getD a.2.toNat 0 then Y {m with p:=m.t.getD a.2.toNat 0}else Z)
 else if a.1=4 then(if 0<=a.2/\a.2<m.t.length/\0<=m.t.getD a.2.toNat 0 then Y {m with t:=m.t.set a.2.toNat (-1)}else Z)
 else if a.1=5 then(if a.2=0/\m.q= -1/\m.p=m.L then Y {m with q:=m.p}else Z)
 else if a.1=6 then(if a.2=0/\m.q= -1/\m.p=m.L-1 then Y {m with q:=m.p}else Z)
 else if a.1=7 then(if a.2=0/\0<m.q/\m.p=m.q-1 then Y {m with q:=m.p}else Z)
 else Z
inductive Run (nx:Mc->Option (Int×Int)):Mc->List (Int×Int)->Mc->Prop
 |nil (m:Mc):Run nx m [] m
 |cons {m m' m'':Mc} {a:Int×Int} {l:List (Int×Int)}:nx m=Y a->mac a m=Y m'->Run nx m' l m''->Run nx m (a::l) m''
theorem Run.append {nx:Mc->Option (Int×Int)}{m m' m'':Mc}{l l':List (Int×Int)}(h:Run nx m l m')(h':Run nx m' l' m''):Run nx m (l++l') m'':=by
 induction h with
 |nil=>exact h'
 |cons a b _ ih=>exact .cons a b (ih h')
theorem Run.one {nx:Mc->Option (Int×Int)}{m m':Mc}{a:Int×Int}(h1:nx m=Y a)(h2:mac a m=Y m'):Run nx m [a] m':= .cons h1 h2 (.nil _)
def ta (t:Zd):Int:=t.foldl max (-1)
def slo (t:Zd)(x:Int):Nat:=t.findIdx λy=>Zc (y=x)
def fre (t:Zd):Nat:=t.countP λy=>Zc (y<0)
def vac (t:Zd):Nat:=t.findIdx λy=>Zc (y<0)
def bu7 (l s:Nat):Nat:=((List.range (l+1)).find? λr=>Zc (l<=ch (s+r) r)).getD 0
theorem cW8 (l:Nat){s:Nat}(hs:1<=s):IsRep l s (bu7 l s):=by
 unfold bu7;cases h:(List.range (l+1)).find? λr=>Zc (l<=ch (s+r) r)with
 |none=>
  have:=List.find?_eq_none.1 h l (List.mem_range.2 (by omega));have:=bJ3 hs l;simp only[decide_eq_true_eq]at*;omega
 |some r=>
  obtain⟨h1,h2⟩:=List.find?_range_eq_some.1 h;refine⟨of_decide_eq_true h1,λx hx=> ?_⟩;have:=h2.2 x hx;simp only[Bool.not_eq_true',decide_eq_false_iff_not]at this;omega
def aD2 (m:Mc):Option (Int×Int):=
 let e:=if m.q<0 then m.L else m.q
 if 0<=m.q/\e<=ta m.t then Y (4,slo m.t (ta m.t))
 else if m.q=0 then Z
 else if m.q<0/\m.p=m.L then Y (5,0)
 else if m.p=e-1 then(if 0<=m.q then Y (7,0)else Y (6,0))
 else if ta m.t<0 then(if e<=m.p then Z else Y (2,0))
 else if m.p<ta m.t∨e<=m.p then Y (3,slo m.t (ta m.t))
 else if ta m.t<m.p/\0<fre m.t then Y (2,vac m.t)
 else if ta m.t<m.p then Y (1,e-1-m.p)
 else Y (1,spI (e-ta m.t) (fre m.t+1) (bu7 (e-ta m.t).toNat (fre m.t+1)))
theorem zt (t:Zd): ∀x,x<=t.foldl max x/\(∀y∈t,y<=t.foldl max x)/\(t.foldl max x=x∨t.foldl max x∈t):=by
 induction t with
 |nil=>exact λx=>⟨Int.le_refl _,λy hy=>by(cases hy), .inl rfl⟩
 |cons z t ih=>
  intro x;obtain⟨h1,h2,h3⟩:=ih (max x z);rw[List.foldl_cons];refine⟨by omega,λy hy=> ?_, ?_⟩
  .rcases List.mem_cons.1 hy with rfl|hy
   .omega
   .exact h2 y hy
  .rcases h3 with h3|h3
   .rw[h3];rcases Int.le_total x z with k|k
    .exact .inr (by rw[Int.max_eq_right k];exact List.mem_cons_self ..)
    .exact .inl (Int.max_eq_left k)
   .exact .inr (List.mem_cons_of_mem _ h3)
theorem bB6 {t:Zd}{x:Int}(hx: -1<=x)(h1: ∀y∈t,y<=x)(h2:x= -1∨x∈t):ta t=x:=by
 obtain⟨a,b,c⟩:=zt t (-1);unfold ta
 have u:t.foldl max (-1)<=x:=by
  rcases c with c|c
  .omega
  .exact h1 _ c
 have v:x<=t.foldl max (-1):=by
  rcases h2 with h|h
  .omega
  .exact b _ h
 omega
theorem dT7 {t:Zd}{x:Int}(hx:0<=x)(h1: ∀y∈t,y<x):ta t<x:=by
 obtain⟨a,b,c⟩:=zt t (-1);unfold ta;rcases c with c|c
 .omega
 .exact h1 _ c
theorem bt3 {t:Zd}{k:Nat}{a y:Int}(h:y∈t.set k a):y∈t∨y=a:=List.mem_or_eq_of_mem_set h
theorem dI6 {t:Zd}{k:Nat}{a:Int}(ha:0<=a)(hk:k<t.length)(h: ∀y∈t,y<a):ta (t.set k a)=a:=
 bB6 (by omega) (λy hy=>by rcases bt3 hy with k|k;exact Int.le_of_lt (h y k);omega) (.inr (List.mem_set hk a))
theorem dH7 {t:Zd}{k:Nat}{a:Int}(hk:k<t.length)(h: ∀y∈t,y<a):slo (t.set k a) a=k:=by
 unfold slo;rw[List.findIdx_eq (by rw[List.length_set];exact hk)];refine⟨by simp,λj hj=> ?_⟩;have:=h t[j] (aB _);rw[List.getElem_set_ne (by omega)];exact zA (by omega)
theorem dx1 {t:Zd}(h:0<fre t): ∃hv:vac t<t.length,t[vac t]<0:=by
 unfold fre at h;obtain⟨y,hy,hy0⟩:=List.countP_pos_iff.1 h;have hv:vac t<t.length:=List.findIdx_lt_length_of_exists ⟨y,hy,hy0⟩;refine⟨hv,of_decide_eq_true (List.findIdx_getElem (w:=hv))⟩
theorem dC3 {t:Zd}{k:Nat}{a:Int}(ha:0<=a)(hk:k<t.length)(h:t[k]<0):fre (t.set k a)+1=fre t:=by
 unfold fre;rw[List.countP_set hk,zB h,zA (show¬a<0 by omega)];have:0<t.countP λy=>Zc (y<0):=List.countP_pos_iff.2 ⟨_,aB hk,zB h⟩
 simp only[if_true,Bool.false_eq_true,if_false];omega
end
section
open Int renaming reduceEq -> aB, toNat_natCast -> aD
open List renaming length_set -> bB, getD_eq_getElem?_getD -> bD, getElem_mem -> cB
def spF (n c:Nat):Nat:=(spI n c (bu7 n c)).toNat
theorem dv0 {n c:Nat}(hn:2<=n)(hc:1<=c)(hM:n<=65536):1<=spF n c/\spF n c+1<=n/\(c=1->spF n c+1=n)/\((spF n c:Nat):Int)=spI n c (bu7 n c):=by
 obtain⟨h1,h2,h3⟩:=dT2 hn hc (cW8 n hc) hM;unfold spF;exact⟨by omega,by omega,λh=>by have:=h3 h;omega,by omega⟩
def hld (t:Zd):List Bool:=t.map λy=>Zc (0<=y)
def pt :Nat->Bool->Nat->Nat->Nat->List Bool->Bool->List (Int×Int)
 |0,_,_,_,_,_,_=>[]
 |f+1,Zb,n,c,_,h,last=>if n=1 then [(if last then 6 else 7,0)]else(2,((h.findIdx λb=> !b:Nat):Int))::pt f Za n c (h.findIdx λb=> !b) (h.set (h.findIdx λb=> !b) Za) last
 |f+1,Za,n,c,k,h,last=>if n<=1 then [(7,0),(4,(k:Int))]else(1,(spF n c:Int))::(pt f Zb (n-spF n c) (c-1) 0 h last++(3,(k:Int))::pt f Za (spF n c) c k h Zb)
theorem dD0 (t:Zd):((hld t).findIdx λb=> !b)=vac t:=by
 unfold hld vac;rw[List.findIdx_map]
 congr 1
 funext y
 show(!Zc (0<=y))=Zc (y<0);by_cases h:0<=y
 .rw[zB h,zA (by omega)];rfl
 .rw[zA h,zB (by omega)];rfl
theorem dC9 (t:Zd)(k:Nat){a:Int}(ha:0<=a):hld (t.set k a)=(hld t).set k Za:=by
 unfold hld;rw[List.map_set,zB ha]
theorem cB5 {t:Zd}{k:Nat}{a:Int}(hk:k<t.length):(t.set k a).getD k 0=a:=by
 rw[bD,List.getElem?_set_self hk];rfl
structure At30 (L q a:Int)(n:Nat)(last:Bool):Prop where
 fa:0<=a
 fn:1<=n/\n<=65535
 fe:(if q<0 then L else q)=a+n
 fl:last=Za->q= -1
 fm:last=Zb->0<=q
 fL:a+n<=L
theorem du1 : ∀(f:Nat),(∀(n c k:Nat) (t:Zd) (last:Bool) (L q a:Int),2*n<=f->At30 L q a n last->(∀y∈t,y<a)->(∀y∈t,-1<=y)->fre t=c->(2<=n->1<=c)->Run aD2 ⟨L,a,q,t⟩ (pt f Zb n c k (hld t) last) ⟨L,a,a,t⟩)/\
  (∀(n c k:Nat) (t:Zd) (last:Bool) (L q a:Int),2*n<=f+1->At30 L q a n last->(n=1->last=Zb)->(∀y∈t,y<a)->(∀y∈t,-1<=y)->(hk:k<t.length)->t[k]<0->fre t=c->Run aD2 ⟨L,a,q,t.set k a⟩ (pt f Za n c k (hld (t.set k a)) last) ⟨L,a,a,t⟩)
 |0=>⟨λn c k t last L q a h1 h2=>by have:=h2.fn;omega,λn c k t last L q a h1 h2=>by have:=h2.fn;omega⟩
 |f+1=>by
  obtain⟨ihp,iht⟩:=du1 f;refine⟨λn c k t last L q a hf hA hlt hge hc hc1=> ?_,λn c k t last L q a hf hA hl1 hlt hge hk htk hc=> ?_⟩
  .obtain⟨ha,hn,he,hl,hm,hL⟩:=hA;have htop:=dT7 (t:=t) ha hlt;unfold pt;by_cases h1:n=1
   .rw[zE h1];cases last with
    |true=>
     have hq:=hl rfl;rw[zE (by omega)]at he;rw[zE rfl];refine .one (m':=⟨L,a,a,t⟩) ?_ ?_
     .unfold aD2;simp only;rw[zE (show q<0 by omega),zF (by omega),zF (by omega),zF (by omega),zE (by omega),zF (by omega)]
     .unfold mac;simp only[aB,true_and,if_true,if_false];rw[zE (by omega)]
    |false=>
     have hq:=hm rfl;rw[zF (by omega)]at he;rw[zF (by decide)];refine .one (m':=⟨L,a,a,t⟩) ?_ ?_
     .unfold aD2;simp only;rw[zF (show¬q<0 by omega),zF (by omega),zF (by omega),zF (by omega),zE (by omega),zE (by omega)]
     .unfold mac;simp only[aB,true_and,if_true,if_false];rw[zE (by omega)]
   .rw[zF h1,dD0,<-dC9 t _ ha];have hfr:0<fre t:=by have:=hc1 (by omega);omega
    obtain⟨hv,hv0⟩:=dx1 hfr;refine .cons (m':=⟨L,a,q,t.set (vac t) a⟩) ?_ ?_ (iht n c (vac t) t last L q a (by omega) ⟨ha,hn,he,hl,hm,hL⟩ (λh=>absurd h h1) hlt hge hv hv0 hc)
    .unfold aD2;simp only;rw[he,zF (by omega),zF (by split at he<;>omega),zF (by split at he<;>omega),zF (by omega)];by_cases ht:ta t<0
     .rw[zE ht,zF (by omega)]
      have:vac t=0:=by
       unfold vac;rw[List.findIdx_eq (by omega)];refine⟨zB ?_,λj hj=>by omega⟩;have:=(zt t (-1)).2.1 _ (cB (show 0<t.length by omega));unfold ta at ht;omega
      rw[this];rfl
     .rw[zF ht,zF (by omega),zE ⟨by omega,hfr⟩]
    .unfold mac;simp only[aB,true_and,if_false,if_true,aD];rw[bD,List.getElem?_eq_getElem hv,zE ⟨by omega,by omega,hv0⟩]
  .obtain⟨ha,hn,he,hl,hm,hL⟩:=hA;have htop:=dI6 ha hk hlt;have hslo:=dH7 hk hlt;have hfre:=dC3 ha hk htk;have hsl:k<(t.set k a).length:=by rw[bB];exact hk
   have hback:(t.set k a).set k (-1)=t:=by
    have hm1:t[k]= -1:=by have:=hge _ (cB hk);omega
    rw[List.set_set,<-hm1,List.set_getElem_self]
   unfold pt;by_cases h1:n<=1
   .have hn1:n=1:=by omega
    have hq:=hm (hl1 hn1);rw[zF (by omega)]at he;rw[zE h1];refine .cons (m':=⟨L,a,a,t.set k a⟩) ?_ ?_ (.one (m':=⟨L,a,a,t⟩) ?_ ?_)
    .unfold aD2;simp only[htop];rw[zF (show¬q<0 by omega),zF (by omega),zF (by omega),zF (by omega),zE (by omega),zE (by omega)]
    .unfold mac;simp only[aB,true_and,if_false,if_true];rw[zE (by omega)]
    .unfold aD2;simp only[htop,hslo];rw[zF (show¬a<0 by omega),zE (by omega)]
    .unfold mac;simp only[aB,true_and,if_false,if_true,aD,cB5 hk,hback];rw[zE (by rw[bB];omega)]
   .rw[zF h1];obtain⟨m1,m2,m3,m4⟩:=dv0 (n:=n) (c:=c) (by omega) (by omega) (by omega);generalize hm':spF n c=m at*;refine .cons (m':=⟨L,a+m,q,t.set k a⟩) ?_ ?_ (.append (m':=⟨L,a+m,a+m,t.set k a⟩) (ihp (n-m) (c-1) 0 (t.set k a) last L q (a+m) (by omega) ⟨by omega,by omega,by omega,hl,hm,by omega⟩ (λy hy=>(bt3 hy).elim (λh=>by have:=hlt y h;omega) λh=>by omega) (λy hy=>(bt3 hy).elim (λh=>hge y h) λh=>by omega) (by omega) (λh=> ?_)) (.cons (m':=⟨L,a,a+m,t.set k a⟩) ?_ ?_ (iht m c k t Zb L (a+m) a (by omega) ⟨ha,by omega,by rw[zF (by omega)],(λh=>by cases h),λ_=>by omega,by omega⟩ (λ_=>rfl) hlt hge hk htk hc)))
    .unfold aD2;simp only[htop];rw[he,zF (by omega),zF (by split at he<;>omega),zF (by split at he<;>omega),zF (by omega),zF (by omega),zF (by omega),zF (by omega),zF (by omega)];rw[show a+(n:Int)-a=(n:Int)by omega,aD,show((fre (t.set k a):Nat):Int)+1=(c:Int)by omega,show fre (t.set k a)+1=c by omega,m4]
    .unfold mac;simp only[aB,true_and,if_true];rw[zE (by omega)]
    .by_cases hcc:c=1
     .have:=m3 hcc;omega
     .omega
    .unfold aD2;simp only[htop,hslo];rw[zF (show¬a+(m:Int)<0 by omega),zF (by omega),zF (by omega),zF (by omega),zF (by omega),zF (by omega),zE (by omega)]
    .unfold mac;simp only[aB,true_and,if_false,if_true,aD,cB5 hk];rw[zE (by rw[bB];omega)]
end
section
open Int renaming toNat_natCast -> bD
open List renaming getElem?_eq_getElem -> aB, getElem?_eq_none -> cB, map_congr_left -> cD
open Nat renaming mul_div_cancel -> aD, pow_succ -> bB, mul_le_mul_left -> dB, one_lt_two_pow -> dD, pow_le_pow_right -> eD
structure IsStr (k s d:Nat):Prop where
 pw: ∃e,d=2 ^ e
 gt:k<s*d
 lo:d=1∨s*(d / 2)<=k
theorem IsStr.pos {k s d:Nat}(h:IsStr k s d):1<=d:=by
 obtain⟨e,rfl⟩:=h.pw;exact Nat.one_le_two_pow
theorem IsStr.eq {k s d d':Nat}(h:IsStr k s d)(h':IsStr k s d'):d=d':=by
 have key: ∀{d d':Nat},IsStr k s d->IsStr k s d'->¬d<d':=λ{d d'} h h' hlt=>by
  obtain⟨e,rfl⟩:=h.pw;obtain⟨e',rfl⟩:=h'.pw;have he:e<e':=(Nat.pow_lt_pow_iff_right (by omega)).1 hlt;have h1:2 ^ e<=2 ^ (e'-1):=eD (by omega) (by omega)
  have h2:2 ^ e' / 2=2 ^ (e'-1):=by
   conv=>lhs;rw[show e'=(e'-1)+1 by omega,bB]
   exact aD _ (by omega)
  have h3:=h.gt;have h4:s*2 ^ e<=s*2 ^ (e'-1):=dB _ h1;have h5:1<2 ^ e':=dD (by omega);rcases h'.lo with h6|h6
  .omega
  .rw[h2]at h6;omega
 have:=key h h';have:=key h' h;omega
def ad3 (k s:Nat):Nat:=2 ^ (((List.range 17).find? λe=>Zc (k<s*2 ^ e)).getD 0)
theorem zX {k s:Nat}(hk:k<65536)(hs:1<=s):IsStr k s (ad3 k s):=by
 unfold ad3;cases h:(List.range 17).find? λe=>Zc (k<s*2 ^ e)with
 |none=>
  have:=List.find?_eq_none.1 h 16 (List.mem_range.2 (by omega));simp only[decide_eq_true_eq]at this;omega
 |some e=>
  obtain⟨h1,h2⟩:=List.find?_range_eq_some.1 h;have h1:=of_decide_eq_true h1;refine⟨⟨e,rfl⟩,h1, ?_⟩;rcases Nat.eq_zero_or_pos e with he|he
  .left;subst he;rfl
  .right;have h3:=h2.2 (e-1) (by omega);simp only[Bool.not_eq_true',decide_eq_false_iff_not]at h3;show s*(2 ^ e / 2)<=k
   have h4:2 ^ e / 2=2 ^ (e-1):=by
    conv=>lhs;rw[show e=(e-1)+1 by omega,bB]
    exact aD _ (by omega)
   rw[h4];omega
theorem IsStr.next {k s d d':Nat}(h:IsStr k s d)(h':IsStr (k+1) s d'):d ∣ d':=by
 obtain⟨e,rfl⟩:=h.pw;obtain⟨e',rfl⟩:=h'.pw;refine Nat.pow_dvd_pow 2 ?_;rcases Nat.lt_or_ge e' e with hlt|hge
 .exfalso;have h1:2 ^ e'<=2 ^ (e-1):=eD (by omega) (by omega)
  have h2:2 ^ e / 2=2 ^ (e-1):=by
   conv=>lhs;rw[show e=(e-1)+1 by omega,bB]
   exact aD _ (by omega)
  have h5:1<2 ^ e:=dD (by omega);have h4:s*2 ^ e'<=s*2 ^ (e-1):=dB _ h1;have h6:=h'.gt;rcases h.lo with h7|h7
  .omega
  .rw[h2]at h7;omega
 .exact hge
def dE9 (d:Nat)(t:Zd):Zd:=t.filter λx=>Zc (0<=x/\x % (d:Int)≠0)
def cO5 (d:Nat)(t:Zd):Option Int:=(dE9 d t).min?
def vZ (ended:Bool)(m:Mc):Option (Int×Int):=
 let d:=ad3 m.L.toNat m.t.length
 if m.q<0 then
  (if m.p<m.L then Y (1,m.L-m.p)
  else match cO5 d m.t with
   |some x=>Y (4,slo m.t x)
   |none=>if m.L % (d:Int)=0/\m.L∉m.t/\(-1:Int)∈m.t then Y (2,slo m.t (-1))else if ended then Y (5,0)else Z)
 else if 0<=ta m.t/\m.q<=ta m.t then Y (4,slo m.t (ta m.t))
 else if m.q=0 then Z
 else if m.p=m.q-1 then Y (7,0)
 else if 0<=ta m.t/\(m.p<ta m.t∨m.q<=m.p)then Y (3,slo m.t (ta m.t))
 else if m.p<m.q then Y (1,m.q-1-m.p)
 else Z
structure Gd (k:Nat)(t:Zd)(d:Nat):Prop where
 ins: ∀x∈t,x= -1∨(0<=x/\x<k/\x % (d:Int)=0)
 all: ∀j:Nat,j<k->j % d=0->(j:Int)∈t
 one: ∀i j (hi:i<t.length) (hj:j<t.length),t[i]=t[j]->0<=t[i]->i=j
theorem bb3 {t:Zd}{x:Int}(h:x∈t): ∃hs:slo t x<t.length,t[slo t x]=x:=by
 have hs:slo t x<t.length:=List.findIdx_lt_length_of_exists ⟨x,h,zB rfl⟩;exact⟨hs,of_decide_eq_true (List.findIdx_getElem (w:=hs))⟩
def frd (d n:Nat)(t:Zd):Zd:=t.map λx=>if 0<=x/\x<(n:Int)/\x % (d:Int)≠0 then-1 else x
def frF (d:Nat):Nat->Zd->List (Int×Int)×Zd
 |0,t=>([],t)
 |n+1,t=>if n % d≠0/\(n:Int)∈(frF d n t).2 then((frF d n t).1++[(4,(slo (frF d n t).2 n:Int))],(frF d n t).2.set (slo (frF d n t).2 n) (-1))else frF d n t
theorem dY5 {d:Nat}(t:Zd):frd d 0 t=t:=by
 unfold frd
 conv=>rhs;rw[<-List.map_id t]
 refine cD λx hx=> ?_
 rw[zF (by omega)];rfl
theorem bs6 {d n:Nat}{t:Zd}{i:Nat}(hi:i<t.length):(frd d n t)[i]?=Y (if 0<=t[i]/\t[i]<(n:Int)/\t[i] % (d:Int)≠0 then-1 else t[i]):=by
 unfold frd;rw[List.getElem?_map,aB hi];rfl
theorem wM {d n:Nat}{t:Zd}:(frd d n t).length=t.length:=by unfold frd;rw[List.length_map]
theorem cU0 {d n:Nat}{t:Zd}{x:Int}(hx:0<=x):x∈frd d n t↔x∈t/\¬(x<(n:Int)/\x % (d:Int)≠0):=by
 unfold frd;rw[List.mem_map];constructor
 .rintro⟨y,hy,e⟩;by_cases h:0<=y/\y<(n:Int)/\y % (d:Int)≠0
  .rw[zE h]at e;omega
  .rw[zF h]at e;subst e;exact⟨hy,by omega⟩
 .rintro⟨hy,h⟩;exact⟨x,hy,zF (by omega)⟩
theorem cB2 {d n:Nat}{t:Zd}(h1: ∀i j (hi:i<t.length) (hj:j<t.length),t[i]=t[j]->0<=t[i]->i=j)(hn:n % d≠0)(hm:(n:Int)∈frd d n t):(frd d n t).set (slo (frd d n t) n) (-1)=frd d (n+1) t:=by
 obtain⟨hs,e⟩:=bb3 hm;generalize slo (frd d n t) n=k at*;have hk:k<t.length:=by rw[wM]at hs;exact hs
 have e1:=bs6 (d:=d) (n:=n) hk;rw[aB hs,e]at e1;injection e1 with e1
 have ek:t[k]=(n:Int):=by
  by_cases h:0<=t[k]/\t[k]<(n:Int)/\t[k] % (d:Int)≠0
  .rw[zE h]at e1;omega
  .rw[zF h]at e1;exact e1.symm
 apply List.ext_getElem?;intro i;by_cases hi:i<t.length
 .rw[bs6 hi,List.getElem?_set];by_cases hik:k=i
  .subst hik;rw[zE rfl,zE hs,ek,zE ⟨by omega,by omega,by omega⟩]
  .rw[zF hik,bs6 hi];have hne:t[i]≠(n:Int):=λh=>hik (h1 k i hk hi (by rw[ek,h]) (by omega))
   by_cases h:0<=t[i]/\t[i]<(n:Int)/\t[i] % (d:Int)≠0
   .rw[zE h,zE (by omega)]
   .rw[zF h,zF (by omega)]
 .rw[cB (by rw[List.length_set,wM];omega),cB (by rw[wM];omega)]
theorem dm5 {d n:Nat}{t:Zd}(h: ¬(n % d≠0/\(n:Int)∈frd d n t)):frd d n t=frd d (n+1) t:=by
 unfold frd at*;refine cD λx hx=> ?_
 by_cases h1:0<=x/\x<(n:Int)/\x % (d:Int)≠0
 .rw[zE h1,zE (by omega)]
 .rw[zF h1,zF];intro h2;have e:x=(n:Int):=by omega
  subst e;refine h ⟨by omega, ?_⟩;exact List.mem_map.2 ⟨_,hx,zF h1⟩
theorem cD2 {d:Nat}{t:Zd}{x:Int}:x∈dE9 d t↔x∈t/\0<=x/\x % (d:Int)≠0:=by
 unfold dE9;rw[List.mem_filter,decide_eq_true_eq]
theorem cD1 {d:Nat}{t:Zd}{x:Int}(h:x∈t)(h0:0<=x/\x % (d:Int)≠0)(hl: ∀y∈t,0<=y->y % (d:Int)≠0->x<=y):cO5 d t=Y x:=by
 unfold cO5;rw[List.min?_eq_some_iff];exact⟨cD2.2 ⟨h,h0⟩,λy hy=>by have:=cD2.1 hy;exact hl y this.1 this.2.1 this.2.2⟩
theorem bU1 {d:Nat}{t:Zd}(h: ∀y∈t,0<=y->y % (d:Int)=0):cO5 d t=Z:=by
 unfold cO5
 have:dE9 d t=[]:=List.filter_eq_nil_iff.2 λx hx=>by
  have:=h x hx;simp only[decide_eq_true_eq];omega
 rw[this];rfl
theorem du0 {k d s:Nat}{t:Zd}{en:Bool}(hd:d=ad3 k s)(hs:t.length=s)(h1: ∀i j (hi:i<t.length) (hj:j<t.length),t[i]=t[j]->0<=t[i]->i=j): ∀n,(frF d n t).2=frd d n t/\Run (vZ en) ⟨k,k,-1,t⟩ (frF d n t).1 ⟨k,k,-1,frd d n t⟩
 |0=>by rw[dY5];exact⟨rfl, .nil _⟩
 |n+1=>by
  obtain⟨ih1,ih2⟩:=du0 (en:=en) hd hs h1 n;unfold frF;rw[ih1];by_cases h:n % d≠0/\(n:Int)∈frd d n t
  .rw[zE h,cB2 h1 h.1 h.2];refine⟨rfl,ih2.append (.one ?_ ?_)⟩
   .unfold vZ;simp only;rw[zE (by omega),zF (by omega),wM,hs,bD,<-hd,cD1 h.2 (by omega) λy hy h3 h4=>by have:=(cU0 h3).1 hy;omega]
   .obtain⟨hs',e⟩:=bb3 h.2;unfold mac;simp only[Int.reduceEq,if_false,if_true,bD];rw[List.getD_eq_getElem?_getD,aB hs',e];simp only[Option.getD_some];rw[zE (by omega),cB2 h1 h.1 h.2]
  .rw[zF h,<-dm5 h];exact⟨ih1,ih2⟩
theorem bT9 : ∀(N:Nat) (l:List Nat),l.Nodup->(∀x∈l,x<N)->l.length<=N
 |0,l,_,h=>by
  cases l with
  |nil=>exact Nat.le_refl _
  |cons x r=>have:=h x (List.mem_cons_self ..);omega
 |N+1,l,hn,h=>by
  by_cases hN:N∈l
  .have:=bT9 N (l.erase N) (hn.erase N) λx hx=>by
    have h1:=h x (List.mem_of_mem_erase hx);have h2:x≠N:=λe=>by subst e;exact(List.Nodup.not_mem_erase hn) hx
    omega
   rw[List.length_erase_of_mem hN]at this;omega
  .have:=bT9 N l hn λx hx=>by
    have h1:=h x hx;have h2:x≠N:=λe=>hN (e▸hx)
    omega
   omega
end
section
open Go.IntKind renaming wrap -> zH, i64 -> zI, u64 -> zJ
open Int renaming natCast_add -> aB, eq_ofNat_of_zero_le -> cB
open IntKind renaming bits -> cD
open Nat renaming min_eq_left -> aD, mul_le_mul -> bB, min_eq_right -> bD, add_sub_cancel -> dB
theorem wUn {n:Nat}(h:n<18446744073709551616):zH zJ (n:Int)=(n:Int):=cc (by omega)
theorem eb9 {n:Nat}(h:n<=9223372036854775807):zH zI (n:Int)=(n:Int):=ad (by omega)
theorem by1 {a:Nat}(ha:a<18446744073709551616):ae8 .u64 (· &&& ·) (a:Int) 4294967295=((a % 4294967296:Nat):Int):=by
 have e:BitVec.ofInt 64 (a:Int)&&& BitVec.ofInt 64 4294967295=BitVec.ofNat 64 (a % 4294967296):=by
  apply BitVec.eq_of_toNat_eq;rw[BitVec.toNat_and,BitVec.toNat_ofInt,BitVec.toNat_ofInt,BitVec.toNat_ofNat];have h1:((a:Int) % ((2 ^ 64:Nat):Int)).toNat=a:=by omega
  have h2:((4294967295:Int) % ((2 ^ 64:Nat):Int)).toNat=2 ^ 32-1:=by decide
  rw[h1,h2,Nat.and_two_pow_sub_one_eq_mod];omega
 unfold ae8;show zH zJ ((BitVec.ofInt 64 (a:Int)&&& BitVec.ofInt 64 4294967295).toNat:Int)=_;rw[e,BitVec.toNat_ofNat,cc (by omega)];omega
theorem cA8 (a:Nat):Int.fdiv (a:Int) (2 ^ (min (Int.toNat 32) (cD .u64)))=((a / 4294967296:Nat):Int):=by
 rw[show(2:Int) ^ (min (Int.toNat 32) (cD .u64))=4294967296 from rfl,Int.fdiv_eq_ediv_of_nonneg _ (by omega)];rfl
theorem dZ7 {a b:Nat}(ha:a<=1099511627776)(hb:b<=4194304):uD (a:Int) (b:Int)=Y (0,((a*b:Nat):Int)):=by
 have h1:a / 4294967296*b<=256*4194304:=bB (by omega) hb;have h2:a % 4294967296*b<=4294967295*4194304:=bB (by omega) hb;have h3:a*b<=1099511627776*4194304:=bB ha hb;have wn: ∀{n:Nat},n<18446744073709551616->IntKind.u64.wrap (n:Int)=(n:Int):=λh=>cc (by omega)
 unfold uD;rw[cA8 a,cA8 b,by1 (a:=a) (by omega),by1 (a:=b) (by omega),show b / 4294967296=0 by omega,show b % 4294967296=b by omega];simp only[<-Int.natCast_mul];rw[wn (n:=a % 4294967296*b) (by omega),wn (n:=a / 4294967296*b) (by omega),wn (n:=a / 4294967296*0) (by omega),wn (n:=a % 4294967296*0) (by omega),wn (n:=a*b) (by omega),cA8];simp only[<-aB];generalize a / 4294967296*b=p at*;generalize a % 4294967296*b=q at*;rw[wn (n:=p+q / 4294967296) (by omega),cA8,by1 (by omega)];simp only[<-aB,Nat.mul_zero,Nat.add_zero,Nat.zero_add];rw[wn (n:=(p+q / 4294967296) % 4294967296) (by omega),cA8,wn (n:=(p+q / 4294967296) / 4294967296) (by omega)];simp only[<-aB];rw[wn (by omega),show(p+q / 4294967296) / 4294967296+(p+q / 4294967296) % 4294967296 / 4294967296=0 by omega];rfl
theorem dY0 {a b:Nat}(ha:a<18446744073709551616)(hb:1<=b):uC 0 (a:Int) (b:Int)=Y (((a / b:Nat):Int),((a % b:Nat):Int)):=by
 unfold uC;have:=Nat.div_le_self a b;rw[zA (by omega),zD,zA (by omega),zD,zB rfl,zC,zB (by omega),cm,cm,show Int.tdiv (a:Int) (b:Int)=((a / b:Nat):Int)from rfl,show Int.tmod (a:Int) (b:Int)=((a % b:Nat):Int)from rfl,wUn (Nat.lt_of_le_of_lt this ha)]
theorem di {a b i:Nat}(ha:a<=1099511627776)(hb:b<=4194304)(hi:1<=i/\i<=4194304):xG (a:Int) (b:Int) (i:Int)=Y ((min ai2 (a*b / i):Nat):Int):=by
 have h3:a*b<=1099511627776*4194304:=bB ha hb;have h4:a*b / i<=a*b:=Nat.div_le_self _ _;unfold xG ai2;rw[cc (n:=(a:Int)) (by omega),cc (n:=(b:Int)) (by omega),cc (n:=(i:Int)) (by omega),dZ7 ha hb];simp only[zG];rw[zA (by omega),zD,dY0 (by omega) hi.1];simp only[zG];generalize a*b / i=q at*;by_cases h:1099511627776<q
 .rw[zB (by omega),zC,aD (by omega)];rfl
 .rw[zA (by omega),zD,bD (by omega),ad (by omega)]
theorem dP3 {d i:Nat}(hi:1<=i)(hc:ch (d+(i-1)) (i-1)<ai2):min ai2 (min ai2 (ch (d+(i-1)) (i-1))*(d+i) / i)=min ai2 (ch (d+i) i):=by
 rw[bD (Nat.le_of_lt hc),dA2 hi]
theorem cL9 {n k:Nat}(hk:2*k<=n)(hn:n<=2097152): ∀f:Int×Int->Option ((Int×Int)⊕Int),(∀i c:Nat,1<=i->i<=k->c<ai2->c<=ai2->f ((i:Int),(c:Int))=Y (.inl (((i+1:Nat):Int),((min ai2 (c*(n-k+i) / i):Nat):Int))))->(∀i c:Nat,(k<i∨ai2<=c)->i<=k+1->c<=ai2->f ((i:Int),(c:Int))=Y (.inr (c:Int)))->ap f fy (1,1)=Y ((min ai2 (ch n k):Nat):Int):=by
 intro f h1 h2;refine cV4 (λs=> ∃i:Nat,s=((i:Int),((min ai2 (ch (n-k+(i-1)) (i-1)):Nat):Int))/\1<=i/\i<=k+1) (λs=>k+1-s.1.toNat) ⟨1, ?_,by omega,by omega⟩ (by simp;omega) ?_
 .rw[show 1-1=0 from rfl,cp8];rfl
 .rintro s ⟨i,rfl,hi1,hik⟩;by_cases hi:i<=k/\ch (n-k+(i-1)) (i-1)<ai2
  .left;refine⟨_,h1 i _ hi1 hi.1 (by omega) (Nat.min_le_left _ _),⟨i+1, ?_,by omega,by omega⟩,by simp only;omega⟩;rw[dP3 hi1 hi.2];rfl
  .right;rw[h2 i _ (by omega) hik (Nat.min_le_left _ _)]
   congr 2
   have e:n-k+k=n:=by omega
   by_cases hik2:i=k+1
   .subst hik2;rw[dB,e]
   .have hge:ai2<=ch (n-k+(i-1)) (i-1):=by omega
    have hup:=dk3 (n-k) (show i-1<=k by omega);rw[e]at hup;rw[aD hge,aD (by omega)]
theorem dA1 (n k:Nat)(hk:k<=n):ch n (min k (n-k))=ch n k:=by
 rcases Nat.le_total k (n-k)with h|h
 .rw[aD h]
 .rw[bD h];exact br7 n _ _ (by omega)
theorem az0 {n k:Int}(hn:n<=2097152):qv n k=Y (chI n k):=by
 unfold qv chI;by_cases h1:n<0
 .rw[zB h1,zE (.inl h1)];rfl
 by_cases h2:k<0
 .rw[zA h1,zB h2,zE (.inr (.inl h2))];rfl
 by_cases h3:n<k
 .rw[zA h1,zA h2,zB h3,zE (.inr (.inr h3))];rfl
 rw[zA h1,zA h2,zA h3,zF (by omega)];simp only[zD];obtain⟨n,rfl⟩:=cB (show 0<=n by omega);obtain⟨k,rfl⟩:=cB (show 0<=k by omega)
 have hm:min (k:Int) (zH zI ((n:Int)-(k:Int)))=((min k (n-k):Nat):Int):=by
  rw[ad (by omega)];omega
 have key:=cL9 (n:=n) (k:=min k (n-k)) (by omega) (by omega) (th (n:Int) (k:Int)) (λi c hi1 hi2 hc hc'=>by
  unfold th;unfold ai2 at hc hc';simp only[hm];rw[zB (by omega),zC,zB (show(c:Int)<1099511627776 by omega),zC,ad (n:=(n:Int)-((min k (n-k):Nat):Int)) (by omega),ad (n:=(n:Int)-((min k (n-k):Nat):Int)+(i:Int)) (by omega),show(n:Int)-((min k (n-k):Nat):Int)+(i:Int)=((n-min k (n-k)+i:Nat):Int)by omega,di hc' (by omega) (by omega)];simp only[zG];rw[ad (by omega)]
  rfl) (λi c h hi hc=>by
  unfold th;unfold ai2 at h;simp only[hm];rcases h with h|h
  .rw[zA (by omega),zD]
  .by_cases hi2:(i:Int)<=((min k (n-k):Nat):Int)
   .rw[zB hi2,zC,zA (by omega),zD]
   .rw[zA hi2,zD])
 rw[key,dA1 n k (by omega)];rfl
theorem dD6 {r s:Nat}(hs:1<=s/\s<=1048576)(hr:r<=65536):xU (r:Int) (s:Int)=Y ((min ai2 (ch (s+r) r):Nat):Int):=by
 unfold xU;rw[zA (by omega),zD,ad (by omega),az0 (by omega),show(s:Int)+(r:Int)=((s+r:Nat):Int)by omega,cp7 (by omega),br7 (s+r) s r rfl];rfl
theorem df0 {l s:Nat}(hl:l<65536)(hs:1<=s/\s<=1048576): ∃r:Nat,at4 (l:Int) (s:Int)=Y ((r:Int),0)/\IsRep l s r:=by
 unfold at4 aE3;rw[zA (by omega),zD,zA (by omega),zD,zB (by omega),zC,zB (by omega)];simp only[zG,Bool.not_true,zD];unfold aE2
 obtain⟨c,e,r,rfl,hr⟩:=ac8 (f:=ae0 (l:Int) (s:Int)) (a:=(0,(l:Int))) (λa=> ∃lo hi:Nat,a=((lo:Int),(hi:Int))/\lo<=hi/\hi<=l/\l<=ch (s+hi) hi/\(lo=0∨ch (s+(lo-1)) (lo-1)<l)) (λa=>(a.2-a.1).toNat) (λc=> ∃r:Nat,c=(r:Int)/\IsRep l s r) ⟨0,l,rfl,by omega,by omega,by have:=bJ3 hs.1 l;omega, .inl rfl⟩ (by simp;omega) (by
  rintro a ⟨lo,hi,rfl,h1,h2,h3,h4⟩;unfold ae0 aw0;simp only;by_cases h:lo<hi
  .have e1:zH zI (Int.tdiv (zH zI ((lo:Int)+(hi:Int))) 2)=(((lo+hi) / 2:Nat):Int):=by
    rw[ad (n:=(lo:Int)+(hi:Int)) (by omega),<-aB,show Int.tdiv ((lo+hi:Nat):Int) 2=(((lo+hi) / 2:Nat):Int)from rfl,eb9 (by omega)]
   rw[zB (by omega),zC,e1,dD6 hs (by omega)];simp only[zG];by_cases h5:l<=ch (s+(lo+hi) / 2) ((lo+hi) / 2)
   .rw[zB (by unfold ai2;omega),zC];exact .inl ⟨_,rfl,⟨lo,(lo+hi) / 2,rfl,by omega,by omega,h5,h4⟩,by simp only;omega⟩
   .rw[zA (by unfold ai2;omega),zD,ad (by omega)];exact .inl ⟨_,rfl,⟨(lo+hi) / 2+1,hi,rfl,by omega,by omega,h3, .inr (by rw[dB];omega)⟩,by simp only;omega⟩
  .rw[zA (by omega),zD];have:lo=hi:=by omega
   subst this
   exact .inr ⟨_,rfl,lo,rfl,dS6 h3 h4⟩)
 rw[e];exact⟨r,rfl,hr⟩
theorem dd0 (a b:Int):wE [1,a,b]=Y (max 1 (max a b)):=by
 have key:wE [1,a,b]=Y (max (max (max 1 1) a) b):=rfl;rw[key]
 congr 1
 omega
theorem dv1 {n c:Nat}(hn:2<=n/\n<65536)(hc:1<=c/\c<=1048576):ah9 (n:Int) (c:Int)=Y (spI n c (bu7 n c),0):=by
 obtain⟨r,e1,h1⟩:=df0 (l:=n) (s:=c) hn.2 hc;have h0:=cW8 n hc.1;have:r=bu7 n c:=h1.eq h0;subst this;have hr:=h0.le hc.1;have b1:=dP2 ((c:Int)+(bu7 n c:Int)-1) ((c:Int)-1);have w1:zH zI ((c:Int)+(bu7 n c:Int))=(c:Int)+(bu7 n c:Int):=ad (by omega);have w2:zH zI ((c:Int)+(bu7 n c:Int)-2)=(c:Int)+(bu7 n c:Int)-2:=ad (by omega);have w3:zH zI ((c:Int)+(bu7 n c:Int)-1)=(c:Int)+(bu7 n c:Int)-1:=ad (by omega);have w4:zH zI ((c:Int)-1)=(c:Int)-1:=ad (by omega);unfold ah9;rw[zA (by omega),zD,e1];simp only[zG];rw[zA (by simp),zD,w1,w2,w3,w4,az0 (by omega),az0 (by omega)];simp only[zG];rw[ad (by omega),dd0];rfl
end
section
open List renaming findIdx_append -> aB, findIdx_eq_length_of_false -> aD, findIdx_singleton -> bB
theorem dI4 (l:Zd)(x:Int):ta (l++[x])=max (ta l) x:=by
 unfold ta;rw[List.foldl_append];rfl
theorem dw4 (l:Zd): -1<=ta l:=(zt l (-1)).1
theorem dT8 (l:Zd){y:Int}(h:y∈l):y<=ta l:=(zt l (-1)).2.1 _ h
theorem cu6 {l:Zd}(h:0<=ta l):ta l∈l:=by
 rcases(zt l (-1)).2.2 with k|k
 .unfold ta at*;omega
 .exact k
theorem dH5 {l:Zd}{x:Int}(h:x∉l):slo (l++[x]) x=l.length:=by
 unfold slo;have h0:l.findIdx (λy=>Zc (y=x))=l.length:=aD λy hy=>zA λe=>h (e▸hy)
 rw[aB,zF (by omega),bB,zB rfl];simp
theorem dH6 {l:Zd}{x y:Int}(h:y∈l):slo (l++[x]) y=slo l y:=by
 unfold slo;have:=(bb3 h).1;unfold slo at this;rw[aB,zE this]
theorem dC2 (l:Zd)(x:Int):fre (l++[x])=fre l+(if x<0 then 1 else 0):=by
 unfold fre;rw[List.countP_append,List.countP_singleton];by_cases h:x<0
 .rw[zB h,zE rfl,zE h]
 .rw[zA h,zF (by simp),zF h]
theorem cU1 (l:Zd):fre l<=l.length:=List.countP_le_length
theorem dY6 {l:Zd}(h:fre l=0): ∀y∈l,0<=y:=λy hy=>by
 have:=List.countP_eq_zero.1 h y hy;simp only[decide_eq_true_eq]at this;omega
theorem dI8 {l:Zd}{x:Int}(h:fre l=0)(hx:x<0):vac (l++[x])=l.length:=by
 unfold vac;have h0:l.findIdx (λy=>Zc (y<0))=l.length:=aD λy hy=>zA (by have:=dY6 h y hy;omega)
 rw[aB,zF (by omega),bB,zB hx];simp
theorem cv1 {l:Zd}{x:Int}(h:0<fre l):vac (l++[x])=vac l:=by
 unfold vac;have:=(dx1 h).1;unfold vac at this;rw[aB,zE this]
def cH7 (t:Zd):Int:=ta t
def cH9 (t:Zd):Int:=if ta t<0 then 0 else(slo t (ta t):Int)
def cH8 (t:Zd):Int:=(fre t:Int)
def dx2 (t:Zd):Int:=if fre t=0 then-1 else(vac t:Int)
theorem dD7 {L p q:Int}{t:Zd}(hl:t.length<1000000000):xV L p q t=Y (p,q,t,(if q<0 then L else q),cH7 t,cH9 t,cH8 t,dx2 t):=by
 unfold xV
 have hs:((cond (Zc (q<0)) (Y ((p,q,t,p,q,t,L))) (Y ((p,q,t,p,q,t,q)))):Option (Int×Int×(Zd)×Int×Int×(Zd)×Int))=Y (p,q,t,p,q,t,(if q<0 then L else q)):=by
  rw[ak];split<;>rfl
 rw[hs];simp only[zG];generalize (if q<0 then L else q)=e
 have key:=pu (f:=rk (p,q,t,p,q,t,e)) (n:=t.length) (λi=>(p,q,t,p,q,t,e,cH7 (t.take i),cH9 (t.take i),cH8 (t.take i),dx2 (t.take i))) (c:=(p,q,t,p,q,t,e,cH7 t,cH9 t,cH8 t,dx2 t)) (by omega)
  (λi hi=>by
   have hlen:(t.take i).length=i:=by rw[List.length_take];omega
   have hf:=cU1 (t.take i);have hg:=dw4 (t.take i);simp only[rk];rw[zB (by omega),zC,dq hi,List.take_succ_eq_append_getElem hi];simp only[zG];generalize t[i]=x;generalize hu:t.take i=u at*;rw[ad (n:=(i:Int)+1) (by omega)];unfold cH7 cH9 cH8 dx2;rw[ad (n:=(fre u:Int)+1) (by omega),dI4,dC2];by_cases h1:ta u<x
   .rw[zB h1,zC,Int.max_eq_right (by omega),zF (show¬x<0 by omega),zF (show¬x<0 by omega),dH5 (λh=>by have:=dT8 u h;omega),hlen];simp only[Nat.add_zero]
    have:(if fre u=0 then(-1:Int)else(vac (u++[x]):Int))=if fre u=0 then(-1:Int)else(vac u:Int):=by
     split
     .rfl
     .rw[cv1 (by omega)]
    rw[this];rfl
   .rw[zA h1,zD,Int.max_eq_left (by omega)]
    have hso:(if ta u<0 then(0:Int)else(slo (u++[x]) (ta u):Int))=if ta u<0 then(0:Int)else(slo u (ta u):Int):=by
     split
     .rfl
     .rw[dH6 (cu6 (by omega))]
    rw[hso];by_cases h2:x<0
    .rw[zB h2,zC,zE h2,zF (show¬fre u+1=0 by omega)];by_cases h3:fre u=0
     .rw[zE h3,zB (by omega),zC,dI8 h3 h2,hlen];rfl
     .rw[zF h3,zA (by omega),zD,cv1 (by omega)];rfl
    .rw[zA h2,zD,zF h2];simp only[Nat.add_zero]
     have:(if fre u=0 then(-1:Int)else(vac (u++[x]):Int))=if fre u=0 then(-1:Int)else(vac u:Int):=by
      split
      .rfl
      .rw[cv1 (by omega)]
     rw[this]
     rfl)
  (by
   simp only[rk]
   rw[zA (by simp),zD,List.take_length])
 rw[List.take_zero]at key;have key':ap (rk (p,q,t,p,q,t,e)) fy (0,p,q,t,p,q,t,e,-1,0,0,-1)=_:=key;rw[key'];rfl
theorem cI0 {t:Zd}(h: ¬ta t<0):cH9 t=(slo t (ta t):Int):=zF h
theorem dI9 {t:Zd}(h: ¬fre t=0):dx2 t=(vac t:Int):=zF h
def dX4 :Option (Int×Int)->Int×Int×Bool
 |none=>(0,0,Zb)
 |some a=>(a.1,a.2,Za)
section
variable {c:Cx}
theorem dL8 (h:c.Ok)(hm:c.mode≠3){s:Dy}(hi:Inv c s):cv c.fixed c.tp c.sl c.ns c.mode c.R c.Q c.len c.words s.L s.p s.q s.c0 s.c1 s.c2 s.c3 s.z c.X c.T c.l c.k c.P c.tk (c.off 8:Int) c.ns (c.X.length:Int) s.lv s.pk c.words s.W=Y (s.p,s.q,sw c s.W):=by
 unfold cv;rw[bv6 h hm hi.w λk hk=>by have:=hi.tag k hk;have:=hi.L;omega];rfl
def vH (c:Cx)(s:Dy):Mc:=⟨s.L,s.p,s.q,sw c s.W⟩
theorem cO6 (h:c.Ok)(hm:c.mode≠3)(hn:1<=c.ns){s:Dy}(hi:Inv c s)(g:Int)(en fa:Bool):sD g en fa c.fixed c.tp c.sl c.ns c.mode c.R c.Q c.len c.words s.L s.p s.q s.c0 s.c1 s.c2 s.c3 s.z c.X c.T c.l c.k c.P c.tk (c.off 8:Int) c.ns (c.X.length:Int) s.lv s.pk c.words s.W=Y (dX4 (aD2 (vH c s))):=by
 have hns:=h.ns;have hL:=hi.L;have hp:=hi.p;have hq:=hi.q;have hlen:(sw c s.W).length=c.ns.toNat:=vm;have hmem:=bv7 (c:=c) (W:=s.W) hi.tag;have hns2:=(zf h hm (k:=0) (by omega)).2.2;unfold sD kt fd lz;simp only[zG];rw[dL8 h hm hi];simp only[zG];unfold aw1;rw[aL6 hL hp hq (by omega) hmem];simp only[zG,bg];rw[zB (by omega),Bool.not_true,zD,dD7 (by omega)];simp only[zG,sf,ng,mz,zi,tw,tx,tz,tA,tB,tC,tD,tE,kw,vW,uN,uO];unfold aD2 vH cH7 cH8;simp only;have hg:=dw4 (sw c s.W)
 have ht:ta (sw c s.W)<=s.L:=by
  rcases(zt (sw c s.W) (-1)).2.2 with k|k
  .unfold ta;omega
  .exact(hmem _ k).2
 have hf:=cU1 (sw c s.W);have he:0<=(if s.q<0 then s.L else s.q)/\(if s.q<0 then s.L else s.q)<=s.L:=by split<;>omega
 generalize (if s.q<0 then s.L else s.q)=e at*;have hq':=hq;have hsp: ∀x,¬ta (sw c s.W)<s.p->x=ta (sw c s.W)->True:=λ_ _ _=>trivial
 generalize htg:sw c s.W=t at*;rw[ad (n:=e-1) (by omega),ad (n:=e-1-s.p) (by omega),ad (n:=e-ta t) (by omega),ad (n:=(fre t:Int)+1) (by omega)];by_cases h1:0<=s.q/\e<=ta t
 .rw[zE h1,zB h1.1,zC,zB h1.2];simp only[zG,zC];rw[cI0 (by omega)];rfl
 rw[zF h1]
 have r1:(cond (Zc (0<=s.q)) (Y (Zc (e<=ta t))) (Y Zb):Option Bool)=Y Zb:=by
  by_cases k:0<=s.q
  .rw[zB k,zC,zA (λk2=>h1 ⟨k,k2⟩)]
  .rw[zA k,zD]
 rw[r1];simp only[zG,zD];by_cases h2:s.q=0
 .rw[zE h2,zB h2,zC];rfl
 rw[zF h2,zA h2,zD]
 have r3:(cond (!Zc (0<=s.q)) (Y (Zc (s.p=s.L))) (Y Zb):Option Bool)=Y (Zc (s.q<0/\s.p=s.L)):=by
  by_cases k:0<=s.q
  .rw[zB k,Bool.not_true,zD,zA (by omega)]
  .rw[zA k,Bool.not_false,zC]
   congr 1
   exact decide_eq_decide.2 (by omega)
 rw[r3];simp only[zG];by_cases h3:s.q<0/\s.p=s.L
 .rw[zE h3,zB h3,zC];rfl
 rw[zF h3,zA h3,zD];by_cases h4:s.p=e-1
 .rw[zE h4,zB h4,zC];by_cases h5:0<=s.q
  .rw[zE h5,zB h5];rfl
  .rw[zF h5,zA h5];rfl
 rw[zF h4,zA h4,zD];by_cases h5:ta t<0
 .rw[zE h5,zB h5,zC];by_cases h6:e<=s.p
  .rw[zE h6,zB h6];rfl
  .rw[zF h6,zA h6];rfl
 rw[zF h5,zA h5,zD]
 have r6:(cond (Zc (s.p<ta t)) (Y Za) (Y (Zc (e<=s.p))):Option Bool)=Y (Zc (s.p<ta t∨e<=s.p)):=by
  by_cases k:s.p<ta t
  .rw[zB k,zC,zB (.inl k)]
  .rw[zA k,zD]
   congr 1
   exact decide_eq_decide.2 (by omega)
 rw[r6];simp only[zG];by_cases h6:s.p<ta t∨e<=s.p
 .rw[zE h6,zB h6,zC,cI0 h5];rfl
 rw[zF h6,zA h6,zD]
 have r7:(cond (Zc (ta t<s.p)) (Y (Zc (0<(fre t:Int)))) (Y Zb):Option Bool)=Y (Zc (ta t<s.p/\0<fre t)):=by
  by_cases k:ta t<s.p
  .rw[zB k,zC]
   congr 1
   exact decide_eq_decide.2 (by omega)
  .rw[zA k,zD,zA (λk2=>k k2.1)]
 rw[r7];simp only[zG];by_cases h7:ta t<s.p/\0<fre t
 .rw[zE h7,zB h7,zC,dI9 (by omega)];rfl
 rw[zF h7,zA h7,zD];by_cases h8:ta t<s.p
 .rw[zE h8,zB h8,zC];rfl
 rw[zF h8,zA h8,zD];have hd:e-ta t=(((e-ta t).toNat:Nat):Int):=by omega
 have:=dv1 (n:=(e-ta t).toNat) (c:=fre t+1) (by omega) (by omega);rw[<-hd,show((fre t+1:Nat):Int)=(fre t:Int)+1 by omega]at this;rw[this];rfl
end
end
section
open Int renaming lt_irrefl -> bB, tmod_eq_emod_of_nonneg -> cB
open List renaming getElem_of_mem -> aB, getElem_mem -> aD
open Nat renaming pow_succ -> bD, eq_zero_or_pos -> cD
def Bst (P:Int->Prop)(R:Int->Int->Prop)(t:Zd)(i:Nat)(k:Int):Prop:=
 (k= -1/\∀j (h:j<t.length),j<i->¬P t[j])∨∃j,∃h:j<t.length,k=(j:Int)/\j<i/\P t[j]/\(∀j' (h':j'<t.length),j'<i->P t[j']->¬R t[j'] t[j])/\∀j' (h':j'<t.length),j'<j->P t[j']->R t[j] t[j']
theorem bd4 {P:Int->Prop}{R:Int->Int->Prop}[DecidablePred P][DecidableRel R]{t:Zd}{f:Int×Int->Option ((Int×Int)⊕Int)}{pb:Int->Option Bool}{lb:Int->Int->Option Bool}(hl:t.length<1000000000)
  (hf: ∀s,f s=cond (Zc (s.1<(((List.length t):Nat):Int))) ((rd t s.1).bind λx=>(pb x).bind λr=>cond r (cond (Zc (s.2<0)) (Y (.inl (IntKind.i64.wrap (s.1+1),s.1))) ((rd t s.2).bind λy=>(lb x y).bind λr'=>cond r' (Y (.inl (IntKind.i64.wrap (s.1+1),s.1))) (Y (.inl (IntKind.i64.wrap (s.1+1),s.2))))) (Y (.inl (IntKind.i64.wrap (s.1+1),s.2)))) (Y (.inr s.2)))
  (hp: ∀x,pb x=Y (Zc (P x))) (hr: ∀x y,lb x y=Y (Zc (R x y))) (ir: ∀a,¬R a a) (tr: ∀a b e,R a b->¬R e b->R a e) (as: ∀a b,R a b->¬R b a): ∃k,ap f fy (0,-1)=Y k/\Bst P R t t.length k:=by
 refine ac8 (λs=> ∃(i:Nat) (k:Int),s=((i:Int),k)/\i<=t.length/\Bst P R t i k) (λs=>t.length-s.1.toNat) _ ⟨0,-1,rfl,by omega, .inl ⟨rfl,λj h hj=>by omega⟩⟩ (by simp;omega) ?_;rintro s ⟨i,k,rfl,hi,hb⟩;rw[hf];simp only;by_cases h:i<t.length
 .left;rw[zB (by omega),zC,dq h];simp only[zG];rw[hp,ad (by omega),show(i:Int)+1=((i+1:Nat):Int)by omega];simp only[zG];by_cases hP:P t[i]
  .rw[zB hP,zC];rcases hb with⟨rfl,hn⟩|⟨j,hj,rfl,hji,hPj,hmin,hfst⟩
   .rw[zB (by omega),zC];refine⟨_,rfl,⟨i+1,i,rfl,by omega, .inr ⟨i,h,rfl,by omega,hP,λj' h' h1 h2=> ?_,λj' h' h1 h2=>absurd h2 (hn j' h' h1)⟩⟩,by simp only;omega⟩;by_cases he:j'=i
    .subst he;exact ir _
    .exact absurd h2 (hn j' h' (by omega))
   .rw[zA (by omega),zD,dq hj];simp only[zG];rw[hr];simp only[zG];by_cases hR:R t[i] t[j]
    .rw[zB hR,zC];refine⟨_,rfl,⟨i+1,i,rfl,by omega, .inr ⟨i,h,rfl,by omega,hP,λj' h' h1 h2=> ?_,λj' h' h1 h2=>tr _ _ _ hR (hmin j' h' h1 h2)⟩⟩,by simp only;omega⟩;by_cases he:j'=i
     .subst he;exact ir _
     .exact as _ _ (tr _ _ _ hR (hmin j' h' (by omega) h2))
    .rw[zA hR,zD];refine⟨_,rfl,⟨i+1,j,rfl,by omega, .inr ⟨j,hj,rfl,by omega,hPj,λj' h' h1 h2=> ?_,hfst⟩⟩,by simp only;omega⟩;by_cases he:j'=i
     .subst he;exact hR
     .exact hmin j' h' (by omega) h2
  .rw[zA hP,zD];refine⟨_,rfl,⟨i+1,k,rfl,by omega, ?_⟩,by simp only;omega⟩;rcases hb with⟨rfl,hn⟩|⟨j,hj,rfl,hji,hPj,hmin,hfst⟩
   .refine .inl ⟨rfl,λj h' h1=> ?_⟩;by_cases he:j=i
    .subst he;exact hP
    .exact hn j h' (by omega)
   .refine .inr ⟨j,hj,rfl,by omega,hPj,λj' h' h1 h2=> ?_,hfst⟩;by_cases he:j'=i
    .subst he;exact absurd h2 hP
    .exact hmin j' h' (by omega) h2
 .right;have:i=t.length:=by omega
  subst this;rw[zA (by omega),zD];exact⟨_,rfl,hb⟩
theorem bB1 {t:Zd}{j:Nat}(hj:j<t.length)(h: ∀j' (h':j'<t.length),j'<j->t[j']≠t[j]):slo t t[j]=j:=by
 unfold slo;rw[List.findIdx_eq hj];exact⟨zB rfl,λj' hj'=>zA (h j' (by omega) hj')⟩
theorem dj3 {t:Zd}{d:Nat}(hd:1<=d)(hl:t.length<1000000000):zT t (d:Int)=Y (match cO5 d t with|none=> -1|some x=>(slo t x:Int)):=by
 unfold zT
 obtain⟨k,e,h⟩:=bd4 (P:=λx=>0<=x/\x % (d:Int)≠0) (R:=λx y=>x<y) (t:=t) (f:=az9 t (d:Int)) (pb:=λx=>vA x (d:Int)) (lb:=sg) hl (λs=>rfl) (λx=>by
  unfold vA;by_cases h:0<=x
  .rw[zB h,zC,zB (show(d:Int)≠0 by omega),cm,cB h]
   congr 1
   exact decide_eq_decide.2 ⟨λk=>⟨h,k⟩,λk=>k.2⟩
  .rw[zA h,zD,zA (λk=>h k.1)]) (λx y=>rfl) (λa=>bB a) (λa b e h1 h2=>by omega) (λa b h=>by omega)
 rw[e];rcases h with⟨rfl,hn⟩|⟨j,hj,rfl,_,hP,hmin,hfst⟩
 .rw[bU1 λy hy h0=>by
   obtain⟨i,hi,rfl⟩:=aB hy;have:=hn i hi hi;by_cases k:t[i] % (d:Int)=0
   .exact k
   .exact absurd ⟨h0,k⟩ this]
  rfl
 .rw[cD1 (x:=t[j]) (aD hj) hP λy hy h0 h1=>by
   obtain⟨i,hi,rfl⟩:=aB hy;have:=hmin i hi hi ⟨h0,h1⟩
   omega]
  simp only[zG]
  rw[bB1 hj λj' h' h1 h2=>by
   have:=hfst j' h' h1 (by rw[h2];exact hP)
   omega]
theorem da9 {t:Zd}{x:Int}(hl:t.length<1000000000): ∃k,wG t x=Y k/\(k<0↔x∉t):=by
 unfold wG;obtain⟨k,e,h⟩:=bd4 (P:=λy=>y=x) (R:=λx y=>x<y) (t:=t) (f:=al8 t x) (pb:=λy=>zj y x) (lb:=sg) hl (λs=>rfl) (λy=>rfl) (λx y=>rfl) (λa=>bB a) (λa b e h1 h2=>by omega) (λa b h=>by omega);rw[e];refine⟨k,rfl, ?_⟩;rcases h with⟨rfl,hn⟩|⟨j,hj,rfl,_,hP,hmin,hfst⟩
 .refine⟨λ_ hx=> ?_,λ_=>by omega⟩;obtain⟨i,hi,e⟩:=aB hx;exact hn i hi hi e
 .exact⟨λh=>by omega,λh=>absurd (hP▸aD hj) h⟩
theorem dj5 {t:Zd}(hl:t.length<1000000000)(hge: ∀y∈t,-1<=y): ∃k,wH t=Y k/\((-1:Int)∈t->k=(slo t (-1):Int))/\((-1:Int)∉t->k= -1):=by
 unfold wH;obtain⟨k,e,h⟩:=bd4 (P:=λy=>y<0) (R:=λx y=>x<y) (t:=t) (f:=al9 t) (pb:=λy=>zk y) (lb:=sg) hl (λs=>rfl) (λy=>rfl) (λx y=>rfl) (λa=>bB a) (λa b e h1 h2=>by omega) (λa b h=>by omega);rw[e];refine⟨k,rfl, ?_⟩;rcases h with⟨rfl,hn⟩|⟨j,hj,rfl,_,hP,hmin,hfst⟩
 .refine⟨λhx=> ?_,λ_=>rfl⟩;obtain⟨i,hi,e⟩:=aB hx;exact absurd (show t[i]<0 by omega) (hn i hi hi)
 .have e1:t[j]= -1:=by have:=hge _ (aD hj);omega
  refine⟨λ_=> ?_,λh=>absurd (e1▸aD hj) h⟩
  rw[<-e1,bB1 hj λj' h' h1 h2=>by
   have:=hfst j' h' h1 (by omega)
   omega]
theorem dj4 {t:Zd}(hl:t.length<1000000000): ∃k,wI t=Y k/\(ta t<0->k= -1)/\(0<=ta t->k=(slo t (ta t):Int)):=by
 unfold wI;obtain⟨k,e,h⟩:=bd4 (P:=λy=>0<=y) (R:=λx y=>y<x) (t:=t) (f:=am0 t) (pb:=λy=>am1 y) (lb:=zl) hl (λs=>rfl) (λy=>rfl) (λx y=>rfl) (λa=>bB a) (λa b e h1 h2=>by omega) (λa b h=>by omega);rw[e];refine⟨k,rfl, ?_⟩;rcases h with⟨rfl,hn⟩|⟨j,hj,rfl,_,hP,hmin,hfst⟩
 .refine⟨λ_=>rfl,λh0=> ?_⟩;obtain⟨i,hi,e⟩:=aB (cu6 h0);exact absurd (show 0<=t[i]by omega) (hn i hi hi)
 .have e1:ta t=t[j]:=bB6 (by omega) (λy hy=>by
   obtain⟨i,hi,rfl⟩:=aB hy;by_cases h0:0<=t[i]
   .have:=hmin i hi hi h0;omega
   .omega) (.inr (aD hj))
  refine⟨λh=>by omega,λ_=> ?_⟩
  rw[e1,bB1 hj λj' h' h1 h2=>by
   have:=hfst j' h' h1 (by omega)
   omega]
theorem df7 {k s:Nat}(hk:k<65536)(hs:1<=s/\s<=1048576):ub (k:Int) (s:Int)=Y ((ad3 k s:Int),0):=by
 unfold ub;rw[zA (by omega),zD,zA (by omega),zD,zA (by omega),zD,zA (by omega),zD];have h0:=zX hk hs.1
 have key:ap (wP (k:Int) (s:Int)) fy 1=Y (ad3 k s:Int):=by
  refine cV4 (λa=> ∃e:Nat,a=((2 ^ e:Nat):Int)/\(e=0∨s*2 ^ (e-1)<=k)) (λa=>4294967296-a.toNat) ⟨0,rfl, .inl rfl⟩ (by simp) ?_;rintro a ⟨e,rfl,he⟩
  have hb:2 ^ e<=131072:=by
   rcases he with rfl|he
   .simp
   .have:1*2 ^ (e-1)<=s*2 ^ (e-1):=Nat.mul_le_mul_right _ hs.1;rcases cD e with rfl|h
    .simp
    .rw[show e=(e-1)+1 by omega,bD];omega
  have hp:1<=2 ^ e:=Nat.one_le_two_pow;have hsd:s*2 ^ e<=1048576*131072:=Nat.mul_le_mul hs.2 hb;unfold wP;rw[<-Int.natCast_mul,eb9 (by omega)];by_cases h:k<s*2 ^ e
  .right;rw[zB (by omega),zC]
   have:IsStr k s (2 ^ e):=⟨⟨e,rfl⟩,h,by
    rcases he with rfl|he
    .exact .inl rfl
    .rcases cD e with rfl|h
     .exact .inl rfl
     .right
      have h4:2 ^ e / 2=2 ^ (e-1):=by
       conv=>lhs;rw[show e=(e-1)+1 by omega,bD]
       exact Nat.mul_div_cancel _ (by omega)
      rw[h4]
      exact he⟩
   rw[this.eq h0]
  .left;rw[zA (by omega),zD,ad (by omega)];refine⟨_,rfl,⟨e+1, ?_, .inr (by rw[Nat.add_sub_cancel];omega)⟩,by omega⟩;rw[bD];omega
 rw[key];rfl
section
variable {c:Cx}
theorem dr2 (h:c.Ok)(hm:c.mode≠3)(hn:1<=c.ns){s:Dy}(hi:Inv c s)(g:Int)(en fa:Bool):tZ g en fa c.fixed c.tp c.sl c.ns c.mode c.R c.Q c.len c.words s.L s.p s.q s.c0 s.c1 s.c2 s.c3 s.z c.X c.T c.l c.k c.P c.tk (c.off 8:Int) c.ns (c.X.length:Int) s.lv s.pk c.words s.W=Y (dX4 (vZ en (vH c s))):=by
 have hns:=h.ns;have hL:=hi.L;have hp:=hi.p;have hq:=hi.q;have hlen:(sw c s.W).length=c.ns.toNat:=vm;have hmem:=bv7 (c:=c) (W:=s.W) hi.tag;have hns2:=(zf h hm (k:=0) (by omega)).2.2;unfold tZ ku ff lz;simp only[zG];rw[dL8 h hm hi];simp only[zG];unfold aw5;rw[aL6 hL hp hq (by omega) hmem];simp only[zG,bg];rw[zA (by omega),zD];unfold vZ vH;simp only;generalize htg:sw c s.W=t at*
 have hd:ub s.L ((t.length:Nat):Int)=Y ((ad3 s.L.toNat t.length:Int),0):=by
  have:=df7 (k:=s.L.toNat) (s:=t.length) (by omega) (by omega);rw[Int.toNat_of_nonneg hL.1]at this;exact this
 have hd1:1<=ad3 s.L.toNat t.length:=(zX (by omega) (by omega)).pos;generalize ad3 s.L.toNat t.length=d at*;by_cases h1:s.q<0
 .rw[zE h1,zB h1,zC];unfold al7;rw[hd];simp only[zG,kc,jk];by_cases h2:s.p<s.L
  .rw[zE h2,zB h2,zC,ad (by omega)];rfl
  rw[zF h2,zA h2,zD,dj3 hd1 (by omega)];cases ho:cO5 d t with
  |some x=>
   simp only[zG];rw[zB (by omega),zC];rfl
  |none=>
   simp only[zG];rw[zA (by omega),zD];obtain⟨k2,e2,h2'⟩:=da9 (t:=t) (x:=s.L) (by omega);obtain⟨k3,e3,h3,h3'⟩:=dj5 (t:=t) (by omega) λy hy=>(hmem y hy).1
   rw[e2,e3];simp only[zG]
   have r1:gd (Zc ((d:Int)≠0)) (cond (Zc ((Int.tmod s.L (d:Int))=0)) (cond (Zc (k2<0)) (Y (Zc (0<=k3))) (Y Zb)) (Y Zb))=Y (Zc (s.L % (d:Int)=0/\s.L∉t/\(-1:Int)∈t)):=by
    rw[zB (show(d:Int)≠0 by omega),cm,cB hL.1];by_cases a1:s.L % (d:Int)=0
    .rw[zB a1,zC];by_cases a2:s.L∉t
     .rw[zB (h2'.2 a2),zC]
      congr 1
      by_cases a3:(-1:Int)∈t
      .rw[zB (show 0<=k3 by rw[h3 a3];omega),zB ⟨a1,a2,a3⟩]
      .rw[zA (show¬0<=k3 by rw[h3' a3];omega),zA (λk=>a3 k.2.2)]
     .rw[zA (λk=>a2 (h2'.1 k)),zD,zA (λk=>a2 k.2.1)]
    .rw[zA a1,zD,zA (λk=>a1 k.1)]
   rw[r1];simp only[zG];by_cases a:s.L % (d:Int)=0/\s.L∉t/\(-1:Int)∈t
   .rw[zE a,zB a,zC,h3 a.2.2];rfl
   .rw[zF a,zA a,zD];cases en<;>rfl
 rw[zF h1,zA h1,zD];unfold aw6;obtain⟨k,e,hk0,hk1⟩:=dj4 (t:=t) (by omega);rw[e];simp only[zG,kc,jk]
 have hrd:0<=ta t->0<=k/\rd t k=Y (ta t):=λh0=>by
  obtain⟨hs,e⟩:=bb3 (cu6 h0);rw[hk1 h0,dq hs,e];exact⟨by omega,rfl⟩
 have r1:(cond (Zc (0<=k)) ((rd t k).bind λx4=>Y (Zc (s.q<=x4))) (Y Zb):Option Bool)=Y (Zc (0<=ta t/\s.q<=ta t)):=by
  by_cases h0:0<=ta t
  .rw[zB (hrd h0).1,zC,(hrd h0).2];simp only[zG]
   congr 1
   exact decide_eq_decide.2 (by omega)
  .rw[zA (by rw[hk0 (by omega)];omega),zD,zA (λk=>h0 k.1)]
 rw[r1];simp only[zG];by_cases h2:0<=ta t/\s.q<=ta t
 .rw[zE h2,zB h2,zC,hk1 h2.1];rfl
 rw[zF h2,zA h2,zD];by_cases h3:s.q=0
 .rw[zE h3,zB h3];rfl
 rw[zF h3,zA h3,zD,ad (n:=s.q-1) (by omega)];by_cases h4:s.p=s.q-1
 .rw[zE h4,zB h4];rfl
 rw[zF h4,zA h4,zD]
 have r2:(cond (Zc (0<=k)) ((rd t k).bind λx9=>cond (Zc (s.p<x9)) (Y Za) (Y (Zc (s.q<=s.p)))) (Y Zb):Option Bool)=Y (Zc (0<=ta t/\(s.p<ta t∨s.q<=s.p))):=by
  by_cases h0:0<=ta t
  .rw[zB (hrd h0).1,zC,(hrd h0).2];simp only[zG];by_cases h5:s.p<ta t
   .rw[zB h5,zC,zB ⟨h0, .inl h5⟩]
   .rw[zA h5,zD]
    congr 1
    exact decide_eq_decide.2 (by omega)
  .rw[zA (by rw[hk0 (by omega)];omega),zD,zA (λk=>h0 k.1)]
 rw[r2];simp only[zG];by_cases h5:0<=ta t/\(s.p<ta t∨s.q<=s.p)
 .rw[zE h5,zB h5,zC,hk1 h5.1];rfl
 rw[zF h5,zA h5,zD];by_cases h6:s.p<s.q
 .rw[zE h6,zB h6,zC,ad (by omega)];rfl
 .rw[zF h6,zA h6];rfl
end
end
section
open Int renaming reduceEq -> aB, toNat_natCast -> aD
open List renaming getElem?_eq_getElem -> bB, getElem_mem -> bD, length_set -> cD, getD_eq_getElem?_getD -> dB, getElem_set -> dD, length_map -> eD, length_replicate -> fB, replicate -> fD, getElem?_eq_none -> iA, getElem_map -> iB, getElem_of_mem -> iC, map_congr_left -> iD
open Nat renaming div_add_mod -> cB, one_dvd -> gB, div_lt_iff_lt_mul -> iE, dvd_of_mod_eq_zero -> iF
open Option renaming getD_some -> gD
theorem cX5 {t:Zd}{x:Int}(h:x∈t):slo t x<t.length/\t[slo t x]?=Y x:=by
 obtain⟨hs,e⟩:=bb3 h;exact⟨hs,by rw[bB hs,e]⟩
def ze (k:Nat)(t:Zd):List (Int×Int)×Zd:=
 if k % ad3 k t.length=0 then((frF (ad3 k t.length) k t).1++[(2,(slo (frF (ad3 k t.length) k t).2 (-1):Int))],(frF (ad3 k t.length) k t).2.set (slo (frF (ad3 k t.length) k t).2 (-1)) k)
 else frF (ad3 k t.length) k t
theorem dB4 {d' d j:Nat}(h:d' ∣ d)(hj:j % d=0):j % d'=0:=
 Nat.mod_eq_zero_of_dvd (Nat.dvd_trans h (iF hj))
theorem Gd.frd {k d' d:Nat}{t:Zd}(G:Gd k t d')(hd:d' ∣ d):Gd k (frd d k t) d:=by
 refine⟨λx hx=> ?_,λj hj hjd=> ?_,λi j hi hj e h0=> ?_⟩
 .unfold Go.V.frd at hx;obtain⟨y,hy,rfl⟩:=List.mem_map.1 hx;have:=G.ins y hy;by_cases h:0<=y/\y<(k:Int)/\y % (d:Int)≠0
  .rw[zE h];exact .inl rfl
  .rw[zF h];rcases this with h1|h1
   .exact .inl h1
   .exact .inr ⟨h1.1,h1.2.1,by
     by_cases h2:y % (d:Int)=0
     .exact h2
     .exact absurd ⟨h1.1,h1.2.1,h2⟩ h⟩
 .exact(cU0 (by omega)).2 ⟨G.all j hj (dB4 hd hjd),by omega⟩
 .have hi':i<t.length:=by rw[wM]at hi;exact hi
  have hj':j<t.length:=by rw[wM]at hj;exact hj
  have e1:=bs6 (d:=d) (n:=k) hi';have e2:=bs6 (d:=d) (n:=k) hj';rw[bB hi]at e1;rw[bB hj]at e2;injection e1 with e1
  injection e2 with e2
  have f1:(Go.V.frd d k t)[i]=t[i]:=by
   by_cases h:0<=t[i]/\t[i]<(k:Int)/\t[i] % (d:Int)≠0
   .rw[zE h]at e1;omega
   .rw[zF h]at e1;exact e1
  have f2:(Go.V.frd d k t)[j]=t[j]:=by
   by_cases h:0<=t[j]/\t[j]<(k:Int)/\t[j] % (d:Int)≠0
   .rw[zE h]at e2;omega
   .rw[zF h]at e2;exact e2
  exact G.one i j hi' hj' (by rw[<-f1,<-f2,e]) (by rw[<-f1];exact h0)
theorem Gd.free {k d:Nat}{t:Zd}(G:Gd k t d)(hd:1<=d)(hk:k % d=0)(hs:k<t.length*d):(-1:Int)∈t:=by
 by_cases h:(-1:Int)∈t
 .exact h
 exfalso
 have hin: ∀i (hi:i<t.length),0<=t[i]/\t[i]<k/\t[i] % (d:Int)=0:=λi hi=>by
  rcases G.ins _ (bD hi)with h1|h1
  .exact absurd (h1▸bD hi) h
  .exact h1
 have key:=bT9 (k / d) (t.map λx=>x.toNat / d) (by
  refine List.pairwise_iff_getElem.2 λi j hi hj hij e=> ?_
  rw[eD]at hi hj;rw[iB,iB]at e;have a:=hin i hi;have b:=hin j hj
  have ha:t[i].toNat % d=0:=by
   have:=a.2.2;have e2:t[i]=((t[i].toNat:Nat):Int):=by omega
   rw[e2]at this;omega
  have hb:t[j].toNat % d=0:=by
   have:=b.2.2;have e2:t[j]=((t[j].toNat:Nat):Int):=by omega
   rw[e2]at this;omega
  have h1:=cB t[i].toNat d;have h2:=cB t[j].toNat d;rw[ha]at h1;rw[hb,<-e]at h2;have:=G.one i j hi hj (by omega) a.1
  omega) (λy hy=>by
  obtain⟨x,hx,rfl⟩:=List.mem_map.1 hy;obtain⟨i,hi,rfl⟩:=iC hx;have a:=hin i hi;obtain⟨u,hu⟩:=iF hk;rw[iE (by omega),hu,Nat.mul_div_cancel_left _ (by omega),Nat.mul_comm,<-hu]
  omega)
 rw[eD]at key;have:=(iE (x:=k) (y:=t.length) (k:=d) (by omega)).2 hs;omega
theorem Gd.store {k d:Nat}{t:Zd}(G:Gd k t d)(hk:k % d=0)(hf:(-1:Int)∈t):Gd (k+1) (t.set (slo t (-1)) k) d:=by
 obtain⟨hs,es⟩:=bb3 hf;generalize slo t (-1)=u at*;refine⟨λx hx=> ?_,λj hj hjd=> ?_,λi j hi hj e h0=> ?_⟩
 .rcases bt3 hx with h|h
  .rcases G.ins x h with h1|h1
   .exact .inl h1
   .exact .inr ⟨h1.1,by omega,h1.2.2⟩
  .exact .inr ⟨by omega,by omega,by rw[h];omega⟩
 .by_cases hjk:j=k
  .subst hjk;exact List.mem_set hs _
  .obtain⟨i,hi,e⟩:=iC (G.all j (by omega) hjd);have hne:u≠i:=λh=>by subst h;omega
   have hi2:i<(t.set u (k:Int)).length:=by rw[cD];exact hi
   have:=bD hi2;rw[List.getElem_set_ne hne,e]at this;exact this
 .rw[cD]at hi hj;rw[dD,dD]at e;rw[dD]at h0;by_cases hui:u=i
  .by_cases huj:u=j
   .omega
   .rw[zE hui,zF huj]at e;rcases G.ins _ (bD hj)with h1|h1<;>omega
  .rw[zF hui]at e h0;by_cases huj:u=j
   .rw[zE huj]at e;rcases G.ins _ (bD hi)with h1|h1<;>omega
   .rw[zF huj]at e;exact G.one i j hi hj e h0
theorem aC9 {k s d':Nat}{t:Zd}{en:Bool}(hk:k<65536)(hs:t.length=s)(h1:1<=s)(G:Gd k t d')(hd:d' ∣ ad3 k s):
  Run (vZ en) ⟨k,k,-1,t⟩ (ze k t).1 ⟨k,k,-1,(ze k t).2⟩/\Gd (k+1) (ze k t).2 (ad3 k s)/\(ze k t).2.length=s/\vZ en ⟨k,k,-1,(ze k t).2⟩=(if en then Y (5,0)else Z)/\(k % ad3 k s=0->(-1:Int)∈frd (ad3 k s) k t):=by
 have hS:=zX hk h1;have hpos:=hS.pos;obtain⟨f1,f2⟩:=du0 (k:=k) (d:=ad3 k s) (s:=s) (t:=t) (en:=en) rfl hs G.one k;have G1:=G.frd hd;unfold ze;rw[hs,f1];generalize hdd:ad3 k s=d at*
 have fin: ∀t2:Zd,t2.length=s->Gd (k+1) t2 d->vZ en ⟨k,k,-1,t2⟩=(if en then Y (5,0)else Z):=λt2 hl G2=>by
  unfold vZ;simp only;rw[zE (by omega),zF (by omega),hl,aD,hdd,bU1 λy hy h0=>by rcases G2.ins y hy with h|h;omega;exact h.2.2];simp only;rw[zF];rintro⟨a,b,_⟩;exact b (G2.all k (by omega) (by omega))
 by_cases h:k % d=0
 .have hf:=G1.free hpos h (by rw[wM,hs];exact hS.gt);have G2:=G1.store h hf;obtain⟨hs',es⟩:=bb3 hf;rw[zE h];have hl2:((frd d k t).set (slo (frd d k t) (-1)) (k:Int)).length=s:=by rw[cD,wM,hs]
  refine⟨f2.append (.one ?_ ?_),G2,hl2,fin _ hl2 G2,λ_=>hf⟩
  .unfold vZ;simp only;rw[zE (by omega),zF (by omega),wM,hs,aD,hdd,bU1 λy hy h0=>by rcases G1.ins y hy with h|h;omega;exact h.2.2];simp only;rw[zE ⟨by omega,λhm=>by rcases G1.ins _ hm with h|h<;>omega,hf⟩]
  .unfold mac;simp only[aB,if_false,if_true,aD];rw[dB,bB hs',es];simp only[gD];rw[zE (by omega)]
 .rw[zF h]
  have G2:Gd (k+1) (frd d k t) d:=⟨λx hx=>by
   rcases G1.ins x hx with h1|h1
   .exact .inl h1
   .exact .inr ⟨h1.1,by omega,h1.2.2⟩,λj hj hjd=>by
   by_cases hjk:j=k
   .subst hjk;exact absurd hjd h
   .exact G1.all j (by omega) hjd,G1.one⟩
  have hl2:(frF d k t).2.length=s:=by rw[f1,wM,hs]
  rw[f1];refine⟨f2,G2,by rw[wM,hs],fin _ (by rw[wM,hs]) G2,λh'=>absurd h' h⟩
def dw (s:Nat):Nat->List (Int×Int)×Zd
 |0=>ze 0 (fD s (-1))
 |k+1=>((dw s k).1++[(1,1)]++(ze (k+1) (dw s k).2).1,(ze (k+1) (dw s k).2).2)
theorem Gd.none (s d:Nat):Gd 0 (fD s (-1)) d:=
 ⟨λx hx=> .inl (List.eq_of_mem_replicate hx),λj hj=>by omega,λi j hi hj e h0=>by rw[List.getElem_replicate]at h0;omega⟩
theorem br2 {s:Nat}(hs:1<=s): ∀k,k<65536->Gd (k+1) (dw s k).2 (ad3 k s)/\(dw s k).2.length=s
 |0,h=>by
  obtain⟨_,b,c,_⟩:=aC9 (en:=Zb) h (fB) hs (Gd.none s 1) (gB _);exact⟨b,c⟩
 |k+1,h=>by
  obtain⟨a1,a2⟩:=br2 hs k (by omega);obtain⟨_,b,c,_⟩:=aC9 (en:=Zb) h a2 hs a1 ((zX (by omega) hs).next (zX h hs));exact⟨b,c⟩
theorem cS2 {s:Nat}(hs:1<=s):Run (vZ Zb) ⟨0,0,-1,fD s (-1)⟩ (dw s 0).1 ⟨0,0,-1,(dw s 0).2⟩/\vZ Zb ⟨0,0,-1,(dw s 0).2⟩=Z:=by
 obtain⟨a,b,c,d,_⟩:=aC9 (en:=Zb) (k:=0) (by omega) (fB) hs (Gd.none s 1) (gB _);exact⟨a,d⟩
theorem cS3 {s k:Nat}(hs:1<=s)(hk:k+1<65536):Run (vZ Zb) ⟨(k:Int)+1,k,-1,(dw s k).2⟩ ([(1,1)]++(ze (k+1) (dw s k).2).1) ⟨(k:Int)+1,(k:Int)+1,-1,(dw s (k+1)).2⟩/\vZ Zb ⟨(k:Int)+1,(k:Int)+1,-1,(dw s (k+1)).2⟩=Z:=by
 obtain⟨a1,a2⟩:=br2 hs k (by omega);obtain⟨a,b,c,d,_⟩:=aC9 (en:=Zb) hk a2 hs a1 ((zX (by omega) hs).next (zX hk hs));refine⟨Run.cons (m':=⟨((k+1:Nat):Int),((k+1:Nat):Int),-1,(dw s k).2⟩) ?_ ?_ a,d⟩
 .unfold vZ;simp only;rw[zE (by omega),zE (by omega)]
  congr 2
  omega
 .unfold mac;simp only[if_true];rw[zE (by omega)];rfl
theorem di2 {s k:Nat}(hs:1<=s)(hk:k<65536):vZ Za ⟨k,k,-1,(dw s k).2⟩=Y (5,0):=by
 cases k with
 |zero=>
  obtain⟨a,b,c,d,_⟩:=aC9 (en:=Za) (k:=0) (by omega) (fB) hs (Gd.none s 1) (gB _);exact d
 |succ k=>
  obtain⟨a1,a2⟩:=br2 hs k (by omega);obtain⟨a,b,c,d,_⟩:=aC9 (en:=Za) hk a2 hs a1 ((zX (by omega) hs).next (zX hk hs));exact d
def cut (n:Nat)(t:Zd):Zd:=t.map λx=>if x<(n:Int)then x else-1
def frB (d:Nat)(t:Zd)(i:Nat):List (Int×Int):=if i % d=0 then [(4,(slo t i:Int))]else []
def bkF (d:Nat)(t:Zd):Nat->List (Int×Int)
 |0=>[]
 |i+1=>(3,(slo t ((i-i % d:Nat):Int):Int))::((if i % d≠0 then [(1,((i % d:Nat):Int))]else [])++(7,0)::(frB d t i++bkF d t i))
theorem cq4 {n:Nat}{t:Zd}:(cut n t).length=t.length:=by unfold cut;rw[eD]
theorem cT4 {n:Nat}{t:Zd}{i:Nat}(hi:i<t.length):(cut n t)[i]?=Y (if t[i]<(n:Int)then t[i]else-1):=by
 unfold cut;rw[List.getElem?_map,bB hi];rfl
theorem br8 {n:Nat}{t:Zd}{x:Int}(hx:0<=x):x∈cut n t↔x∈t/\x<(n:Int):=by
 unfold cut;rw[List.mem_map];constructor
 .rintro⟨y,hy,e⟩;by_cases h:y<(n:Int)
  .rw[zE h]at e;subst e;exact⟨hy,h⟩
  .rw[zF h]at e;omega
 .rintro⟨hy,h⟩;exact⟨x,hy,zE h⟩
theorem cT5 {n:Nat}{t:Zd}{x:Int}(hx:0<=x/\x<(n:Int)):slo (cut n t) x=slo t x:=by
 unfold slo cut;rw[List.findIdx_map]
 congr 1
 funext y
 show Zc ((if y<(n:Int)then y else-1)=x)=Zc (y=x);by_cases h:y<(n:Int)
 .rw[zE h]
 .rw[zF h,zA (by omega),zA (by omega)]
theorem dl6 {i:Nat}{t:Zd}(one: ∀i j (hi:i<t.length) (hj:j<t.length),t[i]=t[j]->0<=t[i]->i=j)(hm:(i:Int)∈t):(cut (i+1) t).set (slo t i) (-1)=cut i t:=by
 obtain⟨hs,e⟩:=bb3 hm;generalize slo t i=u at*;apply List.ext_getElem?;intro j;by_cases hj:j<t.length
 .rw[cT4 hj,List.getElem?_set];by_cases huj:u=j
  .subst huj;rw[zE rfl,zE (by rw[cq4];exact hs),zF (by omega)]
  .rw[zF huj,cT4 hj];have hne:t[j]≠(i:Int):=λh=>huj (one u j hs hj (by rw[e,h]) (by omega))
   by_cases h:t[j]<(i:Int)
   .rw[zE h,zE (by omega)]
   .rw[zF h,zF (by omega)]
 .rw[iA (by rw[cD,cq4];omega),iA (by rw[cq4];omega)]
theorem dl5 {i:Nat}{t:Zd}(hm:(i:Int)∉t):cut (i+1) t=cut i t:=by
 unfold cut;refine iD λx hx=> ?_
 have:x≠(i:Int):=λh=>hm (h▸hx)
 by_cases h:x<(i:Int)
 .rw[zE h,zE (by omega)]
 .rw[zF h,zF (by omega)]
theorem cT8 {l d i:Nat}{t:Zd}{en:Bool}(G:Gd (l+1) t d)(hi:i<=l)(hd:1<=d):Run (vZ en) ⟨l,i,i,cut (i+1) t⟩ (frB d t i) ⟨l,i,i,cut i t⟩:=by
 unfold frB;by_cases h:i % d=0
 .have hm:=G.all i (by omega) h;have hm':(i:Int)∈cut (i+1) t:=(br8 (by omega)).2 ⟨hm,by omega⟩
  have ht:ta (cut (i+1) t)=(i:Int):=bB6 (by omega) (λy hy=>by
   by_cases h0:0<=y
   .have:=((br8 h0).1 hy).2;omega
   .omega) (.inr hm')
  have hsl:=cT5 (n:=i+1) (t:=t) (x:=i) (by omega);obtain⟨hs,es⟩:=cX5 hm';rw[hsl]at hs es;rw[zE h];refine .one ?_ ?_
  .unfold vZ;simp only[ht,hsl];rw[zF (by omega),zE (by omega)]
  .unfold mac;simp only[aB,if_false,if_true,aD];rw[dB,es];simp only[gD];rw[zE (by omega),dl6 G.one hm]
 .rw[zF h,dl5 λhm=>by rcases G.ins _ hm with h1|h1<;>omega];exact .nil _
theorem dj6 {l d:Nat}{t:Zd}{en:Bool}(hl:l<65536)(G:Gd (l+1) t d)(hd:1<=d): ∀i,i<=l->Run (vZ en) ⟨l,i,i,cut i t⟩ (bkF d t i) ⟨l,0,0,cut 0 t⟩
 |0,_=> .nil _
 |i+1,hi=>by
  have hmod:=Nat.mod_lt i (show d > 0 by omega);have hle:=Nat.mod_le i d
  have hdm:(i-i % d) % d=0:=by
   have:=cB i d;rw[show i-i % d=d*(i / d)by omega];exact Nat.mul_mod_right _ _
  generalize hr:i % d=r at*;have hm:=G.all (i-r) (by omega) hdm;have hm':((i-r:Nat):Int)∈cut (i+1) t:=(br8 (by omega)).2 ⟨hm,by omega⟩
  have ht:ta (cut (i+1) t)=((i-r:Nat):Int):=bB6 (by omega) (λy hy=>by
   by_cases h0:0<=y
   .obtain⟨h1,h2⟩:=(br8 h0).1 hy;rcases G.ins y h1 with h3|h3
    .omega
    .obtain⟨y,rfl⟩:=Int.eq_ofNat_of_zero_le h0;have h4:y % d=0:=by have:=h3.2.2;omega
     have h5:=cB i d;have h6:=cB y d;rw[h4]at h6;rw[hr]at h5;have h7:y / d<=i / d:=Nat.div_le_div_right (by omega);have h8:d*(y / d)<=d*(i / d):=Nat.mul_le_mul_left _ h7;omega
   .omega) (.inr hm')
  have hsl:=cT5 (n:=i+1) (t:=t) (x:=((i-r:Nat):Int)) (by omega);obtain⟨hs,es⟩:=cX5 hm';rw[hsl]at hs es;unfold bkF;rw[hr]
  have rest:Run (vZ en) ⟨l,i,((i+1:Nat):Int),cut (i+1) t⟩ ((7,0)::(frB d t i++bkF d t i)) ⟨l,0,0,cut 0 t⟩:=by
   refine .cons (m':=⟨l,i,i,cut (i+1) t⟩) ?_ ?_ ((cT8 G (by omega) hd).append (dj6 hl G hd i (by omega)))
   .unfold vZ;simp only[ht];rw[zF (by omega),zF (by omega),zF (by omega),zE (by omega)]
   .unfold mac;simp only[aB,if_false,if_true,true_and];rw[zE (by omega)]
  refine .cons (m':=⟨l,((i-r:Nat):Int),((i+1:Nat):Int),cut (i+1) t⟩) ?_ ?_ ?_
  .unfold vZ;simp only[ht,hsl];rw[zF (by omega),zF (by omega),zF (by omega),zF (by omega),zE (by omega)]
  .unfold mac;simp only[aB,if_false,if_true,aD];rw[dB,es];simp only[gD];rw[zE (by omega)]
  .by_cases h0:r≠0
   .rw[zE h0];refine .cons (m':=⟨l,i,((i+1:Nat):Int),cut (i+1) t⟩) ?_ ?_ rest
    .unfold vZ;simp only[ht];rw[zF (by omega),zF (by omega),zF (by omega),zF (by omega),zF (by omega),zE (by omega)]
     congr 2
     omega
    .unfold mac;simp only[if_true];rw[zE (by omega)]
     congr 2
     omega
   .rw[zF h0,List.nil_append];have e:((i-r:Nat):Int)=(i:Int):=by omega
    rw[e];exact rest
def ce4 (l:Nat)(t:Zd):List (Int×Int):=(5,0)::(frB (ad3 l t.length) t l++bkF (ad3 l t.length) t l)
theorem dj0 {l s:Nat}(hl:l<65536)(hs:1<=s):Run (vZ Za) ⟨l,l,-1,(dw s l).2⟩ (ce4 l (dw s l).2) ⟨l,0,0,cut 0 (dw s l).2⟩/\vZ Za ⟨l,0,0,cut 0 (dw s l).2⟩=Z:=by
 obtain⟨G,e⟩:=br2 hs l hl;have hd:=(zX hl hs).pos;unfold ce4;rw[e];have hn:=di2 (s:=s) (k:=l) hs hl;generalize (dw s l).2=t at*
 have hc:cut (l+1) t=t:=by
  unfold cut
  conv=>rhs;rw[<-List.map_id t]
  refine iD λx hx=> ?_
  rcases G.ins x hx with h|h
  .rw[zE (by omega)];rfl
  .rw[zE (by omega)];rfl
 refine⟨.cons (m':=⟨l,l,l,t⟩) hn ?_ (Run.append (m':=⟨l,l,l,cut l t⟩) ?_ (dj6 hl G hd l (Nat.le_refl _))), ?_⟩
 .unfold mac;simp only[aB,if_false,if_true,true_and]
 .have:=cT8 (en:=Za) (i:=l) G (Nat.le_refl _) hd;rw[hc]at this;exact this
 .have ht:ta (cut 0 t)= -1:=bB6 (by omega) (λy hy=>by
   by_cases h0:0<=y
   .have:=((br8 h0).1 hy).2;omega
   .omega) (.inl rfl)
  unfold vZ;simp only[ht];rw[zF (by omega),zF (by omega),zE trivial]
end
section
open List renaming length_append -> aB, length_cons -> aD, length_singleton -> bB
theorem ds3 : ∀f,(∀n c k (h:List Bool) last,1<=n->n<=65536->(2<=n->1<=c)->(pt f Zb n c k h last).length+2<=5*n)/\∀n c k (h:List Bool) last,1<=n->n<=65536->1<=c->(pt f Za n c k h last).length+3<=5*n
 |0=>⟨λn c k h last h1 _ _=>by show 0+2<=_;omega,λn c k h last h1 _ _=>by show 0+3<=_;omega⟩
 |f+1=>by
  obtain⟨ih1,ih2⟩:=ds3 f;refine⟨λn c k h last h1 h2 h3=> ?_,λn c k h last h1 h2 h3=> ?_⟩
  .unfold pt;by_cases hn:n=1
   .rw[zE hn];simp;omega
   .rw[zF hn,aD];have:=ih2 n c (h.findIdx λb=> !b) (h.set (h.findIdx λb=> !b) Za) last h1 h2 (h3 (by omega));omega
  .unfold pt;by_cases hn:n<=1
   .rw[zE hn];simp;omega
   .rw[zF hn,aD,aB,aD];obtain⟨m1,m2,m3,_⟩:=dv0 (n:=n) (c:=c) (by omega) h3 h2
    have a:=ih1 (n-spF n c) (c-1) 0 h last (by omega) (by omega) (λh=>by
     by_cases hc:c=1
     .have:=m3 hc;omega
     .omega)
    have b:=ih2 (spF n c) c k h Zb m1 (by omega) h3;omega
theorem cT9 (d:Nat)(t:Zd): ∀n,(frF d n t).1.length<=n
 |0=>Nat.le_refl _
 |n+1=>by
  have:=cT9 d t n;unfold frF;split
  .rw[aB,bB];omega
  .omega
theorem cg2 (k:Nat)(t:Zd):(ze k t).1.length<=k+1:=by
 have:=cT9 (ad3 k t.length) t k;unfold ze;split
 .rw[aB,bB];omega
 .omega
theorem bO8 (s:Nat): ∀k,(dw s k).1.length<=(k+1)*(k+2)
 |0=>by have:=cg2 0 (List.replicate s (-1));show(ze 0 _).1.length<=_;omega
 |k+1=>by
  have h1:=bO8 s k;have h2:=cg2 (k+1) (dw s k).2;show((dw s k).1++[(1,1)]++(ze (k+1) (dw s k).2).1).length<=_;rw[aB,aB,bB]
  have:(k+1+1)*(k+1+2)=(k+1)*(k+2)+2*(k+2):=by
   rw[show(k+1+1)=k+2 by omega,show k+1+2=(k+1)+2 by omega,Nat.mul_add,Nat.mul_comm (k+2) (k+1),Nat.mul_comm (k+2) 2]
  omega
theorem cS6 (d:Nat)(t:Zd): ∀i,(bkF d t i).length<=4*i
 |0=>Nat.le_refl _
 |i+1=>by
  have:=cS6 d t i;unfold bkF frB;rw[aD,aB,aD,aB]
  repeat' split
  all_goals simp;omega
end
section
open List renaming getElem?_eq_none -> aB, length_cons -> aD
theorem dt6 {n:Int}(h:1<=n/\n<=65535):ol 1 n=Za:=by
 unfold ol;rw[zF (by omega),zF (by omega),zE rfl,zB (by omega)]
theorem bV4 {a n:Int}(ha:2<=a/\a<=4)(h:0<=n/\n<1048576):ol a n=Za:=by
 unfold ol;rw[zF (by omega),zF (by omega),zF (by omega),zE ha.2,zB h]
theorem bV3 {a n:Int}(ha:5<=a/\a<=9)(h:n=0):ol a n=Za:=by
 unfold ol;rw[zF (by omega),zF (by omega),zF (by omega),zF (by omega),zB h]
section
variable {c:Cx}
theorem aD8 {W W':Zd}(hK:gg c W W'):sw c W'=sw c W:=by
 unfold sw;refine List.map_congr_left λk _=> ?_
 rw[hK.tag]
theorem cG8 {W w:Zd}{k:Nat}(hk:k<c.ns.toNat)(hlen:sp c k+w.length<=W.length)(hw:w.length=c.X.length+1):sw c (put W (sp c k) w)=(sw c W).set k (w.getD 0 0-1):=by
 apply List.ext_getElem?;intro j;by_cases hj:j<c.ns.toNat
 .rw[bb7 hj,List.getElem?_set];by_cases hkj:k=j
  .subst hkj;rw[zE rfl,zE (by rw[vm];exact hk),aj4 hlen hw]
  .rw[zF hkj,bb7 hj,bK6 hlen hw (λh=>hkj h.symm)]
 .rw[aB (by rw[vm];omega),aB (by rw[List.length_set,vm];omega)]
theorem bB3 {W:Zd}{k:Nat}(hk:k<c.ns.toNat):(sw c W).getD k 0=jq c W k-1:=by
 rw[List.getD_eq_getElem?_getD,bb7 hk];rfl
theorem bJ4 (h:c.Ok)(hm:c.mode≠3){s:Dy}(hi:Inv c s){a:Int×Int}{m':Mc}(e:mac a (vH c s)=Y m'):(doF c a.1 a.2 s).1=0/\vH c (doF c a.1 a.2 s).2=m':=by
 obtain⟨a,n⟩:=a;have hW:=hi.w;have hL:=hi.L;have hp:=hi.p;have hq:=hi.q;have hns:=h.ns;have l1:(seg s.W (c.off 1) c.X.length).length=c.X.length:=eb (hW.in' h (i:=1) (by omega));unfold mac vH at e;simp only[vm]at e;show(doF c a n s).1=0/\vH c (doF c a n s).2=m';by_cases h1:a=1
 .subst h1;rw[zE rfl]at e;by_cases hc:1<=n/\n<=65535/\s.p+n<=s.L
  .rw[zE hc]at e;injection e with e
   unfold doF;rw[zF (by rw[dt6 (by omega)];simp),zF (by omega),zE rfl,zF (by omega)];refine⟨rfl, ?_⟩;rw[<-e];unfold vH;simp only[aD8 (cr9 h hW s.p n.toNat)]
  .rw[zF hc]at e;cases e
 rw[zF h1]at e;by_cases h2:a=2
 .subst h2;rw[zE rfl]at e;by_cases hc:0<=n/\n<(c.ns.toNat:Int)/\(sw c s.W).getD n.toNat 0<0
  .rw[zE hc]at e;injection e with e
   have hk:n.toNat<c.ns.toNat:=by omega
   obtain⟨s1,s2,s3⟩:=zf h hm hk;obtain⟨t1,t2⟩:=hW.tk h;have hg:=bB3 (c:=c) (W:=s.W) hk;unfold doF;rw[zF (by rw[bV4 (by omega) (by omega)];simp),zF (by omega),zF (by omega),zE rfl,zF (by omega)];refine⟨rfl, ?_⟩;rw[<-e];unfold vH;simp only;rw[cG8 hk (by rw[aD];omega) (by rw[aD,l1])]
   have hv:(IntKind.u64.wrap (IntKind.i64.wrap (s.p+1))::seg s.W (c.off 1) c.X.length).getD 0 0=s.p+1:=by
    show IntKind.u64.wrap (IntKind.i64.wrap (s.p+1))=_;rw[ad (by omega),cc (by omega)]
   rw[hv,show s.p+1-1=s.p by omega]
  .rw[zF hc]at e;cases e
 rw[zF h2]at e;by_cases h3:a=3
 .subst h3;rw[zE rfl]at e;by_cases hc:0<=n/\n<(c.ns.toNat:Int)/\0<=(sw c s.W).getD n.toNat 0
  .rw[zE hc]at e;injection e with e
   have hk:n.toNat<c.ns.toNat:=by omega
   obtain⟨s1,s2,s3⟩:=zf h hm hk;obtain⟨t1,t2⟩:=hW.tk h;have hg:=bB3 (c:=c) (W:=s.W) hk;have l2:(seg s.W (sp c n.toNat+1) c.X.length).length=c.X.length:=eb (by omega);unfold doF;rw[zF (by rw[bV4 (by omega) (by omega)];simp),zF (by omega),zF (by omega),zF (by omega),zE rfl,zF (by omega)];refine⟨rfl, ?_⟩;rw[<-e];unfold vH;simp only;rw[aD8 (gg.put h (gg.refl s.W) hW (i:=1) (by omega) (by rw[l2];exact Nat.le_refl _)),hg]
  .rw[zF hc]at e;cases e
 rw[zF h3]at e;by_cases h4:a=4
 .subst h4;rw[zE rfl]at e;by_cases hc:0<=n/\n<(c.ns.toNat:Int)/\0<=(sw c s.W).getD n.toNat 0
  .rw[zE hc]at e;injection e with e
   have hk:n.toNat<c.ns.toNat:=by omega
   obtain⟨s1,s2,s3⟩:=zf h hm hk;obtain⟨t1,t2⟩:=hW.tk h;have hg:=bB3 (c:=c) (W:=s.W) hk;unfold doF;rw[zF (by rw[bV4 (by omega) (by omega)];simp),zF (by omega),zF (by omega),zF (by omega),zF (by omega),zE rfl,zF (by omega)];refine⟨rfl, ?_⟩;rw[<-e];unfold vH;simp only;rw[cG8 hk (by rw[cn];omega) (cn _)];rfl
  .rw[zF hc]at e;cases e
 rw[zF h4]at e;by_cases h5:a=5
 .subst h5;rw[zE rfl]at e;by_cases hc:n=0/\s.q= -1/\s.p=s.L
  .rw[zE hc]at e;injection e with e
   unfold doF;rw[zF (by rw[bV3 (by omega) hc.1];simp),zF (by omega),zF (by omega),zF (by omega),zF (by omega),zF (by omega),zE rfl,zF (by omega),zF (by omega)];refine⟨rfl, ?_⟩;rw[<-e];unfold vH;simp only[aD8 (cs0 h hW l1)]
  .rw[zF hc]at e;cases e
 rw[zF h5]at e;by_cases h6:a=6
 .subst h6;rw[zE rfl]at e;by_cases hc:n=0/\s.q= -1/\s.p=s.L-1
  .rw[zE hc]at e;injection e with e
   unfold doF;rw[zF (by rw[bV3 (by omega) hc.1];simp),zF (by omega),zF (by omega),zF (by omega),zF (by omega),zF (by omega),zF (by omega),zE rfl,zF (by omega),zF (by omega)];refine⟨rfl, ?_⟩;rw[<-e];unfold vH;simp only[aD8 (bS9 h hW s.p).1]
  .rw[zF hc]at e;cases e
 rw[zF h6]at e;by_cases h7:a=7
 .subst h7;rw[zE rfl]at e;by_cases hc:n=0/\0<s.q/\s.p=s.q-1
  .rw[zE hc]at e;injection e with e
   unfold doF;rw[zF (by rw[bV3 (by omega) hc.1];simp),zF (by omega),zF (by omega),zF (by omega),zF (by omega),zF (by omega),zF (by omega),zF (by omega),zF (by omega),zF (by omega)];refine⟨rfl, ?_⟩;rw[<-e];unfold vH;simp only[aD8 (cs1 h hW s.p).1]
  .rw[zF hc]at e;cases e
 rw[zF h7]at e;cases e
theorem dv {α β:Type}{x:Option α}{a:α}{f:α->Option β}{r:Option β}(h:x=Y a)(h2:f a=r):x.bind f=r:=by rw[h];exact h2
end
end
section
theorem ak1 {α γ:Type}{f:α->Option (α⊕γ)}{k:Nat}{s s':α}{x:γ}(h:Reach f k s s')(hk:k<18446744073709551615)(e:f s'=Y (.inr x)):ap f fy s=Y x:=by
 have:=h (18446744073709551616-k);rw[show 18446744073709551616-k+k=fy by unfold fy;omega,show 18446744073709551616-k=(18446744073709551615-k)+1 by omega]at this;rw[this,cf,e];rfl
theorem cQ1 {l:List (Int×Int)}(hl:l.length<1000000000):vz l l=Y Za:=by
 unfold vz;rw[zA (by simp),zD]
 have key:=xu (f:=wD l l) (n:=l.length) (c:= .inr ()) (by omega)
  (λi hi=>by
   unfold wD;rw[zB (by omega),zC,dq hi];simp only[zG,decide_true,Bool.and_self,Bool.not_true,zD];rw[ad (by omega)]
   rfl)
  (by
   unfold wD
   rw[zA (by omega),zD])
 rw[key];rfl
section
variable {c:Cx}
end
end
section
open List renaming replicate -> aB, eq_of_mem_replicate -> aD, getElem?_eq_none -> bB
section
variable {a0:Int} {a1 a2:Zd} {a3:Int} {a4:List cd} {a5:Int} {a6:List cd} {a7 a8 a9:Int}
theorem cA9 {R:Int}{l:List cd}(h:4096<l.length)(hl:l.length<=3518437208780):eg R l=Y 6:=by
 unfold eg;obtain⟨m,hm⟩:=aL7 hl;rw[hm];simp only[zG,ao2];rw[zB (by omega),zC];rfl
theorem dr6 (h4:a4.length<=3518437208780)(h6:a6.length<=3518437208780)(h:4096<a4.length∨4096<a6.length):vt a3 a4 a5 a6=Y 6:=by
 unfold vt;by_cases c:4096<a4.length
 .rw[cA9 c h4];rfl
 .rw[aK8 (by omega),cA9 (by omega) h6];simp only[zG];split<;>rfl
theorem db5 (h4:a4.length<=3518437208780)(h6:a6.length<=3518437208780)(h:4096<a4.length∨4096<a6.length): ∃e,e≠0/\pe a0 a1 a2 a3 a4 a5 a6 a7 a8=Y e:=by
 have h0:ge a0 a1 a2 a3 a4 a5 a6 a7 a8 0=Y (if hk0 a0≠0 then .inr (.inl (hk0 a0))else .inl 1):=by
  show((jf a0 a1 a2 a3 a4 a5 a6 a7 a8).bind λr=>cond (Zc (r≠0)) _ _)=_;rw[dn2];simp only[zG,ak];split<;>rfl
 have h1:ge a0 a1 a2 a3 a4 a5 a6 a7 a8 1=Y (.inr (.inl 6)):=by
  show((dk a0 a1 a2 a3 a4 a5 a6 a7 a8).bind λr=>cond (Zc (r≠0)) _ _)=_;unfold dk;rw[dr6 h4 h6 h];rfl
 unfold pe;have hB:fy=18446744073709551614+1+1:=rfl;rw[hB,cf,h0];simp only[zG];by_cases c:hk0 a0≠0
 .rw[zE c];exact⟨_,c,rfl⟩
 .rw[zF c];simp only[aw];rw[cf,h1];exact⟨6,by omega,rfl⟩
theorem dp0 (h4:a4.length<=3518437208780)(h6:a6.length<=3518437208780)(h:4096<a4.length∨4096<a6.length): ∃r,r.2.2.2.2≠0/\ou a0 a1 a2 a3 a4 a5 a6 a7 a8=Y r:=by
 obtain⟨e,he,hk⟩:=db5 (a0:=a0) (a1:=a1) (a2:=a2) (a3:=a3) (a5:=a5) (a7:=a7) (a8:=a8) h4 h6 h;refine⟨(0,0,0,0,e),he, ?_⟩;unfold ou;rw[hk];simp only[zG];rw[zB he,zC]
theorem dH9 (h4: ∀o∈a4,okV o)(h6: ∀o∈a6,okV o): ∃b,se a0 a1 a2 a3 a4 a5 a6 a7 a8=Y b/\(b=Za->a7<=40∨65535<a7):=by
 rcases dH8 (a0:=a0) (a1:=a1) (a2:=a2) (a3:=a3) (a5:=a5) (a7:=a7) (a8:=a8) h4 h6 with h|⟨h,_⟩
 .exact⟨Zb,h,λk=>by cases k⟩
 .refine⟨Za,h,λ_=> ?_⟩;by_cases c1:a7<=40
  .exact .inl c1
  by_cases c2:65535<a7
  .exact .inr c2
  exfalso;unfold se at h;obtain⟨r,hr,h⟩:=ag h;cases r with
  |false=>cases h
  |true=>
   rw[Bool.not_true,zD]at h;obtain⟨q,hq,h⟩:=ag h;rw[zA c1,zA c2]at h;cases hd:Zc (IntKind.i64.wrap (q.1+q.2)<=300)<;>rw[hd]at h<;>cases h
end
section
variable {c:Cx}
theorem bU0 (h:c.Ok)(hm:c.mode≠3)(e:ke c.mode c.X.length c.T.length c.R c.l c.Q c.k c.len c.words=(c.fixed,c.tp,c.sl,c.ns,0)):1<=c.ns:=by
 have n:=h.num;have hsl:=n.sl;rw[zF hm]at hsl;unfold ke at e;rw[zF (by rw[h.hc];simp)]at e;by_cases c1:c.words<ac5 c.X.length c.T.length c.R c.Q+yB c.mode c.l c.k+least c.mode c.len*yA c.mode c.X.length c.R c.l
 .rw[zE c1]at e;injection e with _ e
  injection e with _ e
  injection e with _ e
  injection e with _ e
  cases e
 .rw[zF c1,zF hm]at e;injection e with _ e
  injection e with _ e
  injection e with _ e
  injection e with e _
  unfold least at c1;rw[zF hm]at c1;have hs:yA c.mode c.X.length c.R c.l=c.sl:=h.sl.symm;rw[hs]at e c1;rw[<-e];exact(Int.le_ediv_iff_mul_le (by omega)).2 (by omega)
theorem dv6 (h:c.Ok)(hm:c.mode≠3):sw c (new2 c).W=aB c.ns.toNat (-1):=by
 apply List.ext_getElem?;intro k;by_cases hk:k<c.ns.toNat
 .rw[bb7 hk,bT7 h hm hk,List.getElem?_replicate,zE hk];rfl
 .rw[bB (by rw[vm];omega),bB (by rw[List.length_replicate];omega)]
theorem dp1 (h:c.Ok)(hm:c.mode≠3):vH c (new2 c)=⟨c.len,0,-1,aB c.ns.toNat (-1)⟩:=by
 unfold vH;rw[dv6 h hm];rfl
theorem dC8 (s:Nat):hld (aB s (-1))=aB s Zb:=by
 unfold hld;rw[List.map_replicate];rfl
theorem dH1 {l s:Nat}(hl:l<=400)(hs:1<=s): ∃m',Run aD2 ⟨l,0,-1,aB s (-1)⟩ (if l=0 then [(5,0)]else pt (2*l) Zb l s 0 (aB s Zb) Za) m'/\aD2 m'=Z/\m'.q=0/\(if l=0 then [((5:Int),(0:Int))]else pt (2*l) Zb l s 0 (aB s Zb) Za).length<=2000:=by
 have htop:ta (aB s (-1))= -1:=bB6 (by omega) (λy hy=>by rw[aD hy];exact Int.le_refl _) (.inl rfl)
 have hnone: ∀L:Int,aD2 ⟨L,0,0,aB s (-1)⟩=Z:=λL=>by
  unfold aD2;simp only[htop];rw[zF (show¬(0:Int)<0 by omega),zF (by omega),zE trivial]
 by_cases h0:l=0
 .subst h0;rw[zE rfl];refine⟨⟨0,0,0,aB s (-1)⟩, .one ?_ ?_,hnone 0,rfl,by simp⟩
  .unfold aD2;simp only[htop];rw[zE (show(-1:Int)<0 by omega),zF (by omega),zF (by omega),zE (by omega)]
  .unfold mac;simp only[Int.reduceEq,if_false,if_true,true_and];rfl
 .rw[zF h0];refine⟨⟨l,0,0,aB s (-1)⟩, ?_,hnone l,rfl,by have:=(ds3 (2*l)).1 l s 0 (aB s Zb) Za (by omega) (by omega) (λ_=>hs);omega⟩;have:=(du1 (2*l)).1 l s 0 (aB s (-1)) Za l (-1) 0 (Nat.le_refl _) ⟨by omega,by omega,by rw[zE (by omega)];omega,λ_=>rfl,(λh=>by cases h),by omega⟩ (λy hy=>by rw[aD hy];omega) (λy hy=>by rw[aD hy];omega) (by unfold fre;rw[List.countP_replicate];simp) (λ_=>hs);rw[dC8]at this;exact this
theorem dL1 (h:c.Ok)(hm:c.mode=1)(e:ke c.mode c.X.length c.T.length c.R c.l c.Q c.k c.len c.words=(c.fixed,c.tp,c.sl,c.ns,0)):ig c.mode c.X c.T c.R c.l c.Q c.k c.len c.words=Y (.inr (.inr (.inl (c.mode,Zb,Zb,c.fixed,c.tp,c.sl,c.ns,c.mode,c.R,c.Q,c.len,c.words,c.len,c.X,c.T,c.l,c.k,c.P,c.tk,(c.off 8:Int),c.ns,(c.X.length:Int),c.fixed,c.fixed,c.words,(new2 c).W)))):=by
 unfold ig;refine dv (dX3 h (by omega) e) ?_
 refine dv (show iy _ _ _ _ _ _ _ _ _ _ _ _ _ _ _ _ _ _ _ _ _ _ _ _ _ _ _ _ _ _ _ _ _ _ _ _ _ _ _=Y (.inl (c.mode,Zb,Zb))from by
  unfold iy;rw[show ix c.mode 4=Y 1 from by rw[hm];rfl]
  rfl) ?_
 rfl
theorem dL2 (h:c.Ok)(hm:c.mode=2)(e:ke c.mode c.X.length c.T.length c.R c.l c.Q c.k c.len c.words=(c.fixed,c.tp,c.sl,c.ns,0)):ig c.mode c.X c.T c.R c.l c.Q c.k c.len c.words=Y (.inr (.inr (.inr (c.mode,Zb,Zb,c.fixed,c.tp,c.sl,c.ns,c.mode,c.R,c.Q,c.len,c.words,c.len,c.X,c.T,c.l,c.k,c.P,c.tk,(c.off 8:Int),c.ns,(c.X.length:Int),c.fixed,c.fixed,c.words,(new2 c).W)))):=by
 unfold ig;refine dv (dX3 h (by omega) e) ?_
 refine dv (show iy _ _ _ _ _ _ _ _ _ _ _ _ _ _ _ _ _ _ _ _ _ _ _ _ _ _ _ _ _ _ _ _ _ _ _ _ _ _ _=Y (.inr (c.mode,Zb,Zb))from by
  unfold iy;rw[show ix c.mode 4=Y 2 from by rw[hm];rfl]
  rfl) ?_
 rfl
theorem bO9 {s k:Nat}(hs:1<=s)(hk:k<65536):vZ Zb ⟨k,k,-1,(dw s k).2⟩=Z:=by
 cases k with
 |zero=>exact(cS2 hs).2
 |succ k=>exact(cS3 hs hk).2
end
end
section
def stA (c:Cx)(i:Nat):Zd:=cQ7 c 0 c.X i
section
variable {c:Cx} (h:c.Ok) (wT:oz c.T) (wX:oz c.X)
def Sls (c:Cx)(s:Dy):Prop:= ∀k,k<c.ns.toNat->0<jq c s.W k->seg s.W (sp c k+1) c.X.length=stA c (jq c s.W k-1).toNat
include h wT wX
omit wT wX in
theorem Sls.kept {s s':Dy}(S:Sls c s)(hK:gg c s.W s'.W):Sls c s':=λk hk ht=>by
 rw[hK.tag]at ht⊢;rw[hK.seg (by unfold sp;omega)];exact S k hk ht
omit wT wX in
theorem Sls.put (hm:c.mode≠3){s s':Dy}(S:Sls c s)(hW:Wd c s.W){k:Nat}(hk:k<c.ns.toNat){v:Int}{x:Zd}(hx:x.length=c.X.length)(e:s'.W=put s.W (sp c k) (v::x))(hv:0<v->x=stA c (v-1).toNat):Sls c s':=λj hj ht=>by
 obtain⟨s1,s2,s3⟩:=zf h hm hk;obtain⟨s4,_,_⟩:=zf h hm hj;obtain⟨t1,t2⟩:=hW.tk h;have hl:(v::x).length=c.X.length+1:=by rw[List.length_cons,hx]
 have hin:sp c k+(v::x).length<=s.W.length:=by rw[hl];omega
 rw[e]at ht⊢;by_cases hjk:j=k
 .subst hjk;rw[aj4 hin hl]at ht⊢;have ht:0<v:=ht
  have e2:seg (Go.V.put s.W (sp c j) (v::x)) (sp c j+1) c.X.length=x:=by
   have:=bW2 (n:=(v::x).length) hin (Nat.le_refl _);rw[List.take_length,hl]at this
   have h2:seg (Go.V.put s.W (sp c j) (v::x)) (sp c j+1) c.X.length=(seg (Go.V.put s.W (sp c j) (v::x)) (sp c j) (c.X.length+1)).drop 1:=by
    unfold seg;rw[List.drop_take,List.drop_drop];rfl
   rw[h2,this];rfl
  rw[e2];exact hv ht
 .rw[bK6 hin hl (Ne.symm (Ne.symm hjk))]at ht⊢
  rw[bo0 hin (by
   rw[hl];rcases Nat.lt_or_gt_of_ne hjk with h1|h1
   .have:=cX6 (c:=c) h1;omega
   .have:=cX6 (c:=c) h1
    omega)]
  exact S j hj ht
omit wX in
end
end
section
section
variable {c:Cx} (h:c.Ok) (wT:oz c.T) (wX:oz c.X)
def Kps (c:Cx)(s:Dy):Prop:= ∀i:Nat,(i:Int)<nz s->au6 c s.W i=(dI3 c (i:Int) (stA c i)).1/\ad4 c s.W i=(dI3 c (i:Int) (stA c i)).2.1
include h
theorem Kps.kept {s s':Dy}(K:Kps c s)(hK:gg c s.W s'.W)(hh:nz s'<=nz s):Kps c s':=λi hi=>by
 unfold au6 ad4;rw[hK.seg (by unfold aq0;omega),hK.seg (by unfold aq0;omega)];exact K i (by omega)
include wT wX
end
end
section
open Nat renaming le_succ_of_le -> aB
inductive Ev where
 |act (a:Int×Int)
 |more
 |stop
def sR :List Ev->List (Int×Int)
 |[]=>[]
 | .act a::r=>a::sR r
 |_::r=>sR r
theorem aC1 : ∀a b:List Ev,sR (a++b)=sR a++sR b
 |[],b=>rfl
 | .act x::r,b=>congrArg (x:: ·) (aC1 r b)
 | .more::r,b=>aC1 r b
 | .stop::r,b=>aC1 r b
theorem aY6 : ∀l:List (Int×Int),sR (l.map .act)=l
 |[]=>rfl
 |x::r=>congrArg (x:: ·) (aY6 r)
theorem br0 : ∀l:List Ev,(sR l).length<=l.length
 |[]=>Nat.le_refl _
 | .act x::r=>Nat.succ_le_succ (br0 r)
 | .more::r=>aB (br0 r)
 | .stop::r=>aB (br0 r)
def nxB (s:Dy):Option (Int×Int):=if s.q<0 then(if s.p<s.L then Y (8,0)else Y (5,0))else if 0<s.q then Y (9,0)else Z
def uI (c:Cx)(en:Bool)(s:Dy):Option (Int×Int):=if c.mode=3 then nxB s else if c.mode=2 then vZ en (vH c s)else aD2 (vH c s)
def xp (c:Cx)(a:Int×Int)(s:Dy):Dy:=if c.mode=3 then(plF c a.1 a.2 s).2 else(doF c a.1 a.2 s).2
def ab2 (c:Cx)(a:Int×Int)(s:Dy):Prop:=if c.mode=3 then(plF c a.1 a.2 s).1=0 else∃m',mac a (vH c s)=Y m'
def bi8 (s:Dy):Dy:={s with L:=s.L+1}
inductive Way (c:Cx)(l:Nat):Nat->Bool->Dy->List Ev->Nat->Bool->Dy->Prop
 |nil (f:Nat) (en:Bool) (s:Dy):Way c l f en s [] f en s
 |act {f:Nat} {en:Bool} {s:Dy} {a:Int×Int} {es:List Ev} {f':Nat} {en':Bool} {s':Dy}:uI c en s=Y a->ab2 c a s->Way c l f en (xp c a s) es f' en' s'->Way c l f en s (.act a::es) f' en' s'
 |more {f:Nat} {s:Dy} {es:List Ev} {f':Nat} {en':Bool} {s':Dy}:c.mode=2->uI c Zb s=Z->s.q= -1->s.L<65535->f<l->Way c l (f+1) Zb (bi8 s) es f' en' s'->Way c l f Zb s (.more::es) f' en' s'
 |stop {f:Nat} {s:Dy} {es:List Ev} {f':Nat} {en':Bool} {s':Dy}:c.mode=2->uI c Zb s=Z->s.q= -1->f=l->Way c l (f+1) Za s es f' en' s'->Way c l f Zb s (.stop::es) f' en' s'
theorem Way.app {c:Cx}{l:Nat}{f:Nat}{en:Bool}{s:Dy}{es:List Ev}{f1:Nat}{en1:Bool}{s1:Dy}(h:Way c l f en s es f1 en1 s1): ∀{es':List Ev} {f2:Nat} {en2:Bool} {s2:Dy},Way c l f1 en1 s1 es' f2 en2 s2->Way c l f en s (es++es') f2 en2 s2:=by
 induction h with
 |nil=>exact λh=>h
 |act a b _ ih=>exact λh=> .act a b (ih h)
 |more a b c d e _ ih=>exact λh=> .more a b c d e (ih h)
 |stop a b c d _ ih=>exact λh=> .stop a b c d (ih h)
def bv (c:Cx)(i:Nat)(s:Dy):Prop:=if c.mode=3 then Well1 c i s else Well2 c i s
section
variable {c:Cx} (h:c.Ok)
include h
theorem ak6 {i:Nat}{s:Dy}(w:bv c i s){en:Bool}{a:Int×Int}(e:uI c en s=Y a)(m:ab2 c a s):bv c (i+1) (xp c a s):=by
 unfold bv xp ab2 at*;by_cases hm:c.mode=3
 .simp only[zE hm]at w m⊢;have:=w.act h hm a;unfold dz4 at this
  have ha:a.1≠0:=λh0=>by
   unfold plF at m;rw[h0]at m;simp at m
  rw[zF ha]at this;exact this
 .simp only[zF hm]at w m⊢;have:=w.act h hm a;unfold dh9 at this
  have ha:a.1≠0:=λh0=>by
   obtain⟨m',m⟩:=m;unfold mac at m;rw[h0]at m;simp at m
  rw[zF ha]at this;exact this
theorem bo3 {i:Nat}{s:Dy}(w:bv c i s)(hm:c.mode=2)(hq:s.q= -1)(hL:s.L<65535):bv c (i+1) (bi8 s):=by
 unfold bv at*;rw[zF (by omega)]at*;have:=w.act h (by omega) (0,0);unfold dh9 ah1 at this;rw[zE rfl,zF (by omega),zF (by omega),zF (by omega)]at this;exact this
theorem cI1 {i j:Nat}(hij:i<=j){s:Dy}(w:bv c i s):bv c j s:=by
 have up:Cnt (65536*i) s->Cnt (65536*j) s:=λk=>by
  obtain⟨a,b,d,e⟩:=k;unfold Cnt;omega
 unfold bv at*;split
 .rename_i hm;rw[zE hm]at w;exact⟨w.inv,up w.cnt⟩
 .rename_i hm;rw[zF hm]at w;exact⟨w.inv,up w.cnt,w.len⟩
theorem Way.well {l:Nat}{f:Nat}{en:Bool}{s:Dy}{es:List Ev}{f':Nat}{en':Bool}{s':Dy}(H:Way c l f en s es f' en' s'): ∀{i:Nat},bv c i s->bv c (i+es.length) s':=by
 have key: ∀(i:Nat) (e:Ev) (es:List Ev),i+(e::es).length=i+1+es.length:=λi e es=>by
  rw[List.length_cons];omega
 induction H with
 |nil=>exact λw=>w
 |act a b _ ih=>
  intro i w;rw[key];exact ih (ak6 h w a b)
 |more a b d e g _ ih=>
  intro i w;rw[key];exact ih (bo3 h w a d e)
 |stop a b d e _ ih=>
  intro i w;rw[key];exact ih (cI1 h (Nat.le_succ i) w)
theorem bK8 {l:Nat}{en:Bool}(hm:c.mode≠3){nx:Mc->Option (Int×Int)}(hnx: ∀s,uI c en s=nx (vH c s)){f:Nat}{m m':Mc}{k:List (Int×Int)}(R:Run nx m k m'): ∀{i:Nat} (s:Dy),vH c s=m->bv c i s->∃s',Way c l f en s (k.map .act) f en s'/\vH c s'=m':=by
 induction R with
 |nil=>exact λs e _=>⟨s, .nil _ _ _,e⟩
 | @cons m1 m2 m3 a k e1 e2 _ ih=>
  intro i s e w;subst e;have e3:uI c en s=Y a:=(hnx s).trans e1
  have mm:ab2 c a s:=by
   unfold ab2;rw[zF hm];exact⟨_,e2⟩
  have wi:=w;unfold bv at wi;rw[zF hm]at wi;have f2:=(bJ4 h hm wi.inv e2).2;obtain⟨s',w1,w2⟩:=ih (xp c a s) (by unfold xp;rw[zF hm];exact f2) (ak6 h w e3 mm);exact⟨s', .act e3 mm w1,w2⟩
def xB (c:Cx):Dy:=if c.mode=3 then new1 c else new2 c
theorem vJ :bv c 0 (xB c):=by
 unfold bv xB;split
 .rename_i hm;exact ci8 h hm [] 0
 .rename_i hm;exact ci9 h hm [] 0
theorem ce6 {l:Nat}{f:Nat}(hm:c.mode=3): ∀(n:Nat) {i:Nat} (s:Dy),bv c i s->s.q= -1->s.L-s.p=n->∃s',Way c l f Zb s (List.replicate n (.act (8,0))) f Zb s'/\s'.q= -1/\s'.p=s.L/\s'.L=s.L
 |0,i,s,w,hq,hn=>⟨s, .nil _ _ _,hq,by omega,rfl⟩
 |n+1,i,s,w,hq,hn=>by
  have e1:uI c Zb s=Y (8,0):=by
   unfold uI nxB;rw[zE hm,zE (by omega),zE (by omega)]
  have e2:plF c 8 0 s=(0,(plF c 8 0 s).2):=by
   unfold plF;rw[zE rfl,zF (by omega),zF (by omega),zF (by omega)]
  have e3:(plF c 8 0 s).2.q=s.q/\(plF c 8 0 s).2.p=s.p+1/\(plF c 8 0 s).2.L=s.L:=by
   unfold plF;rw[zE rfl,zF (by omega),zF (by omega),zF (by omega)];exact⟨rfl,rfl,rfl⟩
  have mm:ab2 c (8,0) s:=by
   unfold ab2;rw[zE hm];exact congrArg Prod.fst e2
  have ed:xp c (8,0) s=(plF c 8 0 s).2:=by unfold xp;rw[zE hm]
  obtain⟨s',w1,w2,w3,w4⟩:=ce6 hm n (xp c (8,0) s) (ak6 h w e1 mm) (by rw[ed];omega) (by rw[ed];omega);rw[ed]at w3 w4;exact⟨s', .act e1 mm w1,w2,by omega,by omega⟩
theorem ce5 {l:Nat}{f:Nat}(hm:c.mode=3): ∀(n:Nat) {i:Nat} (s:Dy),bv c i s->s.q=n->∃s',Way c l f Zb s (List.replicate n (.act (9,0))) f Zb s'/\s'.q=0/\s'.L=s.L
 |0,i,s,w,hq=>⟨s, .nil _ _ _,by omega,rfl⟩
 |n+1,i,s,w,hq=>by
  have e1:uI c Zb s=Y (9,0):=by
   unfold uI nxB;rw[zE hm,zF (by omega),zE (by omega)]
  have e3:(plF c 9 0 s).1=0/\(plF c 9 0 s).2.q=s.q-1/\(plF c 9 0 s).2.L=s.L:=by
   unfold plF;rw[zF (by omega),zF (by omega),zE rfl,zF (by omega),zF (by omega)];exact⟨rfl,rfl,rfl⟩
  have mm:ab2 c (9,0) s:=by
   unfold ab2;rw[zE hm];exact e3.1
  have ed:xp c (9,0) s=(plF c 9 0 s).2:=by unfold xp;rw[zE hm]
  obtain⟨s',w1,w2,w3⟩:=ce5 hm n (xp c (9,0) s) (ak6 h w e1 mm) (by rw[ed];omega);rw[ed]at w3;exact⟨s', .act e1 mm w1,w2,by omega⟩
end
end
section
open List renaming length_append -> aB, length_cons -> aD, length_map -> bB, replicate -> bD, length_replicate -> cB
section
variable {c:Cx}
end
section
variable {c:Cx} (h:c.Ok)
include h
theorem dr3 (hm:c.mode=2)(hn:1<=c.ns)(h0:c.len=0){l:Nat}(hl:l<=40): ∀k,k<=l->∃s es,Way c l 0 Zb (new2 c) es k Zb s/\vH c s=⟨k,k,-1,(dw c.ns.toNat k).2⟩/\es.length=(dw c.ns.toNat k).1.length+k/\(sR es).length=(dw c.ns.toNat k).1.length
 |0,hk=>by
  have hmc:=dp1 h (by omega);rw[h0]at hmc;have w0:=vJ h;unfold xB at w0;rw[zF (by omega)]at w0;have hnx: ∀s,uI c Zb s=vZ Zb (vH c s):=λs=>by unfold uI;rw[zF (by omega),zE hm]
  obtain⟨s,r1,f1⟩:=bK8 h (l:=l) (f:=0) (by omega) hnx (cS2 (s:=c.ns.toNat) (by omega)).1 (new2 c) hmc w0;exact⟨s,_,r1,f1,by rw[bB,Nat.add_zero],by rw[aY6]⟩
 |k+1,hk=>by
  obtain⟨s,es,r1,f1,e1,e2⟩:=dr3 hm hn h0 hl k (by omega);have hnx: ∀s,uI c Zb s=vZ Zb (vH c s):=λs=>by unfold uI;rw[zF (by omega),zE hm]
  have hlen:(dw c.ns.toNat (k+1)).1.length=(dw c.ns.toNat k).1.length+([(1,1)]++(ze (k+1) (dw c.ns.toNat k).2).1).length:=by
   show((dw c.ns.toNat k).1++[(1,1)]++(ze (k+1) (dw c.ns.toNat k).2).1).length=_;rw[List.append_assoc,aB]
  have hx:=bO9 (s:=c.ns.toNat) (k:=k) (by omega) (by omega);rw[<-f1]at hx;have eq:s.q= -1:=congrArg Mc.q f1;have eL:s.L=(k:Int):=congrArg Mc.L f1;have ep:s.p=(k:Int):=congrArg Mc.p f1;have et:sw c s.W=(dw c.ns.toNat k).2:=congrArg Mc.t f1;have w0:=vJ h;unfold xB at w0;rw[zF (by omega)]at w0;have w1:=r1.well h w0;have w2:=bo3 h w1 hm eq (by omega)
  have f2:vH c (bi8 s)=⟨(k:Int)+1,k,-1,(dw c.ns.toNat k).2⟩:=by
   show Mc.mk (s.L+1) s.p s.q (sw c s.W)=_;rw[eL,ep,eq,et]
  obtain⟨s2,r3,f3⟩:=bK8 h (l:=l) (f:=k+1) (by omega) hnx (cS3 (s:=c.ns.toNat) (k:=k) (by omega) (by omega)).1 (bi8 s) f2 w2;refine⟨s2,es++ .more::([(1,1)]++(ze (k+1) (dw c.ns.toNat k).2).1).map .act,r1.app (.more hm ((hnx s).trans hx) eq (by omega) (by omega) r3),f3, ?_, ?_⟩
  .rw[aB,aD,bB,e1,hlen];omega
  .rw[aC1];show(sR es++sR (([(1,1)]++(ze (k+1) (dw c.ns.toNat k).2).1).map .act)).length=_;rw[aY6,aB,e2,hlen]
theorem dR2 (hm:c.mode=2):c.len=0:=by
 have hc:=h.hc;have hl0:=h.num.len;unfold aD0 at hc;split at hc
 .rename_i k;exact absurd hc k
 split at hc
 .rename_i k;exact absurd hc k
 split at hc
 .rename_i k;exact absurd hc k
 split at hc
 .rename_i k;exact absurd hc k
 rename_i k;unfold hk3 at k;rw[zE hm]at k;by_cases h1:c.len<0
 .omega
 by_cases h2:0<c.len
 .rw[zF h1,zE h2]at k;omega
 .omega
structure Fin (c:Cx)(l:Nat)(f:Nat)(en:Bool)(s:Dy)(es:List Ev):Prop where
 no:uI c en s=Z
 q:s.q=0
 L:s.L=l
 len:es.length<=6000
 one:1<=(sR es).length
 en:c.mode=2->en=Za
theorem dJ0 (e:ke c.mode c.X.length c.T.length c.R c.l c.Q c.k c.len c.words=(c.fixed,c.tp,c.sl,c.ns,0)){l:Nat}(hl:l<=40)(hlen:c.mode≠2->c.len=l): ∃es f en s,Way c l 0 Zb (xB c) es f en s/\Fin c l f en s es:=by
 have nm:=h.num.mode;have w0:=vJ h;have hns:=h.ns;by_cases h3:c.mode=3
 .have hL:=hlen (by omega);have ee:xB c=new1 c:=by unfold xB;rw[zE h3]
  rw[ee]at w0⊢;obtain⟨s1,r1,q1,p1,L1⟩:=ce6 h (l:=l) (f:=0) h3 l (new1 c) w0 rfl (by show c.len-0=_;omega);have L1:s1.L=c.len:=L1;have p1:s1.p=c.len:=p1;have w1:=r1.well h w0
  have e1:uI c Zb s1=Y (5,0):=by
   unfold uI nxB;rw[zE h3,zE (by omega),zF (by omega)]
  have e2:(plF c 5 0 s1).1=0/\(plF c 5 0 s1).2.q=s1.L/\(plF c 5 0 s1).2.L=s1.L:=by
   unfold plF;rw[zF (by omega),zE rfl,zF (by omega),zF (by omega),zF (by omega)];exact⟨rfl,rfl,rfl⟩
  have mm:ab2 c (5,0) s1:=by
   unfold ab2;rw[zE h3];exact e2.1
  have ed:xp c (5,0) s1=(plF c 5 0 s1).2:=by unfold xp;rw[zE h3]
  have w2:=ak6 h w1 e1 mm;obtain⟨s2,r2,q2,L2⟩:=ce5 h (l:=l) (f:=0) h3 l (xp c (5,0) s1) w2 (by rw[ed];omega);rw[ed]at L2;refine⟨_,_,_,s2,r1.app (.act e1 mm r2), ?_,q2,by omega, ?_, ?_,λk=>by omega⟩
  .unfold uI nxB;rw[zE h3,zF (by omega),zF (by omega)]
  .rw[aB,aD,cB,cB];omega
  .rw[aC1,aB];show 1<=_+(sR (bD l (Ev.act (9,0)))).length.succ;omega
 have hn:=bU0 h h3 e;have ee:xB c=new2 c:=by unfold xB;rw[zF h3]
 rw[ee]at w0⊢;by_cases h1:c.mode=1
 .have hL:=hlen (by omega);have hnx: ∀s,uI c Zb s=aD2 (vH c s):=λs=>by unfold uI;rw[zF h3,zF (by omega)]
  obtain⟨m',R,hnn,hq,hR⟩:=dH1 (l:=l) (s:=c.ns.toNat) (by omega) (by omega);have hmc:=dp1 h h3;rw[hL]at hmc;obtain⟨s,r1,f1⟩:=bK8 h (l:=l) (f:=0) h3 hnx R (new2 c) hmc w0;have w1:=r1.well h w0;refine⟨_,_,_,s,r1,(hnx s).trans (by rw[f1];exact hnn), ?_, ?_,by rw[bB];omega, ?_,λk=>by omega⟩
  .rw[<-hq,<-f1];rfl
  .have w2:=w1;unfold bv at w2;rw[zF h3]at w2;exact(w2.len (by omega)).trans hL
  .rw[aY6];by_cases c0:l=0
   .rw[zE c0];exact Nat.le_refl _
   .rw[zF c0]at R⊢;generalize pt (2*l) Zb l c.ns.toNat 0 (bD c.ns.toNat Zb) Za=k at R⊢;cases k with
    |nil=>
     exfalso;generalize hM:(⟨(l:Int),0,-1,bD c.ns.toNat (-1)⟩:Mc)=M at R;cases R;rw[<-hM]at hq;have:(-1:Int)=0:=hq;omega
    |cons _ _=>exact Nat.succ_le_succ (Nat.zero_le _)
 .have hm:c.mode=2:=by omega
  have hx0: ∀en s,uI c en s=vZ en (vH c s):=λen s=>by unfold uI;rw[zF h3,zE hm]
  have hal:=bO8 c.ns.toNat l;have hbd:(l+1)*(l+2)<=41*42:=Nat.mul_le_mul (by omega) (by omega);have hbk:=cS6 (ad3 l (dw c.ns.toNat l).2.length) (dw c.ns.toNat l).2 l
  have hbl:(ce4 l (dw c.ns.toNat l).2).length<=4*l+2/\1<=(ce4 l (dw c.ns.toNat l).2).length:=by
   unfold ce4 frB;rw[aD,aB];split
   .rw[List.length_singleton];omega
   .rw[List.length_nil];omega
  obtain⟨s,es,r1,f1,e1,e2⟩:=dr3 h hm hn (dR2 h hm) hl l (Nat.le_refl _);have hx:=bO9 (s:=c.ns.toNat) (k:=l) (by omega) (by omega);rw[<-f1]at hx;obtain⟨b1,b2⟩:=dj0 (l:=l) (s:=c.ns.toNat) (by omega) (by omega);have w1:=r1.well h w0;obtain⟨s2,r3,f3⟩:=bK8 h (l:=l) (f:=l+1) h3 (hx0 Za) b1 s f1 w1;refine⟨_,_,_,s2,r1.app (.stop hm ((hx0 Zb s).trans hx) (congrArg Mc.q f1) rfl r3),(hx0 Za s2).trans (by rw[f3];exact b2),congrArg Mc.q f3,congrArg Mc.L f3, ?_, ?_,λ_=>rfl⟩
  .rw[aB,aD,bB,e1];omega
  .rw[aC1,aB];show 1<=_+(sR ((ce4 l (dw c.ns.toNat l).2).map .act)).length;rw[aY6];omega
end
end
end Go.V
