/- A part of the proof. No condition. -/
import Derived.Test.YtlmlogmcgeijcaaGreatDoorL2
import Derived.Test.YtlmlogmcgeijcaaGreatDoorA6
import Derived.Test.YtlmlogmcgeijcaaGreatDoorD2
set_option linter.all false
namespace Go.V
open Go.Ab
open Option renaming some->O,none->Y
open Bool renaming true->Za,false->Zb
open Decidable renaming decide->Zc
open List renaming length->dt
open Int renaming toNat->eL
open Option renaming bind->ek
variable {W l r t:Zd}{s:Dy}{b c d d' f i j k:Nat}{B a x y:Int}{en:Bool}
set_option maxRecDepth 100000
section
open Go.IntKind renaming wrap -> zH, i64 -> zI, u64 -> zJ
open Bool renaming not_true -> aB
open Int renaming mul_comm -> aD, mul_le_mul_of_nonneg_left -> bB
def dne {i:Decidable (x≠x)}: @Zc (x≠x) i=Zb:=zA λk=>k rfl
section
variable {c:Cx}
def SS (c:Cx)(s:Dy):Int×Int×Int×Int×Int×Int×Int×Int×Int×Int×Int×Int×Int×Int×Int×Int:=
 (zH zJ c.mode,zH zJ s.L,zH zJ s.p,zH zJ (zH zI (s.q+1)),zH zJ c.ns,zH zJ s.c0,zH zJ s.c1,zH zJ s.c2,zH zJ s.c3,zH zJ s.lv,zH zJ s.pk,s.z,0,0,0,0)
def YG (s:Dy):ki c.fixed c.tp c.sl c.ns c.mode c.R c.Q c.len c.words s.L s.p s.q s.c0 s.c1 s.c2 s.c3 s.z c.X c.T c.l c.k c.P c.tk s.lv s.pk c.words s.W=O (SS c s):=by
 unfold ki rk mP kO kP;simp only[zG];have e:am (qX c.ns c.mode s.L s.p s.q s.c0 s.c1 s.c2 s.c3 s.lv s.pk) cv ((0,0,0,0,0,0,0,0,0,0,0,0,0,0,0,0,0))=O (zH zJ c.mode,zH zJ s.L,zH zJ s.p,zH zJ (zH zI (s.q+1)),zH zJ c.ns,zH zJ s.c0,zH zJ s.c1,zH zJ s.c2,zH zJ s.c3,zH zJ s.lv,zH zJ s.pk,0,0,0,0,0):=by kernel_rfl
 rw[e];rfl
def Rd (s:Dy){sb sn sx:Int}:gI c.fixed c.tp c.sl c.ns c.mode c.R c.Q c.len c.words s.L s.p s.q s.c0 s.c1 s.c2 s.c3 s.z c.X c.T c.l c.k c.P c.tk sb sn sx s.lv s.pk c.words s.W=O (SS c s):=by
 unfold gI pj iQ kO kP;simp only[zG];have e:am (pJ c.ns c.mode s.L s.p s.q s.c0 s.c1 s.c2 s.c3 s.lv s.pk) cv ((0,0,0,0,0,0,0,0,0,0,0,0,0,0,0,0,0))=O (zH zJ c.mode,zH zJ s.L,zH zJ s.p,zH zJ (zH zI (s.q+1)),zH zJ c.ns,zH zJ s.c0,zH zJ s.c1,zH zJ s.c2,zH zJ s.c3,zH zJ s.lv,zH zJ s.pk,0,0,0,0,0):=by kernel_rfl
 rw[e];rfl
def Yt (p:dt l<1000000):am (ik l) cv (0,0)=O ((l.countP λt=>Zc (0<=t):Nat):Int):=by
 have h: ∀i,((l.take i).countP λt=>Zc (0<=t))<=dt l:=λi=>Nat.le_trans List.countP_le_length V3
 have e:am (ik l) cv (0,(((l.take 0).countP λt=>Zc (0<=t):Nat):Int))=O (((l.take (dt l)).countP λt=>Zc (0<=t):Nat):Int):=by
  refine eZ (n:=dt l) (λi=>(((l.take i).countP λt=>Zc (0<=t):Nat):Int)) V1 (λi hi=> ?_) ?_
  .have o:=h i;unfold ik;simp only;rw[zB (show(i:Int)<(dt l:Int)by omega),zC,br hi,zG,List.getElem?_eq_getElem hi,zG,ad (n:=(i:Int)+1) V1,List.take_succ_eq_append_getElem hi,List.countP_append,ag];by_cases g:0<=l[i]
   .rw[zE g,Zi];simp[g]
   .rw[zF g];simp[g]
  .unfold ik;simp only;rw[Ze,zD]
 rw[List.take_length]at e;exact e
def Yu (W:Zd):((mL c W).countP λt=>Zc (0<=t))=iW c W:=by
 unfold mL iW;rw[List.countP_map];apply List.countP_congr;intro k _;simp only[Function.comp,decide_eq_true_eq];omega
def QI (h:c.Ok)(g:c.mode≠3)(u:Wd c W)(w: ∀k,k<eL c.ns->0<=iG c W k/\iG c W k<=65536):sB (c.off 8:Int) c.ns (dt c.X:Int) c.tk W=O (.inr ((c.off 8:Int),c.ns,(dt c.X:Int))):=by
 have n:=h.num;have H:=n.x;have A:=h.ns;have nm:=n.mul;have F:=n.words;have e:=n.sl;rw[zF g]at e;have E:=h.off9_le;have v:c.off 9=c.off 8+eL (c.sl*c.ns):=NG;have⟨C,D⟩:=u.tk h;unfold sB mj ey;rw[zB (show 0<=c.ns by omega),zB (show c.ns<=1048576 by omega),zB (show 1<=(dt c.X:Int)by omega),zB (show(dt c.X:Int)<=64 by omega)];simp only[zC,zD,aB,zG];rw[ad (n:=(dt c.X:Int)+1) V1,<-e,aD c.ns,ad (n:=c.sl*c.ns) V1]
 have p:dj (c.off 8:Int) (c.sl*c.ns) c.tk W=O (0,seg W (c.off 8) (eL (c.sl*c.ns))):=by
  have:=zr (W:=W) (o:=c.off 8) (n:=eL (c.sl*c.ns)) (tk:=c.off 9) V1 C D;rw[Int.toNat_of_nonneg nm]at this;exact this
 rw[p,zG,zA V2,zD]
 have q:am (ot (c.off 8:Int) c.ns (dt c.X:Int) c.tk W) cv 0=O (.inr ()):=by
  refine pi (n:=eL c.ns) V1 (λi hi=> ?_) ?_
  .have z:=w i hi;unfold ot;rw[Zf,zC,zU h g hi,zG,Ic h g u hi,zG,Ze,zD,Zi];rfl
  .unfold ot;rw[Ze,zD]
 rw[q];rfl
def Vy (c:Cx)(s:Dy):Int×Int×Int×Int×Int×Int×Int×Int×Int×Int×Int×Int×Int×Int×Int×Int×Int×(Zd)×(Zd)×(List (Int×Int×Int×Int×Int))×(List (Int×Int×Int×Int×Int))×(Zd)×Int×Int×Int×Int×Zd:=
 (c.fixed,c.tp,c.sl,c.ns,c.mode,c.R,c.Q,c.len,c.words,s.L,s.p,s.q,s.c0,s.c1,s.c2,s.c3,s.z,c.X,c.T,c.l,c.k,c.P,c.tk,s.lv,s.pk,c.words,s.W)
def N4 (c:Cx)(s:Dy):Int×Int×Int×Int×Int×Int×Int×Int×Int×Int×Int×Int×Int×Int×Int×Int×Int×(Zd)×(Zd)×(List (Int×Int×Int×Int×Int))×(List (Int×Int×Int×Int×Int))×(Zd)×Int×Int×Int×Int×Int×Int×Int×Zd:=
 (c.fixed,c.tp,c.sl,c.ns,c.mode,c.R,c.Q,c.len,c.words,s.L,s.p,s.q,s.c0,s.c1,s.c2,s.c3,s.z,c.X,c.T,c.l,c.k,c.P,c.tk,(c.off 8:Int),c.ns,(dt c.X:Int),s.lv,s.pk,c.words,s.W)
def wIU {n:Int}(h:0<=n/\n<=9223372036854775807):zH zI (zH zJ n)=n:=by
 rw[Zk,Zi]
def Lj (h:c.Ok)(e:Wd c W):xQ W=O (.inr W):=by
 have f:=wN h;have g:=h.num.words;unfold Wd at e;unfold xQ rF;rw[Ze,zD,Ze,zD,zG,zA V2,zD,wJ V1];rfl
def R8 {b lv pk:Int}(h:0<=lv)(e:lv<=pk)(g:pk<=b):pZ b lv pk=O (.inr (lv,pk,b)):=by
 unfold pZ;rw[Ze,zD,Ze,zD,Ze,zD]
def Hg (c:Cx)(s:Dy):Prop:=c.mode≠2->s.L=c.len
def aJ9 (h:c.Ok)(A:c.mode≠3)(e:eo c.mode c.X.length c.T.length c.R c.l c.Q c.k c.len c.words=(c.fixed,c.tp,c.sl,c.ns,0))(hi:Inv c s)(hL:Hg c s)(hc:Ec B s)(hB:B<=2305843009213693952):
  iw c.mode c.X c.T c.R c.l c.Q c.k c.len c.words s.W (zH zJ c.mode) (zH zJ s.L) (zH zJ s.p) (zH zJ (zH zI (s.q+1))) (zH zJ c.ns) (zH zJ s.c0) (zH zJ s.c1) (zH zJ s.c2) (zH zJ s.c3) (zH zJ s.lv) (zH zJ s.pk) s.z 0 0 0 0=O (.inr (.inr (N4 c s))):=by
 have n:=h.num;have f:=wN h;have nw:=n.words;have nns:=h.ns;have nm:=n.mul;have M:=n.len;have J:=n.mode;have C:=hi.w;have hp:=hi.p;have hq:=hi.q;have H:=hi.L;have D:=hi.pk;obtain⟨k0,k1,k2,k3⟩:=hc.in' hB;obtain⟨N,g2,g3,g4⟩:=HQ h hi;have h9:=h.off9_le;have Z:c.off 9=c.off 8+(c.sl*c.ns).toNat:=NG;obtain⟨t1,t2⟩:=C.tk h;have hWl:s.W.length=c.words.toNat:=C;unfold iw;rw[H1 h e];simp only[zG,cb];rw[bt (n:=((s.W.length:Nat):Int)) V1,bt (n:=c.words) V1,zA (show¬(((s.W.length:Nat):Int)≠c.words)by omega),zD,dne,zD,dne,zD]
 have v:iI (zH zJ s.L) c.fixed c.tp c.sl c.ns c.mode c.R c.Q c.len c.words c.len 0 (-1) 0 0 0 0 0 c.X c.T c.l c.k c.P=O Za:=by
  unfold iI;rw[ag];by_cases F:c.mode=2
  .rw[zE F,Zk,Zf]
  .rw[zF F,hL F,zB rfl]
 rw[v];simp only[zG,aB,zD];have I:zH zI (s.q+1)=s.q+1:=ad V1;rw[I,bt (n:=s.L) V1,bt (n:=s.p) V1,bt (n:=s.q+1) V1,bt (n:=s.L+1) V1,bt (n:=s.lv) V1,bt (n:=s.pk) V1,zA (show¬s.L<s.p by omega),zD,zA (show¬s.L+1<s.q+1 by omega),zD,zA (show¬c.words<s.lv by omega),zD,zA (show¬c.words<s.pk by omega),zD,Lj h C];simp only[zG,cb];rw[show ix 8 c.P.length=O 8 from br (k:=8) Z9];simp only[zG];rw[Cx.P_get (show 8<10 by omega)];simp only[zG]
 have E:da (zH zI ((c.off 8:Int)+zH zI (c.ns*c.sl))) 0 s.W=O (0,0,c.tk):=by
  rw[aD,ad (n:=c.sl*c.ns) V1,Zi,show(c.off 8:Int)+c.sl*c.ns=((c.off 9:Nat):Int)by omega];have:=FW (o:=0) (n:=c.off 9) (W:=s.W) V1 V1;rw[Nat.zero_add]at this;exact this
 rw[E];simp only[zG];rw[ad (n:=s.L) V1,ad (n:=s.p) V1,ad (n:=s.q+1) V1,ad (n:=s.q+1-1) V1,show s.q+1-1=s.q by omega];unfold jx fp;simp only[zG];rw[zA A,zD,show ix 8 c.P.length=O 8 from br (k:=8) Z9];simp only[zG];rw[Cx.P_get (show 8<10 by omega)];simp only[zG];have g: ∀k,k<c.ns.toNat->0<=iG c s.W k/\iG c s.W k<=65536:=λk hk=>by have:=hi.tag k hk;omega
 rw[QI h A C g];simp only[zG,cb];unfold pm
 have u:(mL c s.W).length<1000000:=by
  rw[qH];rcases Nat.eq_zero_or_pos c.ns.toNat with h0|h0
  .omega
  .have:=(xO h A h0).2.2;omega
 rw[Ie h A C g];simp only[zG];rw[C5 H hp hq u (If hi.tag)];simp only[zG,cb,aB,zD];unfold po lL;simp only[zG];rw[zA A,Bool.not_false,zC];unfold qh;rw[Ie h A C g];simp only[zG];rw[Yt u,Yu];simp only[zG];have hlv:=hi.lv;have hul:=Wx c s.W;have K:1<=c.sl:=by have:=n.sl;rw[zF A]at this;omega
 have h8:c.sl*(iW c s.W:Int)<=c.sl*c.ns:=bB V1 V1;have V:0<=c.sl*(iW c s.W:Int):=Int.mul_nonneg V1 V1;rw[aD ((iW c s.W:Nat):Int),ad (n:=c.sl*(iW c s.W:Int)) V1,ad (n:=c.fixed+c.sl*(iW c s.W:Int)) V1,ad (n:=s.lv) V1,zA (show¬(s.lv≠c.fixed+c.sl*(iW c s.W:Int))by omega),zD];simp only[zG,cb];rw[ad (n:=s.pk) V1,R8 N D.1 D.2];simp only[zG,cb];rw[wIU V1,wIU V1,wIU V1,wIU V1];rfl
def aJ8 (h:c.Ok)(A:c.mode=3)(e:eo c.mode (dt c.X) (dt c.T) c.R c.l c.Q c.k c.len c.words=(c.fixed,c.tp,c.sl,c.ns,0))(hi:InvB c s)(hc:Ec B s)(Z:B<=2305843009213693952):
  iw c.mode c.X c.T c.R c.l c.Q c.k c.len c.words s.W (zH zJ c.mode) (zH zJ s.L) (zH zJ s.p) (zH zJ (zH zI (s.q+1))) (zH zJ c.ns) (zH zJ s.c0) (zH zJ s.c1) (zH zJ s.c2) (zH zJ s.c3) (zH zJ s.lv) (zH zJ s.pk) s.z 0 0 0 0=O (.inr (.inl (Vy c s))):=by
 have n:=h.num;have f:=wN h;have nw:=n.words;have nns:=h.ns;have nm:=n.mul;have K:=n.len;have H:=n.mode;have E:=hi.w;have hp:=hi.p;have hq:=hi.q;have D:=hi.L;have v:=hi.pk;have hqp:=hi.qp;have⟨k0,k1,k2,k3⟩:=hc.in' Z;have⟨M,g2,g3,g4,g5,g6,g7⟩:=Um h A hi;have h9:=h.off9_le;have V:c.off 9=c.off 8+eL (c.sl*c.ns):=NG;have⟨t1,t2⟩:=E.tk h;have hWl:dt s.W=eL c.words:=E;unfold iw;rw[H1 h e];simp only[zG,cb];rw[bt (n:=((dt s.W:Nat):Int)) V1,bt (n:=c.words) V1,zA (show¬(((dt s.W:Nat):Int)≠c.words)by omega),zD,dne,zD,dne,zD]
 have u:iI (zH zJ s.L) c.fixed c.tp c.sl c.ns c.mode c.R c.Q c.len c.words c.len 0 (-1) 0 0 0 0 0 c.X c.T c.l c.k c.P=O Za:=by
  unfold iI;rw[ag,Zh,D,zB rfl]
 rw[u];simp only[zG,aB,zD];have F:zH zI (s.q+1)=s.q+1:=ad V1;rw[F,bt (n:=s.L) V1,bt (n:=s.p) V1,bt (n:=s.q+1) V1,bt (n:=s.L+1) V1,bt (n:=s.lv) V1,bt (n:=s.pk) V1,zA (show¬s.L<s.p by omega),zD,zA (show¬s.L+1<s.q+1 by omega),zD,zA (show¬c.words<s.lv by omega),zD,zA (show¬c.words<s.pk by omega),zD,Lj h E];simp only[zG,cb];rw[show ix 8 (dt c.P)=O 8 from br (k:=8) Z9,zG,Cx.P_get (show 8<10 by omega),zG]
 have C:da (zH zI ((c.off 8:Int)+zH zI (c.ns*c.sl))) 0 s.W=O (0,0,c.tk):=by
  rw[aD,ad (n:=c.sl*c.ns) V1,Zi,show(c.off 8:Int)+c.sl*c.ns=((c.off 9:Nat):Int)by omega];have:=FW (o:=0) (n:=c.off 9) (W:=s.W) V1 V1;rw[Nat.zero_add]at this;exact this
 rw[C,zG,ad (n:=s.L) V1,ad (n:=s.p) V1,ad (n:=s.q+1) V1,ad (n:=s.q+1-1) V1,show s.q+1-1=s.q by omega];unfold jx fp;simp only[zG];rw[zB A,zC];simp only[zG,gi,aB,zD];unfold pn fp;simp only[zG];rw[zB A,aB,zD]
 have g:cond (Zc (s.q<0)) (O s.p) (O s.q)=O (lH s):=by
  unfold lH;rw[ag];split<;>rfl
 rw[g,zG];have hlv:=hi.lv;have I:0<=lH s/\lH s<=c.ns:=by unfold lH;split<;>omega
 have J:1<=c.sl:=by have:=n.sl;rw[zE A]at this;have:=n.R;omega
 have h8:c.sl*lH s<=c.sl*c.ns:=bB I.2 V1;have N:0<=c.sl*lH s:=Int.mul_nonneg V1 I.1;rw[aD (lH s),ad (n:=c.sl*lH s) V1,ad (n:=c.fixed+c.sl*lH s) V1,ad (n:=s.lv) V1,zA (show¬(s.lv≠c.fixed+c.sl*lH s)by omega),zD];simp only[zG,cb,gi];rw[ad (n:=s.pk) V1,R8 M v.1 v.2];simp only[zG,cb];rw[wIU V1,wIU V1,wIU V1,wIU V1];rfl
end
end
section
open List renaming length_take -> aB
section
variable {c:Cx}
def az2 (h:c.Ok)(D:c.mode=3)(hi:InvB c s)(a n:Int):InvB c (Gb c a n s).2:=by
 have nm:=h.num;have C:=hi.w;have E:=hi.L;have M:=hi.p;have Q:=hi.q;have N:=hi.pk;have V:=hi.qp;have K:=h.ns;have nR:=nm.R;have n1:=nm.xtR;have nx:=nm.x;have⟨g1,g2,g3,g4,I,g6,g7⟩:=Um h D hi;have H:=nm.tp;rw[zE D]at H;have Z:dt (seg s.W (c.off 1) (dt c.X))=dt c.X:=fY (C.in' h (i:=1) V1);have z1:c.sz 1=dt c.X:=rfl;have o1:=oN (c:=c) (i:=1) (j:=9) V1;unfold Gb;by_cases a8:a=8
 .rw[zE a8];by_cases z:n≠0
  .rw[zE z];exact hi
  rw[zF z];by_cases u:0<=s.q
  .rw[zE u];exact hi
  rw[zF u];by_cases g:s.p=s.L
  .rw[zE g];exact hi
  rw[zF g];have e:lH s=s.p:=by unfold lH;rw[Zg]
  have A:eL s.p<eL c.ns:=by omega
  have⟨s1,s2,s3,s4⟩:=Fa h D A;have⟨f1,f2,f3⟩:=iM h C s.p;have w1:=yI h C s.p;have F:dt ((i6 c s.W s.p).2.1++(i6 c s.W s.p).1)=eL c.sl:=by rw[List.length_append];omega
  have w2:=w1.put h (w:=(i6 c s.W s.p).2.1++(i6 c s.W s.p).1) (o:=Cg c (eL s.p)) (by rw[F];exact s3);have J:=I (by rw[e];omega);refine⟨w2.put h Z2,E,⟨by show 0<=s.p+1;omega,by show s.p+1<=s.L;omega⟩,Q,λv=> ?_, ?_, ?_⟩
  .have v:0<=s.q:=v;omega
  .show s.lv+c.sl=c.fixed+c.sl*(if s.q<0 then s.p+1 else s.q);rw[Zg,hi.lv,e,Int.mul_add,Int.mul_one];omega
  .show s.lv+c.sl<=max s.pk (s.lv+c.sl)/\max s.pk (s.lv+c.sl)<=c.words;omega
 rw[zF a8];by_cases a5:a=5
 .rw[zE a5];by_cases z:n≠0
  .rw[zE z];exact hi
  rw[zF z];by_cases u:0<=s.q
  .rw[zE u];exact hi
  rw[zF u];by_cases g:s.p≠s.L
  .rw[zE g];exact hi
  rw[zF g];refine⟨(C0 h C Z).2,E,M,⟨by show-1<=s.L;omega,Int.le_refl _⟩,λ_=>by show s.p=s.L;omega, ?_, ?_⟩
  .show s.lv=c.fixed+c.sl*(if s.L<0 then s.p else s.L);rw[Zh,hi.lv];unfold lH;rw[Zg,show s.p=s.L by omega]
  .show s.lv<=max s.pk (s.lv+(c.fk.n:Int))/\max s.pk (s.lv+(c.fk.n:Int))<=c.words;omega
 rw[zF a5];by_cases a9:a=9
 .rw[zE a9];by_cases z:n≠0
  .rw[zE z];exact hi
  rw[zF z];by_cases v:s.q<1
  .rw[zE v];exact hi
  rw[zF v];have A:eL (s.q-1)<eL c.ns:=by omega
  have⟨b1,b2,b3,b4,b5,b6⟩:=Jw h D C A;have⟨v1,v2,v3⟩:=nN h (a:=(Lp c s.W (eL (s.q-1))).2.1) C V1 V1;refine⟨v3.put h Z2,E,⟨by show 0<=s.q-1;omega,by show s.q-1<=s.L;omega⟩,⟨by show-1<=s.q-1;omega,by show s.q-1<=s.L;omega⟩,λ_=>rfl, ?_, ?_⟩
  .show s.lv-c.sl=c.fixed+c.sl*(if s.q-1<0 then s.q-1 else s.q-1);have e:lH s=s.q:=by unfold lH;rw[Zh]
   rw[Zh,hi.lv,e,Int.mul_sub,Int.mul_one];omega
  .show s.lv-c.sl<=s.pk/\s.pk<=c.words;have:=nm.sl;rw[zE D]at this;omega
 rw[zF a9];exact hi
def az1 (g:Ec B s)(a n:Int):Ec (B+65536) (Gb c a n s).2:=by
 have e:Ec (B+65536) s:=by unfold Ec at g⊢;omega
 unfold Gb
 repeat' split
 all_goals first|exact e|(unfold Ec at g⊢;simp only;omega)
def xM (c:Cx)(s:Dy):Int×Dy:=if c.mode≠2 then(19,s)else if 0<=s.q then(19,s)else if s.L=65535 then(14,s)else(0,{s with L:=s.L+1})
def Ou (g:Ec B s):Ec (B+65536) (xM c s).2:=by
 have e:Ec (B+65536) s:=by unfold Ec at g⊢;omega
 unfold xM
 repeat' split
 all_goals first|exact e|(unfold Ec at g⊢;simp only;omega)
def Us (e:c.mode=3)(hi:InvB c s):InvB c (xM c s).2:=by
 unfold xM;rw[Zg];exact hi
def Ut (hi:Inv c s):Inv c (xM c s).2:=by
 unfold xM;split
 .exact hi
 split
 .exact hi
 split
 .exact hi
 .have:=hi.L;have:=hi.p;have:=hi.q;exact⟨hi.w,⟨by show 0<=s.L+1;omega,by show s.L+1<=65535;omega⟩,⟨hi.p.1,by show s.p<=s.L+1;omega⟩,⟨hi.q.1,by show s.q<=s.L+1;omega⟩,λk e=>by have:=hi.tag k e;exact⟨this.1,by show iG c s.W k<=s.L+1+1;omega⟩,hi.lv,hi.pk⟩
def XM (g:Hg c s):Hg c (xM c s).2:=by
 intro e;unfold xM;rw[zE e];exact g e
def aV1 (a n:Int)(s:Dy):(HG c a n s).2.L=s.L:=by
 unfold HG;by_cases g:kA a n=Zb∨7<a
 .rw[zE g]
 rw[zF g];by_cases o:(2<=a/\a<=4)/\c.ns<=n
 .rw[zE o]
 rw[zF o]
 have e: ∀{P:Prop} [Decidable P] {x y:Int×Dy},x.2.L=s.L->y.2.L=s.L->(if P then x else y).2.L=s.L:=by
  intro P _ x y q u;by_cases p:P
  .rw[zE p];exact q
  .rw[zF p];exact u
 exact e (e rfl rfl) (e (e rfl rfl) (e (e rfl rfl) (e (e rfl rfl) (e (e rfl (e rfl rfl)) (e (e rfl (e rfl rfl)) (e rfl (e rfl rfl)))))))
def at5 (e:Hg c s)(a n:Int):Hg c (HG c a n s).2:=λg=>(aV1 a n s).trans (e g)
def aq6 (c:Cx)(x:Int×Int)(s:Dy):Int×Dy:=if x.1=0 then xM c s else Gb c x.1 x.2 s
def aW9 (u:0<=s.L/\s.L<=65535):iP c.fixed c.tp c.sl c.ns c.mode c.R c.Q c.len c.words s.L s.p s.q s.c0 s.c1 s.c2 s.c3 s.z c.X c.T c.l c.k c.P c.tk (c.off 8:Int) c.ns (dt c.X:Int) s.lv s.pk c.words s.W=O ((xM c s).1,c.fixed,c.tp,c.sl,c.ns,c.mode,c.R,c.Q,c.len,c.words,(xM c s).2.L,s.p,s.q,s.c0,s.c1,s.c2,s.c3,s.z):=by
 unfold iP xM;rw[ag];by_cases e:c.mode≠2
 .rw[zE e,zE e]
 rw[zF e,zF e,ag];by_cases g:0<=s.q
 .rw[zE g,zE g]
 rw[zF g,zF g,ag];by_cases o:s.L=65535
 .rw[zE o,zE o]
 rw[zF o,zF o,Zi]
def YK (c:Cx)(x:Int×Int)(s:Dy):Int×Dy:=if x.1=0 then xM c s else HG c x.1 x.2 s
structure Well1 (c:Cx)(i:Nat)(s:Dy):Prop where
 inv:InvB c s
 cnt:Ec (65536*i) s
structure Well2 (c:Cx)(i:Nat)(s:Dy):Prop where
 inv:Inv c s
 cnt:Ec (65536*i) s
 len:Hg c s
def Well1.act (h:c.Ok)(g:c.mode=3)(w:Well1 c i s)(x:Int×Int):Well1 c (i+1) (aq6 c x s).2:=by
 have e:(65536:Int)*((i+1:Nat):Int)=65536*i+65536:=by omega
 unfold aq6;split
 .exact⟨Us g w.inv,by rw[e];exact Ou w.cnt⟩
 .exact⟨az2 h g w.inv _ _,by rw[e];exact az1 w.cnt _ _⟩
theorem Well2.act (h:c.Ok)(g:c.mode≠3)(w:Well2 c i s)(x:Int×Int):Well2 c (i+1) (YK c x s).2:=by
 have e:(65536:Int)*((i+1:Nat):Int)=65536*i+65536:=by omega
 unfold YK;split
 .exact⟨Ut w.inv,by rw[e];exact Ou w.cnt,XM w.len⟩
 .exact⟨at4 h g w.inv _ _,by rw[e];exact at3 w.cnt _ _,at5 w.len _ _⟩
def aQ3 (f:(Int×Int)->Dy->Int×Dy)(l:List (Int×Int))(s:Dy):Nat->Dy
 |0=>s
 |i+1=>(f (l.getD i (0,0)) (aQ3 f l s i)).2
def V0 (s:Dy)(h:s.c0=0/\s.c1=0/\s.c2=0/\s.c3=0):Ec (65536*(0:Nat)) s:=by
 unfold Ec;omega
def OP (h:c.Ok)(e:c.mode=3)(l:List (Int×Int)): ∀i,Well1 c i (aQ3 (aq6 c) l (new1 c) i)
 |0=>⟨ag0 h e,V0 _ ⟨rfl,rfl,rfl,rfl⟩⟩
 |i+1=>(OP h e l i).act h e _
def OQ (h:c.Ok)(e:c.mode≠3)(l:List (Int×Int)): ∀i,Well2 c i (aQ3 (YK c) l (new2 c) i)
 |0=>⟨ag1 h e,V0 _ ⟨rfl,rfl,rfl,rfl⟩,λ_=>rfl⟩
 |i+1=>(OQ h e l i).act h e _
def D9 (c:Cx)(s:Dy):Int×Int×(Zd)×Zd:=if s.q≠0 then(0,19,[],[])else(s.z,0,seg s.W (c.off 5) (dt c.X),seg s.W (c.off 6) (dt c.T))
def Wj (h:c.Ok)(g:Wd c s.W):lj c.fixed c.tp c.sl c.ns c.mode c.R c.Q c.len c.words s.L s.p s.q s.c0 s.c1 s.c2 s.c3 s.z c.X c.T c.l c.k c.P c.tk s.lv s.pk c.words s.W=O (D9 c s):=by
 unfold lj D9;rw[ag];by_cases e:s.q≠0
 .rw[zE e,zE e]
 rw[zF e,zF e,RQ (ii:=5) (i:=5) h g rfl V1,zG,RQ (ii:=6) (i:=6) h g rfl V1];rfl
def aN7 (h:c.Ok)(e:Wd c s.W):lX c.fixed c.tp c.sl c.ns c.mode c.R c.Q c.len c.words s.L s.p s.q s.c0 s.c1 s.c2 s.c3 s.z c.X c.T c.l c.k c.P c.tk s.lv s.pk c.words s.W=O s.W:=by
 unfold lX jV;rw[wJ (e.tk h).2];rfl
def KE (h:c.Ok)(g:Wd c s.W):gY c.fixed c.tp c.sl c.ns c.mode c.R c.Q c.len c.words s.L s.p s.q s.c0 s.c1 s.c2 s.c3 s.z c.X c.T c.l c.k c.P c.tk (c.off 8:Int) c.ns (dt c.X:Int) s.lv s.pk c.words s.W=O (D9 c s):=by
 unfold gY D9;rw[ag];by_cases e:s.q≠0
 .rw[zE e,zE e]
 rw[zF e,zF e,NE (ii:=5) (i:=5) h g rfl V1,zG,NE (ii:=6) (i:=6) h g rfl V1];rfl
def ad1 (h:c.Ok)(e:Wd c s.W):iy c.fixed c.tp c.sl c.ns c.mode c.R c.Q c.len c.words s.L s.p s.q s.c0 s.c1 s.c2 s.c3 s.z c.X c.T c.l c.k c.P c.tk (c.off 8:Int) c.ns (dt c.X:Int) s.lv s.pk c.words s.W=O s.W:=by
 unfold iy jV;rw[wJ (e.tk h).2];rfl
end
end
section
section
variable {c:Cx}
end
end
section
section
variable {a0:Int} {a1 a2:Zd} {a3:Int} {a4:List bz} {a5:Int} {a6:List bz} {a7 a8:Int}
def Wp (q: ∀o∈a4,Sj o)(u: ∀o∈a6,Sj o):jf a0 a1 a2 a3 a4 a5 a6 a7 a8=O Zb∨(jf a0 a1 a2 a3 a4 a5 a6 a7 a8=O Za/\OpsOk a4/\OpsOk a6/\(dt a1)<=200/\(dt a2)<=200):=by
 unfold jf vL;by_cases c1:(dt a4:Int)<=60
 .by_cases c2:(dt a6:Int)<=60
  .by_cases c3:(dt a1:Int)<=200
   .by_cases c4:(dt a2:Int)<=200
    .have g:OpsOk a4:=⟨V1,q⟩;have p:OpsOk a6:=⟨V1,u⟩;rw[zB c1,zB c2,zB c3,zB c4];simp only[zC,zG,Bool.not_true,zD];rw[Mz g p V1 V1];simp only[zG,ag]
     have e: ∀b:Bool,(O b=O Zb)∨(O b=O Za/\OpsOk a4/\OpsOk a6/\(dt a1)<=200/\(dt a2)<=200):=λb=>by
      cases b
      .exact .inl rfl
      .exact .inr ⟨rfl,g,p,V1,V1⟩
     repeat' split
     all_goals exact e _
    .rw[zB c1,zB c2,zB c3,zA c4];exact .inl rfl
   .rw[zB c1,zB c2,zA c3];exact .inl rfl
  .rw[zB c1,zA c2];exact .inl rfl
 .rw[zA c1];exact .inl rfl
end
end
section
def Rf (a:Int):Prop:=0<=a/\a<18446744073709551616
def wU (n:Int):IntKind.u64.wrap n=n % 18446744073709551616:=rfl
variable {x s d0 d1 d2 d3 d4 d5 d6 d7 c0 c1 c2 c3 c4 c5 c6 c7 r0 r1 r2 r3 r4 r5 r6 r7 x0 x1 x2 x3 x4 x5 x6 x7 y0 y1 y2 y3 y4 y5 y6 y7 p0 p1 p2 p3 p4 p5 p6 p7:Int}
end
section
section
variable {l:List bz} {R:Int} {f:Fo}
end
section
variable {l:List bz} {m:Zd}
end
section
variable {l:List bz} {R:Int} {f:Fo}
end
end
section
def df (r:Zd):Prop:= ∀x∈r,Rf x
def w0 :Rf 0:=by unfold Rf;omega
def U9 (n:Int):Rf (IntKind.u64.wrap n):=by rw[wU];unfold Rf;omega
def Qy (h:df r)(k:Int):Rf (rg r k):=by
 unfold rg;rw[List.getD_eq_getElem?_getD];by_cases e:eL k<dt r
 .rw[List.getElem?_eq_getElem e];exact h _ (List.getElem_mem e)
 .rw[List.getElem?_eq_none V1];exact w0
def df.set (h:df r){v:Int}(e:Rf v)(k:Nat):df (r.set k v):=λx g=>by
 rcases List.mem_or_eq_of_mem_set g with h1|h1
 .exact h x h1
 .rw[h1];exact e
def df.app {s:Zd}(h:df r)(k:df s):df (r++s):=λx e=>(List.mem_append.1 e).elim (h x) (k x)
def df.rep (n:Nat):df (List.replicate n 0):=λx e=>by rw[(List.mem_replicate.1 e).2];exact w0
def df.fill {R:Int}(h:df r):df (fill R r):=h.app (df.rep _)
def df.drop (h:df r)(n:Nat):df (r.drop n):=λx e=>h x (List.mem_of_mem_drop e)
def df.take (h:df r)(n:Nat):df (r.take n):=λx e=>h x (List.mem_of_mem_take e)
def aE1 {o:bz}(e:Sj o)(g:Rf x)(p:Rf y):Rf (app o x y):=by
 unfold Go.V.app;unfold Sj at e
 repeat' split
 all_goals first|exact U9 _|exact g|exact w0|(unfold Rf;omega)
def aW2 (n:Nat)(l:List bz):Prop:= ∀o∈l,VK n o/\Sj o
def aM9 (l:List bz): ∀s:FS,df s.1->(∀o∈l,Sj o)->df (Ud Yc l s).1:=by
 induction l with
 |nil=>intro s h _;exact h
 |cons o l p=>
  intro s h e;exact p (Yc o s) (h.set (aE1 (e o V2) (Qy h _) (Qy h _)) _) (λx g=>e x cI)
section
variable {l:List bz} {R:Int} {f:Fo}
def Dp : ∀(g:Fo),g.Ok->∀o∈g.unroll,o∈g.src/\0<o.1/\o.1<7
 | .nil,_,o,ho=>by cases ho
 | .op x r,h,o,ho=>by
  rcases List.mem_cons.1 ho with rfl|ho
  .exact⟨ZX,h.1⟩
  .obtain⟨p,q⟩:=Dp r h.2 o ho;exact⟨by simp[Fo.src,p],q⟩
 | .rep x b e r,h,o,ho=>by
  simp only[Fo.unroll]at ho;rcases List.mem_append.1 ho with ho|ho
  .obtain⟨u,v,ho⟩:=List.mem_flatten.1 ho;rw[(List.mem_replicate.1 v).2]at ho;have⟨p,q⟩:=Dp b h.2.1 o ho;exact⟨by simp[Fo.src,p],q⟩
  .obtain⟨p,q⟩:=Dp r h.2.2 o ho;exact⟨by simp[Fo.src,p],q⟩
def Prg.goodU (h:Prg R l f):aW2 (eL R) f.unroll:=λo p=>by
 have⟨e,g⟩:=Dp f h.ok o p;rw[h.src]at e;exact⟨h.regs o e g,h.ops.v o e⟩
def aN0 (l:List bz): ∀s:TS,df s.1->df s.2.1->(∀o∈l,Sj o)->df (Ud U0 l s).1/\df (Ud U0 l s).2.1:=by
 induction l with
 |nil=>intro s h k _;exact⟨h,k⟩
 |cons o l p=>
  intro s h k e;exact p (U0 o s) (h.set (aE1 (e o V2) (Qy h _) (Qy h _)) _) (k.set (Qy h _) _) (λx g=>e x cI)
end
end
section
def aQ0 {o:bz}{a:Zd}{t:Int}(g:df r)(e:df a)(p:Rf t):df (Mr o r a t).1/\df (Mr o r a t).2:=by
 unfold Mr;exact⟨g.set p _,((e.set w0 _).set (U9 _) _).set (U9 _) _⟩
section
variable {l:List bz} {R:Int} {f:Fo}
def ar8 (A:df t)(l:List bz): ∀s:BS,df s.1->df s.2.1->dt (Nu (Fg t) l s).1=dt s.1/\(dt (Nu (Fg t) l s).2.1)=dt s.2.1/\(Nu (Fg t) l s).2.2=s.2.2-dt l/\df (Nu (Fg t) l s).1/\df (Nu (Fg t) l s).2.1:=by
 induction l with
 |nil=>intro s h k;exact⟨rfl,rfl,rfl,h,k⟩
 |cons o l z=>
  intro s h k;have⟨p,q,u,v,w⟩:=z s h k;have e:=Ms o (Nu (Fg t) l s).1 (Nu (Fg t) l s).2.1 (rg t (((Nu (Fg t) l s).2.2-1:Nat):Int));have g:=aQ0 (o:=o) v w (Qy A (((Nu (Fg t) l s).2.2-1:Nat):Int));refine⟨e.1.trans p,e.2.trans q, ?_,g.1,g.2⟩;show(Nu (Fg t) l s).2.2-1=_;rw[u,List.length_cons];omega
end
end
section
def df.put {w:Zd}(h:df W)(k:df w)(o:Nat):df (put W o w):=(h.take o).app (k.app (h.drop _))
def df.seg (h:df W)(o n:Nat):df (seg W o n):=(h.drop o).take n
def aJ6 (x:Nat)(g a:Zd):df (PB x g a):=λv e=>by
 unfold PB at e;obtain⟨i,_,rfl⟩:=List.mem_map.1 e;exact U9 _
section
variable {c:Cx}
variable (h:c.Ok) (wT:df c.T)
include h wT
end
end
section
open Nat renaming le_refl -> aB
def ch :Nat->Nat->Nat
 |_,0=>1
 |0,_+1=>0
 |n+1,k+1=>ch n k+ch n (k+1)
def PN (n:Nat):ch n 0=1:=by cases n<;>rfl
def Ke (n k:Nat):ch (n+1) (k+1)=ch n k+ch n (k+1):=rfl
def PO : ∀n k,ch (n+1) (k+1)*(k+1)=ch n k*(n+1)
 |0,0=>rfl
 |0,k+1=>by rw[Ke];simp[ch]
 |n+1,0=>by
  have h:=PO n 0;rw[PN]at h;rw[Ke (n+1) 0,PN];omega
 |n+1,k+1=>by
  have e:=PO n k;have g:=PO n (k+1);rw[Ke (n+1) (k+1),Nat.add_mul,g,show k+1+1=(k+1)+1 from rfl,Nat.mul_add (ch (n+1) (k+1)),e,Nat.mul_one,Ke n k,Nat.mul_add (ch n k+ch n (k+1)) (n+1) 1,Nat.add_mul];omega
def TM : ∀{n k:Nat},k<=n->1<=ch n k
 |n,0,_=>by rw[PN];exact aB _
 |n+1,k+1,h=>by rw[Ke];have:=TM (n:=n) (k:=k) V1;omega
def PP : ∀{n k:Nat},n<k->ch n k=0
 |0,k+1,_=>rfl
 |n+1,k+1,h=>by rw[Ke,PP V1,PP V1]
def Vt (n:Nat):ch n n=1:=by
 induction n with
 |zero=>rfl
 |succ n e=>rw[Ke,e,PP V1]
def HB : ∀s a b,a+b=s->ch s a=ch s b
 |0,a,b,h=>by rw[show a=0 by omega,show b=0 by omega]
 |s+1,0,b,h=>by rw[show b=s+1 by omega,PN,Vt]
 |s+1,a+1,0,h=>by rw[show a=s by omega,PN,Vt]
 |s+1,a+1,b+1,h=>by
  rw[Ke,Ke,HB s a (b+1) V1,HB s (a+1) b V1];omega
def aU9 (d i:Nat):ch (d+i) i<=ch (d+(i+1)) (i+1):=by
 rw[show d+(i+1)=(d+i)+1 by omega,Ke];omega
def aa1 (d:Nat)(h:i<=j):ch (d+i) i<=ch (d+j) j:=by
 induction j with
 |zero=>rw[show i=0 by omega];exact aB _
 |succ j e=>
  by_cases hi:i=j+1
  .rw[hi];exact aB _
  .exact Nat.le_trans (e V1) (aU9 d j)
def Kw {s:Nat}(e:1<=s): ∀l,l+1<=ch (s+l) l
 |0=>by rw[PN];exact aB _
 |l+1=>by
  rw[show s+(l+1)=(s+l)+1 by omega,Ke];have:=Kw e l;have:=TM (n:=s+l) (k:=l+1) V1;omega
def yf :Nat:=1099511627776
def Xc (n k:Int):Int:=if n<0∨k<0∨n<k then 0 else((min yf (ch (eL n) (eL k)):Nat):Int)
def as2 (hi:1<=i):ch (d+(i-1)) (i-1)*(d+i) / i=ch (d+i) i:=by
 have:=PO (d+(i-1)) (i-1);rw[show i-1+1=i by omega,show d+(i-1)+1=d+i by omega]at this;rw[<-this];exact Nat.mul_div_cancel _ V1
structure IsRep (l s r:Nat):Prop where
 up:l<=ch (s+r) r
 low: ∀x,x<r->ch (s+x) x<l
def IsRep.eq {l s r e:Nat}(h:IsRep l s r)(g:IsRep l s e):r=e:=by
 rcases Nat.lt_trichotomy r e with k|k|k
 .have:=g.low _ k;have:=h.up;omega
 .exact k
 .have:=h.low _ k;have:=g.up;omega
def IsRep.le {l s r:Nat}(h:IsRep l s r)(e:1<=s):r<=l:=by
 rcases Nat.lt_or_ge l r with k|k
 .have:=h.low _ k;have:=Kw e l;omega
 .exact k
def aQ1 {l s r:Nat}(h:l<=ch (s+r) r)(h':r=0∨ch (s+(r-1)) (r-1)<l):IsRep l s r:=
 ⟨h,λx e=>by
  rcases h' with h'|h'
  .omega
  .exact Nat.lt_of_le_of_lt (aa1 s (show x<=r-1 by omega)) h'⟩
def spI (n c r:Int):Int:=max 1 (max (Xc (c+r-2) c) (n-Xc (c+r-1) (c-1)))
def PM {n:Nat}(h:k<=n):Xc (n:Int) (k:Int)=((min yf (ch n k):Nat):Int):=by
 unfold Xc;rw[Zh];rfl
def aL6 (n k:Int):0<=Xc n k/\Xc n k<=1099511627776:=by
 unfold Xc yf;split<;>omega
def aQ7 {n r:Nat}(C:2<=n)(A:1<=c)(p:IsRep n c r)(z:n<=65536):1<=spI n c r/\spI n c r<=n-1/\(c=1->spI n c r=n-1):=by
 have r1:1<=r:=by
  rcases Nat.eq_zero_or_pos r with h|h
  .have:=p.up;rw[h,PN]at this;omega
  .exact h
 have o:=p.low (r-1) V1
 have a1:Xc ((c:Int)+r-2) c<=(n:Int)-1:=by
  unfold Xc;split
  .omega
  .rename_i h;rw[show(eL ((c:Int)+r-2))=c+r-2 by omega,Int.toNat_natCast];have v:ch (c+(r-1)) (r-1)=ch (c+(r-1)) c:=HB _ _ _ V1
   have w:ch (c+r-2) c<=ch (c+(r-1)) c:=by
    obtain⟨e,rfl⟩: ∃e,c=e+1:=⟨c-1,V1⟩
    rw[show e+1+(r-1)=(e+1+r-2)+1 by omega,Ke];omega
   omega
 have u:1<=Xc ((c:Int)+r-1) (c-1):=by
  rw[show(c:Int)+r-1=((c+r-1:Nat):Int)by omega,show(c:Int)-1=((c-1:Nat):Int)by omega,PM V1];have:=TM (n:=c+r-1) (k:=c-1) V1;unfold yf;omega
 unfold spI;refine⟨V1,V1,λg=> ?_⟩;subst g
 have q:Xc (((1:Nat):Int)+r-1) (((1:Nat):Int)-1)=1:=by
  rw[show(((1:Nat):Int))+r-1=((r:Nat):Int)by omega,show(((1:Nat):Int))-1=((0:Nat):Int)by omega,PM V1,PN];rfl
 rw[q];omega
end
section
open List renaming getElem_mem -> aB
structure Mc where
 L:Int
 p:Int
 q:Int
 t:Zd
def Mf (a:Int×Int)(m:Mc):Option Mc:=
 if a.1=1 then(if 1<=a.2/\a.2<=65535/\m.p+a.2<=m.L then O {m with p:=m.p+a.2}else Y)
 else if a.1=2 then(if 0<=a.2/\a.2<dt m.t/\m.t.getD (eL a.2) 0<0 then O {m with t:=m.t.set (eL a.2) m.p}else Y)
 else if a.1=3 then(if 0<=a.2/\a.2<dt m.t/\0<=m.t.getD (eL a.2) 0 then O {m with p:=m.t.getD (eL a.2) 0}else Y)
 else if a.1=4 then(if 0<=a.2/\a.2<dt m.t/\0<=m.t.getD (eL a.2) 0 then O {m with t:=m.t.set (eL a.2) (-1)}else Y)
 else if a.1=5 then(if a.2=0/\m.q= -1/\m.p=m.L then O {m with q:=m.p}else Y)
 else if a.1=6 then(if a.2=0/\m.q= -1/\m.p=m.L-1 then O {m with q:=m.p}else Y)
 else if a.1=7 then(if a.2=0/\0<m.q/\m.p=m.q-1 then O {m with q:=m.p}else Y)
 else Y
inductive Run (nx:Mc->Option (Int×Int)):Mc->List (Int×Int)->Mc->Prop
 |nil (m:Mc):Run nx m [] m
 |cons {m m' m'':Mc} {a:Int×Int} {l:List (Int×Int)}:nx m=O a->Mf a m=O m'->Run nx m' l m''->Run nx m (a::l) m''
def Run.append {g:Mc->Option (Int×Int)}{m m' e:Mc}{l l':List (Int×Int)}(h:Run g m l m')(o:Run g m' l' e):Run g m (l++l') e:=by
 induction h with
 |nil=>exact o
 |cons a b _ p=>exact .cons a b (p o)
def Run.one {e:Mc->Option (Int×Int)}{m m':Mc}{a:Int×Int}(g:e m=O a)(o:Mf a m=O m'):Run e m [a] m':= .cons g o (.nil _)
def nK (t:Zd):Int:=t.foldl max (-1)
def AR (t:Zd)(x:Int):Nat:=t.findIdx λy=>Zc (y=x)
def DD (t:Zd):Nat:=t.countP λy=>Zc (y<0)
def M5 (t:Zd):Nat:=t.findIdx λy=>Zc (y<0)
def H6 (l s:Nat):Nat:=((List.range (l+1)).find? λr=>Zc (l<=ch (s+r) r)).getD 0
def Wi (l:Nat){s:Nat}(o:1<=s):IsRep l s (H6 l s):=by
 unfold H6;cases h:(List.range (l+1)).find? λr=>Zc (l<=ch (s+r) r)with
 |none=>
  have:=List.find?_eq_none.1 h l (List.mem_range.2 V1);have:=Kw o l;simp only[decide_eq_true_eq]at*;omega
 |some r=>
  have⟨e,g⟩:=List.find?_range_eq_some.1 h;refine⟨of_decide_eq_true e,λx p=> ?_⟩;have:=g.2 x p;simp only[Bool.not_eq_true',decide_eq_false_iff_not]at this;omega
def B6 (m:Mc):Option (Int×Int):=
 let e:=if m.q<0 then m.L else m.q
 if 0<=m.q/\e<=nK m.t then O (4,AR m.t (nK m.t))
 else if m.q=0 then Y
 else if m.q<0/\m.p=m.L then O (5,0)
 else if m.p=e-1 then(if 0<=m.q then O (7,0)else O (6,0))
 else if nK m.t<0 then(if e<=m.p then Y else O (2,0))
 else if m.p<nK m.t∨e<=m.p then O (3,AR m.t (nK m.t))
 else if nK m.t<m.p/\0<DD m.t then O (2,M5 m.t)
 else if nK m.t<m.p then O (1,e-1-m.p)
 else O (1,spI (e-nK m.t) (DD m.t+1) (H6 (eL (e-nK m.t)) (DD m.t+1)))
def vC (t:Zd): ∀x,x<=t.foldl max x/\(∀y∈t,y<=t.foldl max x)/\(t.foldl max x=x∨t.foldl max x∈t):=by
 induction t with
 |nil=>exact λx=>⟨Int.le_refl _,λy hy=>by(cases hy), .inl rfl⟩
 |cons z t g=>
  intro x;have⟨o,e,h3⟩:=g (max x z);rw[List.foldl_cons];refine⟨V1,λy hy=> ?_, ?_⟩
  .rcases List.mem_cons.1 hy with rfl|hy
   .omega
   .exact e y hy
  .rcases h3 with h3|h3
   .rw[h3];rcases Int.le_total x z with k|k
    .exact .inr (by rw[Int.max_eq_right k];exact List.mem_cons_self ..)
    .exact .inl (Int.max_eq_left k)
   .exact .inr (List.mem_cons_of_mem _ h3)
def Ji (o: -1<=x)(e: ∀y∈t,y<=x)(g:x= -1∨x∈t):nK t=x:=by
 have⟨a,b,c⟩:=vC t (-1);unfold nK
 have u:t.foldl max (-1)<=x:=by
  rcases c with c|c
  .omega
  .exact e _ c
 have v:x<=t.foldl max (-1):=by
  rcases g with h|h
  .omega
  .exact b _ h
 omega
def aR3 (g:0<=x)(e: ∀y∈t,y<x):nK t<x:=by
 have⟨a,b,c⟩:=vC t (-1);unfold nK;rcases c with c|c
 .omega
 .exact e _ c
def HS (h:y∈t.set k a):y∈t∨y=a:=List.mem_or_eq_of_mem_set h
def aB7 (o:0<=a)(e:k<dt t)(h: ∀y∈t,y<a):nK (t.set k a)=a:=
 Ji V1 (λy g=>by rcases HS g with k|k;exact Int.le_of_lt (h y k);omega) (.inr (List.mem_set e a))
def aB0 (e:k<dt t)(h: ∀y∈t,y<a):AR (t.set k a) a=k:=by
 unfold AR;rw[List.findIdx_eq (by rw[List.length_set];exact e)];refine⟨V2,λj g=> ?_⟩;have:=h t[j] (aB _);rw[List.getElem_set_ne V1];exact zA V1
def an3 (h:0<DD t): ∃e:M5 t<dt t,t[M5 t]<0:=by
 unfold DD at h;have⟨y,o,g⟩:=List.countP_pos_iff.1 h;have e:M5 t<dt t:=List.findIdx_lt_length_of_exists ⟨y,o,g⟩;refine⟨e,of_decide_eq_true (List.findIdx_getElem (w:=e))⟩
def av2 (g:0<=a)(e:k<dt t)(h:t[k]<0):DD (t.set k a)+1=DD t:=by
 unfold DD;rw[List.countP_set e,zB h,zA (show¬a<0 by omega)];have:0<t.countP λy=>Zc (y<0):=List.countP_pos_iff.2 ⟨_,aB e,zB h⟩
 simp only[if_true,Bool.false_eq_true,if_false];omega
end
section
open Int renaming reduceEq -> aB, toNat_natCast -> aD
open List renaming length_set -> bB, getD_eq_getElem?_getD -> bD, getElem_mem -> cB
def spF (n c:Nat):Nat:=eL (spI n c (H6 n c))
def al8 {n:Nat}(p:2<=n)(e:1<=c)(o:n<=65536):1<=spF n c/\spF n c+1<=n/\(c=1->spF n c+1=n)/\((spF n c:Nat):Int)=spI n c (H6 n c):=by
 have⟨q,u,g⟩:=aQ7 p e (Wi n e) o;unfold spF;exact⟨V1,V1,λh=>by have:=g h;omega,V1⟩
def hld (t:Zd):List Bool:=t.map λy=>Zc (0<=y)
def pt :Nat->Bool->Nat->Nat->Nat->List Bool->Bool->List (Int×Int)
 |0,_,_,_,_,_,_=>[]
 |f+1,Zb,n,c,_,h,e=>if n=1 then [(if e then 6 else 7,0)]else(2,((h.findIdx λb=> !b:Nat):Int))::pt f Za n c (h.findIdx λb=> !b) (h.set (h.findIdx λb=> !b) Za) e
 |f+1,Za,n,c,k,h,e=>if n<=1 then [(7,0),(4,(k:Int))]else(1,(spF n c:Int))::(pt f Zb (n-spF n c) (c-1) 0 h e++(3,(k:Int))::pt f Za (spF n c) c k h Zb)
def aw0 (t:Zd):((hld t).findIdx λb=> !b)=M5 t:=by
 unfold hld M5;rw[List.findIdx_map]
 congr 1
 funext y
 show(!Zc (0<=y))=Zc (y<0);by_cases h:0<=y
 .rw[zB h,Ze];rfl
 .rw[zA h,Zf];rfl
def av9 (t:Zd)(k:Nat)(e:0<=a):hld (t.set k a)=(hld t).set k Za:=by
 unfold hld;rw[List.map_set,zB e]
def RR (e:k<dt t):(t.set k a).getD k 0=a:=by
 rw[bD,List.getElem?_set_self e];rfl
structure At30 (L q a:Int)(n:Nat)(last:Bool):Prop where
 fa:0<=a
 fn:1<=n/\n<=65535
 fe:(if q<0 then L else q)=a+n
 fl:last=Za->q= -1
 fm:last=Zb->0<=q
 fL:a+n<=L
def aj7 : ∀(f:Nat),(∀(n c k:Nat) (t:Zd) (e:Bool) (L q a:Int),2*n<=f->At30 L q a n e->(∀y∈t,y<a)->(∀y∈t,-1<=y)->DD t=c->(2<=n->1<=c)->Run B6 ⟨L,a,q,t⟩ (pt f Zb n c k (hld t) e) ⟨L,a,a,t⟩)/\
  (∀(n c k:Nat) (t:Zd) (e:Bool) (L q a:Int),2*n<=f+1->At30 L q a n e->(n=1->e=Zb)->(∀y∈t,y<a)->(∀y∈t,-1<=y)->(v:k<dt t)->t[k]<0->DD t=c->Run B6 ⟨L,a,q,t.set k a⟩ (pt f Za n c k (hld (t.set k a)) e) ⟨L,a,a,t⟩)
 |0=>⟨λn c k t e L q a w K=>by have:=K.fn;omega,λn c k t e L q a w K=>by have:=K.fn;omega⟩
 |f+1=>by
  have⟨ihp,I⟩:=aj7 f;refine⟨λn c k t e L q a hf M o u N Q=> ?_,λn c k t e L q a hf M X o u v F N=> ?_⟩
  .obtain⟨A,hn,p,J,E,hL⟩:=M;have g:=aR3 (t:=t) A o;unfold pt;by_cases w:n=1
   .rw[zE w];cases e with
    |true=>
     have hq:=J rfl;rw[Zg]at p;rw[zE rfl];refine .one (m':=⟨L,a,a,t⟩) ?_ ?_
     .unfold B6;simp only;rw[zE (show q<0 by omega),Zh,Zh,Zh,Zg,Zh]
     .unfold Mf;simp only[aB,true_and,if_true,if_false];rw[Zg]
    |false=>
     have hq:=E rfl;rw[Zh]at p;rw[zF V4];refine .one (m':=⟨L,a,a,t⟩) ?_ ?_
     .unfold B6;simp only;rw[zF (show¬q<0 by omega),Zh,Zh,Zh,Zg,Zg]
     .unfold Mf;simp only[aB,true_and,if_true,if_false];rw[Zg]
   .rw[zF w,aw0,<-av9 t _ A];have D:0<DD t:=by have:=Q V1;omega
    have⟨hv,H⟩:=an3 D;refine .cons (m':=⟨L,a,q,t.set (M5 t) a⟩) ?_ ?_ (I n c (M5 t) t e L q a V1 ⟨A,hn,p,J,E,hL⟩ (λh=>absurd h w) o u hv H N)
    .unfold B6;simp only;rw[p,Zh,zF ZT,zF ZT,Zh];by_cases ht:nK t<0
     .rw[zE ht,Zh]
      have:M5 t=0:=by
       unfold M5;rw[List.findIdx_eq V1];refine⟨zB ?_,λj hj=>by omega⟩;have:=(vC t (-1)).2.1 _ (cB (show 0<(dt t) by omega));unfold nK at ht;omega
      rw[this];rfl
     .rw[zF ht,Zh,zE ⟨V1,D⟩]
    .unfold Mf;simp only[aB,true_and,if_false,if_true,aD];rw[bD,List.getElem?_eq_getElem hv,zE ⟨V1,V1,H⟩]
  .obtain⟨A,hn,p,J,E,hL⟩:=M;have g:=aB7 A v o;have z:=aB0 v o;have hfre:=av2 A v F;have hsl:k<dt (t.set k a):=by rw[bB];exact v
   have C:(t.set k a).set k (-1)=t:=by
    have Z:t[k]= -1:=by have:=u _ (cB v);omega
    rw[List.set_set,<-Z,List.set_getElem_self]
   unfold pt;by_cases w:n<=1
   .have hn1:n=1:=by omega
    have hq:=E (X hn1);rw[Zh]at p;rw[zE w];refine .cons (m':=⟨L,a,a,t.set k a⟩) ?_ ?_ (.one (m':=⟨L,a,a,t⟩) ?_ ?_)
    .unfold B6;simp only[g];rw[zF (show¬q<0 by omega),Zh,Zh,Zh,Zg,Zg]
    .unfold Mf;simp only[aB,true_and,if_false,if_true];rw[Zg]
    .unfold B6;simp only[g,z];rw[zF (show¬a<0 by omega),Zg]
    .unfold Mf;simp only[aB,true_and,if_false,if_true,aD,RR v,C];rw[zE (by rw[bB];omega)]
   .rw[zF w];have⟨m1,m2,m3,m4⟩:=al8 (n:=n) (c:=c) V1 V1 V1;generalize hm':spF n c=m at*;refine .cons (m':=⟨L,a+m,q,t.set k a⟩) ?_ ?_ (.append (m':=⟨L,a+m,a+m,t.set k a⟩) (ihp (n-m) (c-1) 0 (t.set k a) e L q (a+m) V1 ⟨V1,V1,V1,J,E,V1⟩ (λy hy=>(HS hy).elim (λh=>by have:=o y h;omega) λh=>by omega) (λy hy=>(HS hy).elim (λh=>u y h) λh=>by omega) V1 (λh=> ?_)) (.cons (m':=⟨L,a,a+m,t.set k a⟩) ?_ ?_ (I m c k t Zb L (a+m) a V1 ⟨A,V1,by rw[Zh],(λh=>by cases h),λ_=>by omega,V1⟩ (λ_=>rfl) o u v F N)))
    .unfold B6;simp only[g];rw[p,Zh,zF ZT,zF ZT,Zh,Zh,Zh,Zh,Zh,show a+(n:Int)-a=(n:Int)by omega,aD,show((DD (t.set k a):Nat):Int)+1=(c:Int)by omega,show DD (t.set k a)+1=c by omega,m4]
    .unfold Mf;simp only[aB,true_and,if_true];rw[Zg]
    .by_cases V:c=1
     .have:=m3 V;omega
     .omega
    .unfold B6;simp only[g,z];rw[zF (show¬a+(m:Int)<0 by omega),Zh,Zh,Zh,Zh,Zh,Zg]
    .unfold Mf;simp only[aB,true_and,if_false,if_true,aD,RR v];rw[zE (by rw[bB];omega)]
end
section
open Int renaming toNat_natCast -> bD
open List renaming getElem?_eq_getElem -> aB, getElem?_eq_none -> cB, map_congr_left -> cD
open Nat renaming mul_div_cancel -> aD, pow_succ -> bB, mul_le_mul_left -> cK, one_lt_two_pow -> cL, pow_le_pow_right -> cM
structure IsStr (k s d:Nat):Prop where
 pw: ∃e,d=2 ^ e
 gt:k<s*d
 lo:d=1∨s*(d / 2)<=k
def IsStr.pos {s:Nat}(h:IsStr k s d):1<=d:=by
 obtain⟨e,rfl⟩:=h.pw;exact Nat.one_le_two_pow
def IsStr.eq {s:Nat}(h:IsStr k s d)(o:IsStr k s d'):d=d':=by
 have p: ∀{d d':Nat},IsStr k s d->IsStr k s d'->¬d<d':=λ{d d'} h o q=>by
  obtain⟨e,rfl⟩:=h.pw;obtain⟨g,rfl⟩:=o.pw;have C:e<g:=(Nat.pow_lt_pow_iff_right V1).1 q;have u:2 ^ e<=2 ^ (g-1):=cM V1 V1
  have v:2 ^ g / 2=2 ^ (g-1):=by
   conv=>lhs;rw[show g=(g-1)+1 by omega,bB]
   exact aD _ V1
  have w:=h.gt;have z:s*2 ^ e<=s*2 ^ (g-1):=cK _ u;have A:1<2 ^ g:=cL V1;rcases o.lo with h6|h6
  .omega
  .rw[v]at h6;omega
 have:=p h o;have:=p o h;omega
def wY (k s:Nat):Nat:=2 ^ (((List.range 17).find? λe=>Zc (k<s*2 ^ e)).getD 0)
def wd {s:Nat}(u:k<65536)(v:1<=s):IsStr k s (wY k s):=by
 unfold wY;cases h:(List.range 17).find? λe=>Zc (k<s*2 ^ e)with
 |none=>
  have:=List.find?_eq_none.1 h 16 (List.mem_range.2 V1);simp only[decide_eq_true_eq]at this;omega
 |some e=>
  have⟨g,o⟩:=List.find?_range_eq_some.1 h;have g:=of_decide_eq_true g;refine⟨⟨e,rfl⟩,g, ?_⟩;rcases Nat.eq_zero_or_pos e with he|he
  .left;subst he;rfl
  .right;have p:=o.2 (e-1) V1;simp only[Bool.not_eq_true',decide_eq_false_iff_not]at p;show s*(2 ^ e / 2)<=k
   have q:2 ^ e / 2=2 ^ (e-1):=by
    conv=>lhs;rw[show e=(e-1)+1 by omega,bB]
    exact aD _ V1
   rw[q];omega
def IsStr.next {s:Nat}(h:IsStr k s d)(o:IsStr (k+1) s d'):d ∣ d':=by
 obtain⟨e,rfl⟩:=h.pw;obtain⟨g,rfl⟩:=o.pw;refine Nat.pow_dvd_pow 2 ?_;rcases Nat.lt_or_ge g e with u|hge
 .exfalso;have p:2 ^ g<=2 ^ (e-1):=cM V1 V1
  have q:2 ^ e / 2=2 ^ (e-1):=by
   conv=>lhs;rw[show e=(e-1)+1 by omega,bB]
   exact aD _ V1
  have w:1<2 ^ e:=cL V1;have v:s*2 ^ g<=s*2 ^ (e-1):=cK _ p;have z:=o.gt;rcases h.lo with h7|h7
  .omega
  .rw[q]at h7;omega
 .exact hge
def ax8 (d:Nat)(t:Zd):Zd:=t.filter λx=>Zc (0<=x/\x % (d:Int)≠0)
def Uv (d:Nat)(t:Zd):Option Int:=(ax8 d t).min?
def rB (e:Bool)(m:Mc):Option (Int×Int):=
 let d:=wY (eL m.L) (dt m.t)
 if m.q<0 then
  (if m.p<m.L then O (1,m.L-m.p)
  else match Uv d m.t with
   |some x=>O (4,AR m.t x)
   |none=>if m.L % (d:Int)=0/\m.L∉m.t/\(-1:Int)∈m.t then O (2,AR m.t (-1))else if e then O (5,0)else Y)
 else if 0<=nK m.t/\m.q<=nK m.t then O (4,AR m.t (nK m.t))
 else if m.q=0 then Y
 else if m.p=m.q-1 then O (7,0)
 else if 0<=nK m.t/\(m.p<nK m.t∨m.q<=m.p)then O (3,AR m.t (nK m.t))
 else if m.p<m.q then O (1,m.q-1-m.p)
 else Y
structure Gd (k:Nat)(t:Zd)(d:Nat):Prop where
 ins: ∀x∈t,x= -1∨(0<=x/\x<k/\x % (d:Int)=0)
 all: ∀j:Nat,j<k->j % d=0->(j:Int)∈t
 one: ∀i j (hi:i<dt t) (hj:j<dt t),t[i]=t[j]->0<=t[i]->i=j
def Fb (h:x∈t): ∃e:AR t x<dt t,t[AR t x]=x:=by
 have e:AR t x<dt t:=List.findIdx_lt_length_of_exists ⟨x,h,zB rfl⟩;exact⟨e,of_decide_eq_true (List.findIdx_getElem (w:=e))⟩
def frd (d n:Nat)(t:Zd):Zd:=t.map λx=>if 0<=x/\x<(n:Int)/\x % (d:Int)≠0 then-1 else x
def RM (d:Nat):Nat->Zd->List (Int×Int)×Zd
 |0,t=>([],t)
 |n+1,t=>if n % d≠0/\(n:Int)∈(RM d n t).2 then((RM d n t).1++[(4,(AR (RM d n t).2 n:Int))],(RM d n t).2.set (AR (RM d n t).2 n) (-1))else RM d n t
def aV6 (t:Zd):frd d 0 t=t:=by
 unfold frd
 conv=>rhs;rw[<-List.map_id t]
 refine cD λx e=> ?_
 rw[Zh];rfl
def HJ {n:Nat}(hi:i<dt t):(frd d n t)[i]?=O (if 0<=t[i]/\t[i]<(n:Int)/\t[i] % (d:Int)≠0 then-1 else t[i]):=by
 unfold frd;rw[List.getElem?_map,aB hi];rfl
def sG {n:Nat}:dt (frd d n t)=dt t:=by unfold frd;rw[List.length_map]
def VC {n:Nat}(o:0<=x):x∈frd d n t↔x∈t/\¬(x<(n:Int)/\x % (d:Int)≠0):=by
 unfold frd;rw[List.mem_map];constructor
 .rintro⟨y,g,e⟩;by_cases h:0<=y/\y<(n:Int)/\y % (d:Int)≠0
  .rw[zE h]at e;omega
  .rw[zF h]at e;subst e;exact⟨g,V1⟩
 .rintro⟨g,h⟩;exact⟨x,g,zF V1⟩
def RN {n:Nat}(v: ∀i j (hi:i<dt t) (A:j<dt t),t[i]=t[j]->0<=t[i]->i=j)(C:n % d≠0)(w:(n:Int)∈frd d n t):(frd d n t).set (AR (frd d n t) n) (-1)=frd d (n+1) t:=by
 have⟨p,e⟩:=Fb w;generalize AR (frd d n t) n=k at*;have u:k<dt t:=by rw[sG]at p;exact p
 have o:=HJ (d:=d) (n:=n) u;rw[aB p,e]at o;injection o with o
 have q:t[k]=(n:Int):=by
  by_cases h:0<=t[k]/\t[k]<(n:Int)/\t[k] % (d:Int)≠0
  .rw[zE h]at o;omega
  .rw[zF h]at o;exact o.symm
 apply List.ext_getElem?;intro i;by_cases hi:i<dt t
 .rw[HJ hi,List.getElem?_set];by_cases g:k=i
  .subst g;rw[zE rfl,zE p,q,zE ⟨V1,V1,V1⟩]
  .rw[zF g,HJ hi];have z:t[i]≠(n:Int):=λh=>g (v k i u hi (by rw[q,h]) V1)
   by_cases h:0<=t[i]/\t[i]<(n:Int)/\t[i] % (d:Int)≠0
   .rw[zE h,Zg]
   .rw[zF h,Zh]
 .rw[cB (by rw[List.length_set,sG];omega),cB (by rw[sG];omega)]
def ac3 {n:Nat}(h: ¬(n % d≠0/\(n:Int)∈frd d n t)):frd d n t=frd d (n+1) t:=by
 unfold frd at*;refine cD λx o=> ?_
 by_cases g:0<=x/\x<(n:Int)/\x % (d:Int)≠0
 .rw[zE g,Zg]
 .rw[zF g,zF];intro p;have e:x=(n:Int):=by omega
  subst e;refine h ⟨V1, ?_⟩;exact List.mem_map.2 ⟨_,o,zF g⟩
def Si :x∈ax8 d t↔x∈t/\0<=x/\x % (d:Int)≠0:=by
 unfold ax8;rw[List.mem_filter,decide_eq_true_eq]
def Sg (h:x∈t)(e:0<=x/\x % (d:Int)≠0)(g: ∀y∈t,0<=y->y % (d:Int)≠0->x<=y):Uv d t=O x:=by
 unfold Uv;rw[List.min?_eq_some_iff];exact⟨Si.2 ⟨h,e⟩,λy o=>by have:=Si.1 o;exact g y this.1 this.2.1 this.2.2⟩
def Mm (h: ∀y∈t,0<=y->y % (d:Int)=0):Uv d t=Y:=by
 unfold Uv
 have:ax8 d t=[]:=List.filter_eq_nil_iff.2 λx e=>by
  have:=h x e;simp only[decide_eq_true_eq];omega
 rw[this];rfl
def aj6 {k d s:Nat}{t:Zd}{en:Bool}(u:d=wY k s)(v:dt t=s)(p: ∀i j (hi:i<dt t) (C:j<dt t),t[i]=t[j]->0<=t[i]->i=j): ∀n,(RM d n t).2=frd d n t/\Run (rB en) ⟨k,k,-1,t⟩ (RM d n t).1 ⟨k,k,-1,frd d n t⟩
 |0=>by rw[aV6];exact⟨rfl, .nil _⟩
 |n+1=>by
  have⟨g,o⟩:=aj6 (en:=en) u v p n;unfold RM;rw[g];by_cases h:n % d≠0/\(n:Int)∈frd d n t
  .rw[zE h,RN p h.1 h.2];refine⟨rfl,o.append (.one ?_ ?_)⟩
   .unfold rB;simp only;rw[Zg,Zh,sG,v,bD,<-u,Sg h.2 V1 λy z w A=>by have:=(VC w).1 z;omega]
   .obtain⟨q,e⟩:=Fb h.2;unfold Mf;simp only[Int.reduceEq,if_false,if_true,bD];rw[List.getD_eq_getElem?_getD,aB q,e];simp only[Option.getD_some];rw[Zg,RN p h.1 h.2]
  .rw[zF h,<-ac3 h];exact⟨g,o⟩
def Ml : ∀(N:Nat) (l:List Nat),l.Nodup->(∀x∈l,x<N)->dt l<=N
 |0,l,_,h=>by
  cases l with
  |nil=>exact Nat.le_refl _
  |cons x r=>have:=h x (List.mem_cons_self ..);omega
 |N+1,l,o,h=>by
  by_cases p:N∈l
  .have:=Ml N (l.erase N) (o.erase N) λx g=>by
    have q:=h x (List.mem_of_mem_erase g);have u:x≠N:=λe=>by subst e;exact(List.Nodup.not_mem_erase o) g
    omega
   rw[List.length_erase_of_mem p]at this;omega
  .have:=Ml N l o λx g=>by
    have q:=h x g;have u:x≠N:=λe=>p (e▸g)
    omega
   omega
end
section
open Go.IntKind renaming wrap -> zH, i64 -> zI, u64 -> zJ
open Int renaming natCast_add -> aB, eq_ofNat_of_zero_le -> cB
open IntKind renaming bits -> cD
open Nat renaming min_eq_left -> aD, mul_le_mul -> bB, min_eq_right -> bD, add_sub_cancel -> cK
def wUn {n:Nat}(h:n<18446744073709551616):zH zJ (n:Int)=(n:Int):=bt V1
def aY7 {n:Nat}(h:n<=9223372036854775807):zH zI (n:Int)=(n:Int):=ad V1
def Iz {a:Nat}(p:a<18446744073709551616):uB .u64 (· &&& ·) (a:Int) 4294967295=((a % 4294967296:Nat):Int):=by
 have e:BitVec.ofInt 64 (a:Int)&&& BitVec.ofInt 64 4294967295=BitVec.ofNat 64 (a % 4294967296):=by
  apply BitVec.eq_of_toNat_eq;rw[BitVec.toNat_and,BitVec.toNat_ofInt,BitVec.toNat_ofInt,BitVec.toNat_ofNat];have g:((a:Int) % ((2 ^ 64:Nat):Int)).toNat=a:=by omega
  have o:((4294967295:Int) % ((2 ^ 64:Nat):Int)).toNat=2 ^ 32-1:=by decide
  rw[g,o,Nat.and_two_pow_sub_one_eq_mod];omega
 unfold uB;show zH zJ ((BitVec.ofInt 64 (a:Int)&&& BitVec.ofInt 64 4294967295).toNat:Int)=_;rw[e,BitVec.toNat_ofNat,Zk];omega
def RJ (a:Nat):Int.fdiv (a:Int) (2 ^ (min (Int.toNat 32) (cD .u64)))=((a / 4294967296:Nat):Int):=by
 rw[show(2:Int) ^ (min (Int.toNat 32) (cD .u64))=4294967296 from rfl,Int.fdiv_eq_ediv_of_nonneg _ V1];rfl
def aX0 {a:Nat}(o:a<=1099511627776)(g:b<=4194304):pM (a:Int) (b:Int)=O (0,((a*b:Nat):Int)):=by
 have u:a / 4294967296*b<=256*4194304:=bB V1 g;have v:a % 4294967296*b<=4294967295*4194304:=bB V1 g;have w:a*b<=1099511627776*4194304:=bB o g;have e: ∀{n:Nat},n<18446744073709551616->IntKind.u64.wrap (n:Int)=(n:Int):=λh=>bt V1
 unfold pM;rw[RJ a,RJ b,Iz (a:=a) V1,Iz (a:=b) V1,show b / 4294967296=0 by omega,show b % 4294967296=b by omega];simp only[<-Int.natCast_mul];rw[e (n:=a % 4294967296*b) V1,e (n:=a / 4294967296*b) V1,e (n:=a / 4294967296*0) V1,e (n:=a % 4294967296*0) V1,e (n:=a*b) V1,RJ];simp only[<-aB];generalize a / 4294967296*b=p at*;generalize a % 4294967296*b=q at*;rw[e (n:=p+q / 4294967296) V1,RJ,Iz V1];simp only[<-aB,Nat.mul_zero,Nat.add_zero,Nat.zero_add];rw[e (n:=(p+q / 4294967296) % 4294967296) V1,RJ,e (n:=(p+q / 4294967296) / 4294967296) V1];simp only[<-aB];rw[e V1,show(p+q / 4294967296) / 4294967296+(p+q / 4294967296) % 4294967296 / 4294967296=0 by omega];rfl
def aV0 {a:Nat}(e:a<18446744073709551616)(g:1<=b):pL 0 (a:Int) (b:Int)=O (((a / b:Nat):Int),((a % b:Nat):Int)):=by
 unfold pL;have:=Nat.div_le_self a b;rw[Ze,zD,Ze,zD,zB rfl,zC,Zf,cf,cf,show Int.tdiv (a:Int) (b:Int)=((a / b:Nat):Int)from rfl,show Int.tmod (a:Int) (b:Int)=((a % b:Nat):Int)from rfl,wUn (Nat.lt_of_le_of_lt this e)]
def ei {a:Nat}(e:a<=1099511627776)(g:b<=4194304)(hi:1<=i/\i<=4194304):tw (a:Int) (b:Int) (i:Int)=O ((min yf (a*b / i):Nat):Int):=by
 have o:a*b<=1099511627776*4194304:=bB e g;have p:a*b / i<=a*b:=Nat.div_le_self _ _;unfold tw yf;rw[bt (n:=(a:Int)) V1,bt (n:=(b:Int)) V1,bt (n:=(i:Int)) V1,aX0 e g,zG,Ze,zD,aV0 V1 hi.1,zG];generalize a*b / i=q at*;by_cases h:1099511627776<q
 .rw[Zf,zC,aD V1];rfl
 .rw[Ze,zD,bD V1,Zi]
def aL7 (hi:1<=i)(e:ch (d+(i-1)) (i-1)<yf):min yf (min yf (ch (d+(i-1)) (i-1))*(d+i) / i)=min yf (ch (d+i) i):=by
 rw[bD (Nat.le_of_lt e),as2 hi]
def TP {n:Nat}(z:2*k<=n)(A:n<=2097152): ∀f:Int×Int->Option ((Int×Int)⊕Int),(∀i c:Nat,1<=i->i<=k->c<yf->c<=yf->f ((i:Int),(c:Int))=O (.inl (((i+1:Nat):Int),((min yf (c*(n-k+i) / i):Nat):Int))))->(∀i c:Nat,(k<i∨yf<=c)->i<=k+1->c<=yf->f ((i:Int),(c:Int))=O (.inr (c:Int)))->am f cv (1,1)=O ((min yf (ch n k):Nat):Int):=by
 intro f v w;refine Qf (λs=> ∃i:Nat,s=((i:Int),((min yf (ch (n-k+(i-1)) (i-1)):Nat):Int))/\1<=i/\i<=k+1) (λs=>k+1-eL s.1) ⟨1, ?_,V1,V1⟩ V3 ?_
 .rw[show 1-1=0 from rfl,PN];rfl
 .rintro s ⟨i,rfl,g,q⟩;by_cases hi:i<=k/\ch (n-k+(i-1)) (i-1)<yf
  .left;refine⟨_,v i _ g hi.1 V1 (Nat.min_le_left _ _),⟨i+1, ?_,V1,V1⟩,by simp only;omega⟩;rw[aL7 g hi.2];rfl
  .right;rw[w i _ V1 q (Nat.min_le_left _ _)]
   congr 2
   have e:n-k+k=n:=by omega
   by_cases o:i=k+1
   .subst o;rw[cK,e]
   .have p:yf<=ch (n-k+(i-1)) (i-1):=by omega
    have u:=aa1 (n-k) (show i-1<=k by omega);rw[e]at u;rw[aD p,aD V1]
def as1 (n k:Nat)(e:k<=n):ch n (min k (n-k))=ch n k:=by
 rcases Nat.le_total k (n-k)with h|h
 .rw[aD h]
 .rw[bD h];exact HB n _ _ V1
def Bq {n k:Int}(A:n<=2097152):lR n k=O (Xc n k):=by
 unfold lR Xc;by_cases g:n<0
 .rw[zB g,zE (.inl g)];rfl
 by_cases p:k<0
 .rw[zA g,zB p,zE (.inr (.inl p))];rfl
 by_cases q:n<k
 .rw[zA g,zA p,zB q,zE (.inr (.inr q))];rfl
 rw[zA g,zA p,zA q,Zh];simp only[zD];obtain⟨n,rfl⟩:=cB (show 0<=n by omega);obtain⟨k,rfl⟩:=cB (show 0<=k by omega)
 have w:min (k:Int) (zH zI ((n:Int)-(k:Int)))=((min k (n-k):Nat):Int):=by
  rw[Zi];omega
 have u:=TP (n:=n) (k:=min k (n-k)) V1 V1 (nS (n:Int) (k:Int)) (λi c z e v o=>by
  unfold nS;unfold yf at v o;simp only[w];rw[Zf,zC,zB (show(c:Int)<1099511627776 by omega),zC,ad (n:=(n:Int)-((min k (n-k):Nat):Int)) V1,ad (n:=(n:Int)-((min k (n-k):Nat):Int)+(i:Int)) V1,show(n:Int)-((min k (n-k):Nat):Int)+(i:Int)=((n-min k (n-k)+i:Nat):Int)by omega,ei o V1 V1,zG,Zi]
  rfl) (λi c h hi v=>by
  unfold nS;unfold yf at h;simp only[w];rcases h with h|h
  .rw[Ze,zD]
  .by_cases e:(i:Int)<=((min k (n-k):Nat):Int)
   .rw[zB e,zC,Ze,zD]
   .rw[zA e,zD])
 rw[u,as1 n k V1];rfl
def aw5 {r s:Nat}(g:1<=s/\s<=1048576)(e:r<=65536):tT (r:Int) (s:Int)=O ((min yf (ch (s+r) r):Nat):Int):=by
 unfold tT;rw[Ze,zD,Zi,Bq V1,show(s:Int)+(r:Int)=((s+r:Nat):Int)by omega,PM V1,HB (s+r) s r rfl];rfl
def X4 {l s:Nat}(C:l<65536)(q:1<=s/\s<=1048576): ∃r:Nat,Ay (l:Int) (s:Int)=O ((r:Int),0)/\IsRep l s r:=by
 unfold Ay Cm;rw[Ze,zD,Ze,zD,Zf,zC,Zf];simp only[zG,Bool.not_true,zD];unfold Cl
 obtain⟨c,e,r,rfl,w⟩:=qC (f:=xh (l:Int) (s:Int)) (a:=(0,(l:Int))) (λa=> ∃g hi:Nat,a=((g:Int),(hi:Int))/\g<=hi/\hi<=l/\l<=ch (s+hi) hi/\(g=0∨ch (s+(g-1)) (g-1)<l)) (λa=>(a.2-a.1).toNat) (λc=> ∃r:Nat,c=(r:Int)/\IsRep l s r) ⟨0,l,rfl,V1,V1,by have:=Kw q.1 l;omega, .inl rfl⟩ V3 (by
  rintro a ⟨g,hi,rfl,z,A,o,p⟩;unfold xh A0;simp only;by_cases h:g<hi
  .have u:zH zI (Int.tdiv (zH zI ((g:Int)+(hi:Int))) 2)=(((g+hi) / 2:Nat):Int):=by
    rw[ad (n:=(g:Int)+(hi:Int)) V1,<-aB,show Int.tdiv ((g+hi:Nat):Int) 2=(((g+hi) / 2:Nat):Int)from rfl,aY7 V1]
   rw[Zf,zC,u,aw5 q V1];simp only[zG];by_cases v:l<=ch (s+(g+hi) / 2) ((g+hi) / 2)
   .rw[zB (by unfold yf;omega),zC];exact .inl ⟨_,rfl,⟨g,(g+hi) / 2,rfl,V1,V1,v,p⟩,by simp only;omega⟩
   .rw[zA (by unfold yf;omega),zD,Zi];exact .inl ⟨_,rfl,⟨(g+hi) / 2+1,hi,rfl,V1,V1,o, .inr (by rw[cK];omega)⟩,by simp only;omega⟩
  .rw[Ze,zD];have:g=hi:=by omega
   subst this
   exact .inr ⟨_,rfl,g,rfl,aQ1 o p⟩)
 rw[e];exact⟨r,rfl,w⟩
def XA (a b:Int):sw [1,a,b]=O (max 1 (max a b)):=by
 have e:sw [1,a,b]=O (max (max (max 1 1) a) b):=rfl;rw[e]
 congr 1
 omega
def al9 {n:Nat}(q:2<=n/\n<65536)(e:1<=c/\c<=1048576):ya (n:Int) (c:Int)=O (spI n c (H6 n c),0):=by
 obtain⟨r,o,p⟩:=X4 (l:=n) (s:=c) q.2 e;have g:=Wi n e.1;have:r=H6 n c:=p.eq g;subst this;have C:=g.le e.1;have A:=aL6 ((c:Int)+(H6 n c:Int)-1) ((c:Int)-1);have u:zH zI ((c:Int)+(H6 n c:Int))=(c:Int)+(H6 n c:Int):=ad V1;have v:zH zI ((c:Int)+(H6 n c:Int)-2)=(c:Int)+(H6 n c:Int)-2:=ad V1;have w:zH zI ((c:Int)+(H6 n c:Int)-1)=(c:Int)+(H6 n c:Int)-1:=ad V1;have z:zH zI ((c:Int)-1)=(c:Int)-1:=ad V1;unfold ya;rw[Ze,zD,o];simp only[zG];rw[zA V2,zD,u,v,w,z,Bq V1,Bq V1];simp only[zG];rw[Zi,XA];rfl
end
section
open List renaming findIdx_append -> aB, findIdx_eq_length_of_false -> aD, findIdx_singleton -> bB
def aB6 (l:Zd)(x:Int):nK (l++[x])=max (nK l) x:=by
 unfold nK;rw[List.foldl_append];rfl
def an0 (l:Zd): -1<=nK l:=(vC l (-1)).1
def aR4 (l:Zd)(h:y∈l):y<=nK l:=(vC l (-1)).2.1 _ h
def QN (h:0<=nK l):nK l∈l:=by
 rcases(vC l (-1)).2.2 with k|k
 .unfold nK at*;omega
 .exact k
def aA8 (h:x∉l):AR (l++[x]) x=dt l:=by
 unfold AR;have o:l.findIdx (λy=>Zc (y=x))=dt l:=aD λy g=>zA λe=>h (e▸g)
 rw[aB,Zh,bB,zB rfl];simp
def aA9 (h:y∈l):AR (l++[x]) y=AR l y:=by
 unfold AR;have:=(Fb h).1;unfold AR at this;rw[aB,zE this]
def av1 (l:Zd)(x:Int):DD (l++[x])=DD l+(if x<0 then 1 else 0):=by
 unfold DD;rw[List.countP_append,List.countP_singleton];by_cases h:x<0
 .rw[zB h,zE rfl,zE h]
 .rw[zA h,zF V2,zF h]
def VD (l:Zd):DD l<=dt l:=List.countP_le_length
def aV7 (h:DD l=0): ∀y∈l,0<=y:=λy e=>by
 have:=List.countP_eq_zero.1 h y e;simp only[decide_eq_true_eq]at this;omega
def aC0 (h:DD l=0)(e:x<0):M5 (l++[x])=dt l:=by
 unfold M5;have o:l.findIdx (λy=>Zc (y<0))=dt l:=aD λy g=>zA (by have:=aV7 h y g;omega)
 rw[aB,Zh,bB,zB e];simp
def QS (h:0<DD l):M5 (l++[x])=M5 l:=by
 unfold M5;have:=(an3 h).1;unfold M5 at this;rw[aB,zE this]
def Te (t:Zd):Int:=nK t
def Tg (t:Zd):Int:=if nK t<0 then 0 else(AR t (nK t):Int)
def Tf (t:Zd):Int:=(DD t:Int)
def an5 (t:Zd):Int:=if DD t=0 then-1 else(M5 t:Int)
def aw6 {L p q:Int}(H:dt t<1000000000):tU L p q t=O (p,q,t,(if q<0 then L else q),Te t,Tg t,Tf t,an5 t):=by
 unfold tU
 have D:((cond (Zc (q<0)) (O ((p,q,t,p,q,t,L))) (O ((p,q,t,p,q,t,q)))):Option (Int×Int×(Zd)×Int×Int×(Zd)×Int))=O (p,q,t,p,q,t,(if q<0 then L else q)):=by
  rw[ag];split<;>rfl
 rw[D,zG];generalize (if q<0 then L else q)=e
 have v:=eZ (f:=mf (p,q,t,p,q,t,e)) (n:=dt t) (λi=>(p,q,t,p,q,t,e,Te (t.take i),Tg (t.take i),Tf (t.take i),an5 (t.take i))) (c:=(p,q,t,p,q,t,e,Te t,Tg t,Tf t,an5 t)) V1
  (λi hi=>by
   have g:dt (t.take i)=i:=by rw[List.length_take];omega
   have E:=VD (t.take i);have F:=an0 (t.take i);simp only[mf];rw[Zf,zC,cg hi,List.take_succ_eq_append_getElem hi,zG];generalize t[i]=x;generalize I:t.take i=u at*;rw[ad (n:=(i:Int)+1) V1];unfold Te Tg Tf an5;rw[ad (n:=(DD u:Int)+1) V1,aB6,av1];by_cases C:nK u<x
   .rw[zB C,zC,Int.max_eq_right V1,zF (show¬x<0 by omega),zF (show¬x<0 by omega),aA8 (λh=>by have:=aR4 u h;omega),g];simp only[Nat.add_zero]
    have:(if DD u=0 then(-1:Int)else(M5 (u++[x]):Int))=if DD u=0 then(-1:Int)else(M5 u:Int):=by
     split
     .rfl
     .rw[QS V1]
    rw[this];rfl
   .rw[zA C,zD,Int.max_eq_left V1]
    have A:(if nK u<0 then(0:Int)else(AR (u++[x]) (nK u):Int))=if nK u<0 then(0:Int)else(AR u (nK u):Int):=by
     split
     .rfl
     .rw[aA9 (QN V1)]
    rw[A];by_cases o:x<0
    .rw[zB o,zC,zE o,zF (show¬DD u+1=0 by omega)];by_cases z:DD u=0
     .rw[zE z,Zf,zC,aC0 z o,g];rfl
     .rw[zF z,Ze,zD,QS V1];rfl
    .rw[zA o,zD,zF o];simp only[Nat.add_zero]
     have:(if DD u=0 then(-1:Int)else(M5 (u++[x]):Int))=if DD u=0 then(-1:Int)else(M5 u:Int):=by
      split
      .rfl
      .rw[QS V1]
     rw[this]
     rfl)
  (by
   simp only[mf]
   rw[zA V2,zD,List.take_length])
 rw[List.take_zero]at v;have w:am (mf (p,q,t,p,q,t,e)) cv (0,p,q,t,p,q,t,e,-1,0,0,-1)=_:=v;rw[w];rfl
def Th (h: ¬nK t<0):Tg t=(AR t (nK t):Int):=zF h
def aC1 (h: ¬DD t=0):an5 t=(M5 t:Int):=zF h
def aU4 :Option (Int×Int)->Int×Int×Bool
 |none=>(0,0,Zb)
 |some a=>(a.1,a.2,Za)
section
variable {c:Cx}
def aF3 (h:c.Ok)(g:c.mode≠3)(hi:Inv c s):du c.fixed c.tp c.sl c.ns c.mode c.R c.Q c.len c.words s.L s.p s.q s.c0 s.c1 s.c2 s.c3 s.z c.X c.T c.l c.k c.P c.tk (c.off 8:Int) c.ns (dt c.X:Int) s.lv s.pk c.words s.W=O (s.p,s.q,mL c s.W):=by
 unfold du;rw[Ie h g hi.w λk e=>by have:=hi.tag k e;have:=hi.L;omega];rfl
def qT (c:Cx)(s:Dy):Mc:=⟨s.L,s.p,s.q,mL c s.W⟩
def Uw (h:c.Ok)(J:c.mode≠3)(hn:1<=c.ns)(hi:Inv c s)(g:Int)(en N:Bool):mV g en N c.fixed c.tp c.sl c.ns c.mode c.R c.Q c.len c.words s.L s.p s.q s.c0 s.c1 s.c2 s.c3 s.z c.X c.T c.l c.k c.P c.tk (c.off 8:Int) c.ns (c.X.length:Int) s.lv s.pk c.words s.W=O (aU4 (B6 (qT c s))):=by
 have hns:=h.ns;have V:=hi.L;have hp:=hi.p;have M:=hi.q;have I:(mL c s.W).length=c.ns.toNat:=qH;have v:=If (c:=c) (W:=s.W) hi.tag;have K:=(xO h J (k:=0) V1).2.2;unfold mV fP gr jl;simp only[zG];rw[aF3 h J hi];simp only[zG];unfold A1;rw[C5 V hp M V1 v];simp only[zG,cb];rw[Zf,Bool.not_true,zD,aw6 V1];simp only[zG,mC,jO,jG,vq,og,oh,oi,oj,ol,om,oo,oq,iT,rn,qe,qf];unfold B6 qT Te Tf;simp only;have hg:=an0 (mL c s.W)
 have ht:nK (mL c s.W)<=s.L:=by
  rcases(vC (mL c s.W) (-1)).2.2 with k|k
  .unfold nK;omega
  .exact(v _ k).2
 have hf:=VD (mL c s.W);have he:0<=(if s.q<0 then s.L else s.q)/\(if s.q<0 then s.L else s.q)<=s.L:=by split<;>omega
 generalize (if s.q<0 then s.L else s.q)=e at*;have hq':=M;have hsp: ∀x,¬nK (mL c s.W)<s.p->x=nK (mL c s.W)->True:=λ_ _ _=>trivial
 generalize htg:mL c s.W=t at*;rw[ad (n:=e-1) V1,ad (n:=e-1-s.p) V1,ad (n:=e-nK t) V1,ad (n:=(DD t:Int)+1) V1];by_cases w:0<=s.q/\e<=nK t
 .rw[zE w,zB w.1,zC,zB w.2];simp only[zG,zC];rw[Th V1];rfl
 rw[zF w]
 have r1:(cond (Zc (0<=s.q)) (O (Zc (e<=nK t))) (O Zb):Option Bool)=O Zb:=by
  by_cases k:0<=s.q
  .rw[zB k,zC,zA (λH=>w ⟨k,H⟩)]
  .rw[zA k,zD]
 rw[r1];simp only[zG,zD];by_cases A:s.q=0
 .rw[zE A,zB A,zC];rfl
 rw[zF A,zA A,zD]
 have r3:(cond (!Zc (0<=s.q)) (O (Zc (s.p=s.L))) (O Zb):Option Bool)=O (Zc (s.q<0/\s.p=s.L)):=by
  by_cases k:0<=s.q
  .rw[zB k,Bool.not_true,zD,Ze]
  .rw[zA k,Bool.not_false,zC]
   congr 1
   exact decide_eq_decide.2 V1
 rw[r3];simp only[zG];by_cases C:s.q<0/\s.p=s.L
 .rw[zE C,zB C,zC];rfl
 rw[zF C,zA C,zD];by_cases D:s.p=e-1
 .rw[zE D,zB D,zC];by_cases o:0<=s.q
  .rw[zE o,zB o];rfl
  .rw[zF o,zA o];rfl
 rw[zF D,zA D,zD];by_cases o:nK t<0
 .rw[zE o,zB o,zC];by_cases u:e<=s.p
  .rw[zE u,zB u];rfl
  .rw[zF u,zA u];rfl
 rw[zF o,zA o,zD]
 have r6:(cond (Zc (s.p<nK t)) (O Za) (O (Zc (e<=s.p))):Option Bool)=O (Zc (s.p<nK t∨e<=s.p)):=by
  by_cases k:s.p<nK t
  .rw[zB k,zC,zB (.inl k)]
  .rw[zA k,zD]
   congr 1
   exact decide_eq_decide.2 V1
 rw[r6];simp only[zG];by_cases u:s.p<nK t∨e<=s.p
 .rw[zE u,zB u,zC,Th o];rfl
 rw[zF u,zA u,zD]
 have r7:(cond (Zc (nK t<s.p)) (O (Zc (0<(DD t:Int)))) (O Zb):Option Bool)=O (Zc (nK t<s.p/\0<DD t)):=by
  by_cases k:nK t<s.p
  .rw[zB k,zC]
   congr 1
   exact decide_eq_decide.2 V1
  .rw[zA k,zD,zA (λH=>k H.1)]
 rw[r7];simp only[zG];by_cases E:nK t<s.p/\0<DD t
 .rw[zE E,zB E,zC,aC1 V1];rfl
 rw[zF E,zA E,zD];by_cases F:nK t<s.p
 .rw[zE F,zB F,zC];rfl
 rw[zF F,zA F,zD];have Z:e-nK t=(((e-nK t).toNat:Nat):Int):=by omega
 have:=al9 (n:=(e-nK t).toNat) (c:=DD t+1) V1 V1;rw[<-Z,show((DD t+1:Nat):Int)=(DD t:Int)+1 by omega]at this;rw[this];rfl
end
end
section
open Int renaming lt_irrefl -> bB, tmod_eq_emod_of_nonneg -> cB
open List renaming getElem_of_mem -> aB, getElem_mem -> aD
open Nat renaming pow_succ -> bD, eq_zero_or_pos -> cD
def Bst (P:Int->Prop)(R:Int->Int->Prop)(t:Zd)(i:Nat)(k:Int):Prop:=
 (k= -1/\∀j (h:j<dt t),j<i->¬P t[j])∨∃j,∃h:j<dt t,k=(j:Int)/\j<i/\P t[j]/\(∀e (g:e<dt t),e<i->P t[e]->¬R t[e] t[j])/\∀e (g:e<dt t),e<j->P t[e]->R t[j] t[e]
def Fy {P:Int->Prop}{R:Int->Int->Prop}[DecidablePred P][DecidableRel R]{f:Int×Int->Option ((Int×Int)⊕Int)}{pb:Int->Option Bool}{lb:Int->Int->Option Bool}(V:dt t<1000000000)
  (L: ∀s,f s=cond (Zc (s.1<(((List.length t):Nat):Int))) (ek (rd t s.1) λx=>ek (pb x) λr=>cond r (cond (Zc (s.2<0)) (O (.inl (IntKind.i64.wrap (s.1+1),s.1))) (ek (rd t s.2) λy=>ek (lb x y) λQ=>cond Q (O (.inl (IntKind.i64.wrap (s.1+1),s.1))) (O (.inl (IntKind.i64.wrap (s.1+1),s.2))))) (O (.inl (IntKind.i64.wrap (s.1+1),s.2)))) (O (.inr s.2)))
  (M: ∀x,pb x=O (Zc (P x))) (N: ∀x y,lb x y=O (Zc (R x y))) (I: ∀a,¬R a a) (J: ∀a b e,R a b->¬R e b->R a e) (K: ∀a b,R a b->¬R b a): ∃k,am f cv (0,-1)=O k/\Bst P R t (dt t) k:=by
 refine qC (λs=> ∃(i:Nat) (k:Int),s=((i:Int),k)/\i<=dt t/\Bst P R t i k) (λs=>dt t-eL s.1) _ ⟨0,-1,rfl,V1, .inl ⟨rfl,λj h D=>by omega⟩⟩ V3 ?_;rintro s ⟨i,k,rfl,hi,F⟩;rw[L];simp only;by_cases h:i<dt t
 .left;rw[Zf,zC,cg h,zG,M,Zi,show(i:Int)+1=((i+1:Nat):Int)by omega,zG];by_cases A:P t[i]
  .rw[zB A,zC];rcases F with⟨rfl,E⟩|⟨j,D,rfl,H,z,g,u⟩
   .rw[Zf,zC];refine⟨_,rfl,⟨i+1,i,rfl,V1, .inr ⟨i,h,rfl,V1,A,λo p w q=> ?_,λo p w q=>absurd q (E o p w)⟩⟩,by simp only;omega⟩;by_cases v:o=i
    .subst v;exact I _
    .exact absurd q (E o p V1)
   .rw[Ze,zD,cg D,zG,N,zG];by_cases C:R t[i] t[j]
    .rw[zB C,zC];refine⟨_,rfl,⟨i+1,i,rfl,V1, .inr ⟨i,h,rfl,V1,A,λo p w q=> ?_,λo p w q=>J _ _ _ C (g o p w q)⟩⟩,by simp only;omega⟩;by_cases v:o=i
     .subst v;exact I _
     .exact K _ _ (J _ _ _ C (g o p V1 q))
    .rw[zA C,zD];refine⟨_,rfl,⟨i+1,j,rfl,V1, .inr ⟨j,D,rfl,V1,z,λo p w q=> ?_,u⟩⟩,by simp only;omega⟩;by_cases v:o=i
     .subst v;exact C
     .exact g o p V1 q
  .rw[zA A,zD];refine⟨_,rfl,⟨i+1,k,rfl,V1, ?_⟩,by simp only;omega⟩;rcases F with⟨rfl,E⟩|⟨j,D,rfl,H,z,g,u⟩
   .refine .inl ⟨rfl,λj p w=> ?_⟩;by_cases v:j=i
    .subst v;exact A
    .exact E j p V1
   .refine .inr ⟨j,D,rfl,V1,z,λo p w q=> ?_,u⟩;by_cases v:o=i
    .subst v;exact absurd q A
    .exact g o p V1 q
 .right;have:i=dt t:=by omega
  subst this;rw[Ze,zD];exact⟨_,rfl,F⟩
def Jd (o:j<dt t)(h: ∀e (p:e<dt t),e<j->t[e]≠t[j]):AR t t[j]=j:=by
 unfold AR;rw[List.findIdx_eq o];exact⟨zB rfl,λe g=>zA (h e V1 g)⟩
def YZ (F:1<=d)(C:dt t<1000000000):vT t (d:Int)=O (match Uv d t with|none=> -1|some x=>(AR t x:Int)):=by
 unfold vT
 have⟨k,e,h⟩:=Fy (P:=λx=>0<=x/\x % (d:Int)≠0) (R:=λx y=>x<y) (t:=t) (f:=BD t (d:Int)) (pb:=λx=>qO x (d:Int)) (lb:=mD) C (λs=>rfl) (λx=>by
  unfold qO;by_cases h:0<=x
  .rw[zB h,zC,zB (show(d:Int)≠0 by omega),cf,cB h]
   congr 1
   exact decide_eq_decide.2 ⟨λk=>⟨h,k⟩,λk=>k.2⟩
  .rw[zA h,zD,zA (λk=>h k.1)]) (λx y=>rfl) (λa=>bB a) (λa b e p v=>by omega) (λa b h=>by omega)
 rw[e];rcases h with⟨rfl,D⟩|⟨j,z,rfl,_,w,o,g⟩
 .rw[Mm λy u q=>by
   obtain⟨i,hi,rfl⟩:=aB u;have:=D i hi hi;by_cases k:t[i] % (d:Int)=0
   .exact k
   .exact absurd ⟨q,k⟩ this]
  rfl
 .rw[Sg (x:=t[j]) (aD z) w λy u q p=>by
   obtain⟨i,hi,rfl⟩:=aB u;have:=o i hi hi ⟨q,p⟩
   omega]
  simp only[zG]
  rw[Jd z λE A p v=>by
   have:=g E A p (by rw[v];exact w)
   omega]
def W4 (u:dt t<1000000000): ∃k,sC t x=O k/\(k<0↔x∉t):=by
 unfold sC;obtain⟨k,e,h⟩:=Fy (P:=λy=>y=x) (R:=λx y=>x<y) (t:=t) (f:=yV t x) (pb:=λy=>vt y x) (lb:=mD) u (λs=>rfl) (λy=>rfl) (λx y=>rfl) (λa=>bB a) (λa b e z A=>by omega) (λa b h=>by omega);rw[e];refine⟨k,rfl, ?_⟩;rcases h with⟨rfl,v⟩|⟨j,q,rfl,_,p,o,g⟩
 .refine⟨λ_ w=> ?_,λ_=>by omega⟩;have⟨i,hi,e⟩:=aB w;exact v i hi hi e
 .exact⟨λh=>by omega,λh=>absurd (p▸aD q) h⟩
def Y1 (A:dt t<1000000000)(o: ∀y∈t,-1<=y): ∃k,sD t=O k/\((-1:Int)∈t->k=(AR t (-1):Int))/\((-1:Int)∉t->k= -1):=by
 unfold sD;obtain⟨k,e,h⟩:=Fy (P:=λy=>y<0) (R:=λx y=>x<y) (t:=t) (f:=yW t) (pb:=λy=>vu y) (lb:=mD) A (λs=>rfl) (λy=>rfl) (λx y=>rfl) (λa=>bB a) (λa b e u z=>by omega) (λa b h=>by omega);rw[e];refine⟨k,rfl, ?_⟩;rcases h with⟨rfl,C⟩|⟨j,p,rfl,_,F,v,g⟩
 .refine⟨λD=> ?_,λ_=>rfl⟩;have⟨i,hi,e⟩:=aB D;exact absurd (show t[i]<0 by omega) (C i hi hi)
 .have q:t[j]= -1:=by have:=o _ (aD p);omega
  refine⟨λ_=> ?_,λh=>absurd (q▸aD p) h⟩
  rw[<-q,Jd p λE w u z=>by
   have:=g E w u V1
   omega]
def Y0 (A:dt t<1000000000): ∃k,sE t=O k/\(nK t<0->k= -1)/\(0<=nK t->k=(AR t (nK t):Int)):=by
 unfold sE;obtain⟨k,e,h⟩:=Fy (P:=λy=>0<=y) (R:=λx y=>y<x) (t:=t) (f:=yX t) (pb:=λy=>yY y) (lb:=vw) A (λs=>rfl) (λy=>rfl) (λx y=>rfl) (λa=>bB a) (λa b e q z=>by omega) (λa b h=>by omega);rw[e];refine⟨k,rfl, ?_⟩;rcases h with⟨rfl,C⟩|⟨j,u,rfl,_,F,o,g⟩
 .refine⟨λ_=>rfl,λp=> ?_⟩;have⟨i,hi,e⟩:=aB (QN p);exact absurd (show 0<=t[i]by omega) (C i hi hi)
 .have v:nK t=t[j]:=Ji V1 (λy D=>by
   obtain⟨i,hi,rfl⟩:=aB D;by_cases p:0<=t[i]
   .have:=o i hi hi p;omega
   .omega) (.inr (aD u))
  refine⟨λh=>by omega,λ_=> ?_⟩
  rw[v,Jd u λE w q z=>by
   have:=g E w q V1
   omega]
def Yd {s:Nat}(v:k<65536)(g:1<=s/\s<=1048576):oV (k:Int) (s:Int)=O ((wY k s:Int),0):=by
 unfold oV;rw[Ze,zD,Ze,zD,Ze,zD,Ze,zD];have p:=wd v g.1
 have o:am (sL (k:Int) (s:Int)) cv 1=O (wY k s:Int):=by
  refine Qf (λa=> ∃e:Nat,a=((2 ^ e:Nat):Int)/\(e=0∨s*2 ^ (e-1)<=k)) (λa=>4294967296-eL a) ⟨0,rfl, .inl rfl⟩ V2 ?_;rintro a ⟨e,rfl,he⟩
  have u:2 ^ e<=131072:=by
   rcases he with rfl|he
   .simp
   .have:1*2 ^ (e-1)<=s*2 ^ (e-1):=Nat.mul_le_mul_right _ g.1;rcases cD e with rfl|h
    .simp
    .rw[show e=(e-1)+1 by omega,bD];omega
  have z:1<=2 ^ e:=Nat.one_le_two_pow;have w:s*2 ^ e<=1048576*131072:=Nat.mul_le_mul g.2 u;unfold sL;rw[<-Int.natCast_mul,aY7 V1];by_cases h:k<s*2 ^ e
  .right;rw[Zf,zC]
   have:IsStr k s (2 ^ e):=⟨⟨e,rfl⟩,h,by
    rcases he with rfl|he
    .exact .inl rfl
    .rcases cD e with rfl|h
     .exact .inl rfl
     .right
      have q:2 ^ e / 2=2 ^ (e-1):=by
       conv=>lhs;rw[show e=(e-1)+1 by omega,bD]
       exact Nat.mul_div_cancel _ V1
      rw[q]
      exact he⟩
   rw[this.eq p]
  .left;rw[Ze,zD,Zi];refine⟨_,rfl,⟨e+1, ?_, .inr (by rw[Nat.add_sub_cancel];omega)⟩,V1⟩;rw[bD];omega
 rw[o];rfl
section
variable {c:Cx}
def ah6 (h:c.Ok)(Z:c.mode≠3)(hn:1<=c.ns)(hi:Inv c s)(g:Int)(en fa:Bool):oQ g en fa c.fixed c.tp c.sl c.ns c.mode c.R c.Q c.len c.words s.L s.p s.q s.c0 s.c1 s.c2 s.c3 s.z c.X c.T c.l c.k c.P c.tk (c.off 8:Int) c.ns (c.X.length:Int) s.lv s.pk c.words s.W=O (aU4 (rB en (qT c s))):=by
 have hns:=h.ns;have K:=hi.L;have hp:=hi.p;have hq:=hi.q;have V:(mL c s.W).length=c.ns.toNat:=qH;have A:=If (c:=c) (W:=s.W) hi.tag;have hns2:=(xO h Z (k:=0) V1).2.2;unfold oQ fQ gu jl;simp only[zG];rw[aF3 h Z hi];simp only[zG];unfold A6;rw[C5 K hp hq V1 A];simp only[zG,cb];rw[Ze,zD];unfold rB qT;simp only;generalize htg:mL c s.W=t at*
 have hd:oV s.L ((t.length:Nat):Int)=O ((wY s.L.toNat t.length:Int),0):=by
  have:=Yd (k:=s.L.toNat) (s:=t.length) V1 V1;rw[Int.toNat_of_nonneg K.1]at this;exact this
 have M:1<=wY s.L.toNat t.length:=(wd V1 V1).pos;generalize wY s.L.toNat t.length=d at*;by_cases F:s.q<0
 .rw[zE F,zB F,zC];unfold yU;rw[hd];simp only[zG,iF,il];by_cases u:s.p<s.L
  .rw[zE u,zB u,zC,Zi];rfl
  rw[zF u,zA u,zD,YZ M V1];cases ho:Uv d t with
  |some x=>
   simp only[zG];rw[Zf,zC];rfl
  |none=>
   simp only[zG];rw[Ze,zD];obtain⟨k2,e2,E⟩:=W4 (t:=t) (x:=s.L) V1;obtain⟨N,e3,C,J⟩:=Y1 (t:=t) V1 λy hy=>(A y hy).1
   rw[e2,e3];simp only[zG]
   have r1:gd (Zc ((d:Int)≠0)) (cond (Zc ((Int.tmod s.L (d:Int))=0)) (cond (Zc (k2<0)) (O (Zc (0<=N))) (O Zb)) (O Zb))=O (Zc (s.L % (d:Int)=0/\s.L∉t/\(-1:Int)∈t)):=by
    rw[zB (show(d:Int)≠0 by omega),cf,cB K.1];by_cases a1:s.L % (d:Int)=0
    .rw[zB a1,zC];by_cases a2:s.L∉t
     .rw[zB (E.2 a2),zC]
      congr 1
      by_cases a3:(-1:Int)∈t
      .rw[zB (show 0<=N by rw[C a3];omega),zB ⟨a1,a2,a3⟩]
      .rw[zA (show¬0<=N by rw[J a3];omega),zA (λk=>a3 k.2.2)]
     .rw[zA (λk=>a2 (E.1 k)),zD,zA (λk=>a2 k.2.1)]
    .rw[zA a1,zD,zA (λk=>a1 k.1)]
   rw[r1];simp only[zG];by_cases a:s.L % (d:Int)=0/\s.L∉t/\(-1:Int)∈t
   .rw[zE a,zB a,zC,C a.2.2];rfl
   .rw[zF a,zA a,zD];cases en<;>rfl
 rw[zF F,zA F,zD];unfold A7;obtain⟨k,e,hk0,D⟩:=Y0 (t:=t) V1;rw[e];simp only[zG,iF,il]
 have w:0<=nK t->0<=k/\rd t k=O (nK t):=λo=>by
  obtain⟨hs,e⟩:=Fb (QN o);rw[D o,cg hs,e];exact⟨V1,rfl⟩
 have r1:(cond (Zc (0<=k)) ((rd t k).bind λx4=>O (Zc (s.q<=x4))) (O Zb):Option Bool)=O (Zc (0<=nK t/\s.q<=nK t)):=by
  by_cases o:0<=nK t
  .rw[zB (w o).1,zC,(w o).2];simp only[zG]
   congr 1
   exact decide_eq_decide.2 V1
  .rw[zA (by rw[hk0 V1];omega),zD,zA (λk=>o k.1)]
 rw[r1];simp only[zG];by_cases u:0<=nK t/\s.q<=nK t
 .rw[zE u,zB u,zC,D u.1];rfl
 rw[zF u,zA u,zD];by_cases C:s.q=0
 .rw[zE C,zB C];rfl
 rw[zF C,zA C,zD,ad (n:=s.q-1) V1];by_cases H:s.p=s.q-1
 .rw[zE H,zB H];rfl
 rw[zF H,zA H,zD]
 have r2:(cond (Zc (0<=k)) ((rd t k).bind λx9=>cond (Zc (s.p<x9)) (O Za) (O (Zc (s.q<=s.p)))) (O Zb):Option Bool)=O (Zc (0<=nK t/\(s.p<nK t∨s.q<=s.p))):=by
  by_cases o:0<=nK t
  .rw[zB (w o).1,zC,(w o).2];simp only[zG];by_cases v:s.p<nK t
   .rw[zB v,zC,zB ⟨o, .inl v⟩]
   .rw[zA v,zD]
    congr 1
    exact decide_eq_decide.2 V1
  .rw[zA (by rw[hk0 V1];omega),zD,zA (λk=>o k.1)]
 rw[r2];simp only[zG];by_cases v:0<=nK t/\(s.p<nK t∨s.q<=s.p)
 .rw[zE v,zB v,zC,D v.1];rfl
 rw[zF v,zA v,zD];by_cases I:s.p<s.q
 .rw[zE I,zB I,zC,Zi];rfl
 .rw[zF I,zA I];rfl
end
end
section
open Int renaming reduceEq -> aB, toNat_natCast -> aD
open List renaming getElem?_eq_getElem -> bB, getElem_mem -> bD, length_set -> cD, getD_eq_getElem?_getD -> cK, getElem_set -> cL, length_map -> cM, length_replicate -> cN, replicate -> cO, getElem?_eq_none -> cR, getElem_map -> cS, getElem_of_mem -> cT, map_congr_left -> cU
open Nat renaming div_add_mod -> cB, one_dvd -> cP, div_lt_iff_lt_mul -> cV, dvd_of_mod_eq_zero -> cW
open Option renaming getD_some -> cQ
def Wo (h:x∈t):AR t x<dt t/\t[AR t x]?=O x:=by
 have⟨g,e⟩:=Fb h;exact⟨g,by rw[bB g,e]⟩
def vl (k:Nat)(t:Zd):List (Int×Int)×Zd:=
 if k % wY k (dt t)=0 then((RM (wY k (dt t)) k t).1++[(2,(AR (RM (wY k (dt t)) k t).2 (-1):Int))],(RM (wY k (dt t)) k t).2.set (AR (RM (wY k (dt t)) k t).2 (-1)) k)
 else RM (wY k (dt t)) k t
def at7 (h:d' ∣ d)(e:j % d=0):j % d'=0:=
 Nat.mod_eq_zero_of_dvd (Nat.dvd_trans h (cW e))
def Gd.frd (G:Gd k t d')(E:d' ∣ d):Gd k (frd d k t) d:=by
 refine⟨λx A=> ?_,λj q v=> ?_,λi j hi q e D=> ?_⟩
 .unfold Go.V.frd at A;obtain⟨y,F,rfl⟩:=List.mem_map.1 A;have:=G.ins y F;by_cases h:0<=y/\y<(k:Int)/\y % (d:Int)≠0
  .rw[zE h];exact .inl rfl
  .rw[zF h];rcases this with h1|h1
   .exact .inl h1
   .exact .inr ⟨h1.1,h1.2.1,by
     by_cases z:y % (d:Int)=0
     .exact z
     .exact absurd ⟨h1.1,h1.2.1,z⟩ h⟩
 .exact(VC V1).2 ⟨G.all j q (at7 E v),V1⟩
 .have p:i<dt t:=by rw[sG]at hi;exact hi
  have u:j<dt t:=by rw[sG]at q;exact q
  have g:=HJ (d:=d) (n:=k) p;have o:=HJ (d:=d) (n:=k) u;rw[bB hi]at g;rw[bB q]at o;injection g with g
  injection o with o
  have w:(Go.V.frd d k t)[i]=t[i]:=by
   by_cases h:0<=t[i]/\t[i]<(k:Int)/\t[i] % (d:Int)≠0
   .rw[zE h]at g;omega
   .rw[zF h]at g;exact g
  have C:(Go.V.frd d k t)[j]=t[j]:=by
   by_cases h:0<=t[j]/\t[j]<(k:Int)/\t[j] % (d:Int)≠0
   .rw[zE h]at o;omega
   .rw[zF h]at o;exact o
  exact G.one i j p u (by rw[<-w,<-C,e]) (by rw[<-w];exact D)
def Gd.free (G:Gd k t d)(I:1<=d)(D:k % d=0)(E:k<dt t*d):(-1:Int)∈t:=by
 by_cases h:(-1:Int)∈t
 .exact h
 exfalso
 have g: ∀i (hi:i<dt t),0<=t[i]/\t[i]<k/\t[i] % (d:Int)=0:=λi hi=>by
  rcases G.ins _ (bD hi)with h1|h1
  .exact absurd (h1▸bD hi) h
  .exact h1
 have q:=Ml (k / d) (t.map λx=>eL x / d) (by
  refine List.pairwise_iff_getElem.2 λi j hi p C e=> ?_
  rw[cM]at hi p;rw[cS,cS]at e;have a:=g i hi;have b:=g j p
  have z:(eL t[i]) % d=0:=by
   have:=a.2.2;have o:t[i]=((eL t[i]:Nat):Int):=by omega
   rw[o]at this;omega
  have A:(eL t[j]) % d=0:=by
   have:=b.2.2;have o:t[j]=((eL t[j]:Nat):Int):=by omega
   rw[o]at this;omega
  have h1:=cB (eL t[i]) d;have w:=cB (eL t[j]) d;rw[z]at h1;rw[A,<-e]at w;have:=G.one i j hi p V1 a.1
  omega) (λy H=>by
  obtain⟨x,F,rfl⟩:=List.mem_map.1 H;obtain⟨i,hi,rfl⟩:=cT F;have a:=g i hi;have⟨u,v⟩:=cW D;rw[cV V1,v,Nat.mul_div_cancel_left _ V1,Nat.mul_comm,<-v]
  omega)
 rw[cM]at q;have:=(cV (x:=k) (y:=dt t) (k:=d) V1).2 E;omega
def Gd.store (G:Gd k t d)(H:k % d=0)(C:(-1:Int)∈t):Gd (k+1) (t.set (AR t (-1)) k) d:=by
 have⟨D,F⟩:=Fb C;generalize AR t (-1)=u at*;refine⟨λx E=> ?_,λj p w=> ?_,λi j hi p e q=> ?_⟩
 .rcases HS E with h|h
  .rcases G.ins x h with h1|h1
   .exact .inl h1
   .exact .inr ⟨h1.1,V1,h1.2.2⟩
  .exact .inr ⟨V1,V1,by rw[h];omega⟩
 .by_cases z:j=k
  .subst z;exact List.mem_set D _
  .obtain⟨i,hi,e⟩:=cT (G.all j V1 w);have A:u≠i:=λh=>by subst h;omega
   have v:i<dt (t.set u (k:Int)):=by rw[cD];exact hi
   have:=bD v;rw[List.getElem_set_ne A,e]at this;exact this
 .rw[cD]at hi p;rw[cL,cL]at e;rw[cL]at q;by_cases o:u=i
  .by_cases g:u=j
   .omega
   .rw[zE o,zF g]at e;rcases G.ins _ (bD p)with h1|h1<;>omega
  .rw[zF o]at e q;by_cases g:u=j
   .rw[zE g]at e;rcases G.ins _ (bD hi)with h1|h1<;>omega
   .rw[zF g]at e;exact G.one i j hi p e q
def B4 {s:Nat}(L:k<65536)(e:dt t=s)(h1:1<=s)(G:Gd k t d')(K:d' ∣ wY k s):
  Run (rB en) ⟨k,k,-1,t⟩ (vl k t).1 ⟨k,k,-1,(vl k t).2⟩/\Gd (k+1) (vl k t).2 (wY k s)/\(dt (vl k t).2)=s/\rB en ⟨k,k,-1,(vl k t).2⟩=(if en then O (5,0)else Y)/\(k % wY k s=0->(-1:Int)∈frd (wY k s) k t):=by
 have F:=wd L h1;have u:=F.pos;have⟨z,E⟩:=aj6 (k:=k) (d:=wY k s) (s:=s) (t:=t) (en:=en) rfl e G.one k;have G1:=G.frd K;unfold vl;rw[e,z];generalize p:wY k s=d at*
 have o: ∀w:Zd,dt w=s->Gd (k+1) w d->rB en ⟨k,k,-1,w⟩=(if en then O (5,0)else Y):=λw M G2=>by
  unfold rB;simp only;rw[Zg,Zh,M,aD,p,Mm λy D J=>by rcases G2.ins y D with h|h;omega;exact h.2.2];simp only;rw[zF];rintro⟨a,b,_⟩;exact b (G2.all k V1 V1)
 by_cases h:k % d=0
 .have v:=G1.free u h (by rw[sG,e];exact F.gt);have G2:=G1.store h v;have⟨C,H⟩:=Fb v;rw[zE h];have g:dt ((frd d k t).set (AR (frd d k t) (-1)) (k:Int))=s:=by rw[cD,sG,e]
  refine⟨E.append (.one ?_ ?_),G2,g,o _ g G2,λ_=>v⟩
  .unfold rB;simp only;rw[Zg,Zh,sG,e,aD,p,Mm λy D J=>by rcases G1.ins y D with h|h;omega;exact h.2.2];simp only;rw[zE ⟨V1,λN=>by rcases G1.ins _ N with h|h<;>omega,v⟩]
  .unfold Mf;simp only[aB,if_false,if_true,aD];rw[cK,bB C,H];simp only[cQ];rw[Zg]
 .rw[zF h]
  have G2:Gd (k+1) (frd d k t) d:=⟨λx Q=>by
   rcases G1.ins x Q with h1|h1
   .exact .inl h1
   .exact .inr ⟨h1.1,V1,h1.2.2⟩,λj V q=>by
   by_cases A:j=k
   .subst A;exact absurd q h
   .exact G1.all j V1 q,G1.one⟩
  have g:dt (RM d k t).2=s:=by rw[z,sG,e]
  rw[z];refine⟨E,G2,by rw[sG,e],o _ (by rw[sG,e]) G2,λI=>absurd I h⟩
def eY (s:Nat):Nat->List (Int×Int)×Zd
 |0=>vl 0 (cO s (-1))
 |k+1=>((eY s k).1++[(1,1)]++(vl (k+1) (eY s k).2).1,(vl (k+1) (eY s k).2).2)
def Gd.none (s d:Nat):Gd 0 (cO s (-1)) d:=
 ⟨λx p=> .inl (List.eq_of_mem_replicate p),λj o=>by omega,λi j hi o e g=>by rw[List.getElem_replicate]at g;omega⟩
def Hv {s:Nat}(e:1<=s): ∀k,k<65536->Gd (k+1) (eY s k).2 (wY k s)/\(dt (eY s k).2)=s
 |0,h=>by
  have⟨_,b,c,_⟩:=B4 (en:=Zb) h (cN) e (Gd.none s 1) (cP _);exact⟨b,c⟩
 |k+1,h=>by
  have⟨a1,a2⟩:=Hv e k V1;have⟨_,b,c,_⟩:=B4 (en:=Zb) h a2 e a1 ((wd V1 e).next (wd h e));exact⟨b,c⟩
def Vi {s:Nat}(e:1<=s):Run (rB Zb) ⟨0,0,-1,cO s (-1)⟩ (eY s 0).1 ⟨0,0,-1,(eY s 0).2⟩/\rB Zb ⟨0,0,-1,(eY s 0).2⟩=Y:=by
 have⟨a,b,c,d,_⟩:=B4 (en:=Zb) (k:=0) V1 (cN) e (Gd.none s 1) (cP _);exact⟨a,d⟩
def Vj {s:Nat}(e:1<=s)(g:k+1<65536):Run (rB Zb) ⟨(k:Int)+1,k,-1,(eY s k).2⟩ ([(1,1)]++(vl (k+1) (eY s k).2).1) ⟨(k:Int)+1,(k:Int)+1,-1,(eY s (k+1)).2⟩/\rB Zb ⟨(k:Int)+1,(k:Int)+1,-1,(eY s (k+1)).2⟩=Y:=by
 have⟨a1,a2⟩:=Hv e k V1;have⟨a,b,c,d,_⟩:=B4 (en:=Zb) g a2 e a1 ((wd V1 e).next (wd g e));refine⟨Run.cons (m':=⟨((k+1:Nat):Int),((k+1:Nat):Int),-1,(eY s k).2⟩) ?_ ?_ a,d⟩
 .unfold rB;simp only;rw[Zg,Zg]
  congr 2
  omega
 .unfold Mf;simp only[if_true];rw[Zg];rfl
def YP {s:Nat}(e:1<=s)(g:k<65536):rB Za ⟨k,k,-1,(eY s k).2⟩=O (5,0):=by
 cases k with
 |zero=>
  have⟨a,b,c,d,_⟩:=B4 (en:=Za) (k:=0) V1 (cN) e (Gd.none s 1) (cP _);exact d
 |succ k=>
  have⟨a1,a2⟩:=Hv e k V1;have⟨a,b,c,d,_⟩:=B4 (en:=Za) g a2 e a1 ((wd V1 e).next (wd g e));exact d
def cut (n:Nat)(t:Zd):Zd:=t.map λx=>if x<(n:Int)then x else-1
def frB (d:Nat)(t:Zd)(i:Nat):List (Int×Int):=if i % d=0 then [(4,(AR t i:Int))]else []
def bkF (d:Nat)(t:Zd):Nat->List (Int×Int)
 |0=>[]
 |i+1=>(3,(AR t ((i-i % d:Nat):Int):Int))::((if i % d≠0 then [(1,((i % d:Nat):Int))]else [])++(7,0)::(frB d t i++bkF d t i))
def PV {n:Nat}:dt (cut n t)=dt t:=by unfold cut;rw[cM]
def Vv {n:Nat}(hi:i<dt t):(cut n t)[i]?=O (if t[i]<(n:Int)then t[i]else-1):=by
 unfold cut;rw[List.getElem?_map,bB hi];rfl
def HC {n:Nat}(o:0<=x):x∈cut n t↔x∈t/\x<(n:Int):=by
 unfold cut;rw[List.mem_map];constructor
 .rintro⟨y,g,e⟩;by_cases h:y<(n:Int)
  .rw[zE h]at e;subst e;exact⟨g,h⟩
  .rw[zF h]at e;omega
 .rintro⟨g,h⟩;exact⟨x,g,zE h⟩
def Vw {n:Nat}(e:0<=x/\x<(n:Int)):AR (cut n t) x=AR t x:=by
 unfold AR cut;rw[List.findIdx_map]
 congr 1
 funext y
 show Zc ((if y<(n:Int)then y else-1)=x)=Zc (y=x);by_cases h:y<(n:Int)
 .rw[zE h]
 .rw[zF h,Ze,Ze]
def aa8 (one: ∀i j (hi:i<dt t) (o:j<dt t),t[i]=t[j]->0<=t[i]->i=j)(q:(i:Int)∈t):(cut (i+1) t).set (AR t i) (-1)=cut i t:=by
 have⟨p,e⟩:=Fb q;generalize AR t i=u at*;apply List.ext_getElem?;intro j;by_cases o:j<dt t
 .rw[Vv o,List.getElem?_set];by_cases g:u=j
  .subst g;rw[zE rfl,zE (by rw[PV];exact p),Zh]
  .rw[zF g,Vv o];have v:t[j]≠(i:Int):=λh=>g (one u j p o (by rw[e,h]) V1)
   by_cases h:t[j]<(i:Int)
   .rw[zE h,Zg]
   .rw[zF h,Zh]
 .rw[cR (by rw[cD,PV];omega),cR (by rw[PV];omega)]
def aa7 (e:(i:Int)∉t):cut (i+1) t=cut i t:=by
 unfold cut;refine cU λx g=> ?_
 have:x≠(i:Int):=λh=>e (h▸g)
 by_cases h:x<(i:Int)
 .rw[zE h,Zg]
 .rw[zF h,Zh]
def VA {l:Nat}(G:Gd (l+1) t d)(hi:i<=l)(z:1<=d):Run (rB en) ⟨l,i,i,cut (i+1) t⟩ (frB d t i) ⟨l,i,i,cut i t⟩:=by
 unfold frB;by_cases h:i % d=0
 .have o:=G.all i V1 h;have e:(i:Int)∈cut (i+1) t:=(HC V1).2 ⟨o,V1⟩
  have v:nK (cut (i+1) t)=(i:Int):=Ji V1 (λy w=>by
   by_cases q:0<=y
   .have:=((HC q).1 w).2;omega
   .omega) (.inr e)
  have g:=Vw (n:=i+1) (t:=t) (x:=i) V1;have⟨u,p⟩:=Wo e;rw[g]at u p;rw[zE h];refine .one ?_ ?_
  .unfold rB;simp only[v,g];rw[Zh,Zg]
  .unfold Mf;simp only[aB,if_false,if_true,aD];rw[cK,p];simp only[cQ];rw[Zg,aa8 G.one o]
 .rw[zF h,aa7 λo=>by rcases G.ins _ o with h1|h1<;>omega];exact .nil _
def Y3 {l d:Nat}{t:Zd}{en:Bool}(J:l<65536)(G:Gd (l+1) t d)(z:1<=d): ∀i,i<=l->Run (rB en) ⟨l,i,i,cut i t⟩ (bkF d t i) ⟨l,0,0,cut 0 t⟩
 |0,_=> .nil _
 |i+1,hi=>by
  have A:=Nat.mod_lt i (show d > 0 by omega);have K:=Nat.mod_le i d
  have u:(i-i % d) % d=0:=by
   have:=cB i d;rw[show i-i % d=d*(i / d)by omega];exact Nat.mul_mod_right _ _
  generalize C:i % d=r at*;have L:=G.all (i-r) V1 u;have p:((i-r:Nat):Int)∈cut (i+1) t:=(HC V1).2 ⟨L,V1⟩
  have v:nK (cut (i+1) t)=((i-r:Nat):Int):=Ji V1 (λy N=>by
   by_cases o:0<=y
   .obtain⟨D,Q⟩:=(HC o).1 N;rcases G.ins y D with h3|h3
    .omega
    .obtain⟨y,rfl⟩:=Int.eq_ofNat_of_zero_le o;have E:y % d=0:=by have:=h3.2.2;omega
     have F:=cB i d;have H:=cB y d;rw[E]at H;rw[C]at F;have I:y / d<=i / d:=Nat.div_le_div_right V1;have V:d*(y / d)<=d*(i / d):=Nat.mul_le_mul_left _ I;omega
   .omega) (.inr p)
  have q:=Vw (n:=i+1) (t:=t) (x:=((i-r:Nat):Int)) V1;have⟨M,w⟩:=Wo p;rw[q]at M w;unfold bkF;rw[C]
  have g:Run (rB en) ⟨l,i,((i+1:Nat):Int),cut (i+1) t⟩ ((7,0)::(frB d t i++bkF d t i)) ⟨l,0,0,cut 0 t⟩:=by
   refine .cons (m':=⟨l,i,i,cut (i+1) t⟩) ?_ ?_ ((VA G V1 z).append (Y3 J G z i V1))
   .unfold rB;simp only[v];rw[Zh,Zh,Zh,Zg]
   .unfold Mf;simp only[aB,if_false,if_true,true_and];rw[Zg]
  refine .cons (m':=⟨l,((i-r:Nat):Int),((i+1:Nat):Int),cut (i+1) t⟩) ?_ ?_ ?_
  .unfold rB;simp only[v,q];rw[Zh,Zh,Zh,Zh,Zg]
  .unfold Mf;simp only[aB,if_false,if_true,aD];rw[cK,w];simp only[cQ];rw[Zg]
  .by_cases o:r≠0
   .rw[zE o];refine .cons (m':=⟨l,i,((i+1:Nat):Int),cut (i+1) t⟩) ?_ ?_ g
    .unfold rB;simp only[v];rw[Zh,Zh,Zh,Zh,Zh,Zg]
     congr 2
     omega
    .unfold Mf;simp only[if_true];rw[Zg]
     congr 2
     omega
   .rw[zF o,List.nil_append];have e:((i-r:Nat):Int)=(i:Int):=by omega
    rw[e];exact g
def NV (l:Nat)(t:Zd):List (Int×Int):=(5,0)::(frB (wY l (dt t)) t l++bkF (wY l (dt t)) t l)
def YX {l s:Nat}(g:l<65536)(o:1<=s):Run (rB Za) ⟨l,l,-1,(eY s l).2⟩ (NV l (eY s l).2) ⟨l,0,0,cut 0 (eY s l).2⟩/\rB Za ⟨l,0,0,cut 0 (eY s l).2⟩=Y:=by
 have⟨G,e⟩:=Hv o l g;have p:=(wd g o).pos;unfold NV;rw[e];have v:=YP (s:=s) (k:=l) o g;generalize (eY s l).2=t at*
 have u:cut (l+1) t=t:=by
  unfold cut
  conv=>rhs;rw[<-List.map_id t]
  refine cU λx z=> ?_
  rcases G.ins x z with h|h
  .rw[Zg];rfl
  .rw[Zg];rfl
 refine⟨.cons (m':=⟨l,l,l,t⟩) v ?_ (Run.append (m':=⟨l,l,l,cut l t⟩) ?_ (Y3 g G p l (Nat.le_refl _))), ?_⟩
 .unfold Mf;simp only[aB,if_false,if_true,true_and]
 .have:=VA (en:=Za) (i:=l) G (Nat.le_refl _) p;rw[u]at this;exact this
 .have w:nK (cut 0 t)= -1:=Ji V1 (λy A=>by
   by_cases q:0<=y
   .have:=((HC q).1 A).2;omega
   .omega) (.inl rfl)
  unfold rB;simp only[w];rw[Zh,Zh,zE trivial]
end
section
open List renaming length_append -> aB, length_cons -> aD, length_singleton -> bB
def ai7 : ∀f,(∀n c k (h:List Bool) e,1<=n->n<=65536->(2<=n->1<=c)->dt (pt f Zb n c k h e)+2<=5*n)/\∀n c k (h:List Bool) e,1<=n->n<=65536->1<=c->dt (pt f Za n c k h e)+3<=5*n
 |0=>⟨λn c k h e p _ _=>by show 0+2<=_;omega,λn c k h e p _ _=>by show 0+3<=_;omega⟩
 |f+1=>by
  have⟨v,o⟩:=ai7 f;refine⟨λn c k h e p u q=> ?_,λn c k h e p u q=> ?_⟩
  .unfold pt;by_cases g:n=1
   .rw[zE g];simp;omega
   .rw[zF g,aD];have:=o n c (h.findIdx λb=> !b) (h.set (h.findIdx λb=> !b) Za) e p u (q V1);omega
  .unfold pt;by_cases g:n<=1
   .rw[zE g];simp;omega
   .rw[zF g,aD,aB,aD];have⟨z,C,A,_⟩:=al8 (n:=n) (c:=c) V1 q u
    have a:=v (n-spF n c) (c-1) 0 h e V1 V1 (λh=>by
     by_cases w:c=1
     .have:=A w;omega
     .omega)
    have b:=o (spF n c) c k h Zb z V1 q;omega
def VB (d:Nat)(t:Zd): ∀n,dt (RM d n t).1<=n
 |0=>Nat.le_refl _
 |n+1=>by
  have:=VB d t n;unfold RM;split
  .rw[aB,bB];omega
  .omega
def Oe (k:Nat)(t:Zd):dt (vl k t).1<=k+1:=by
 have:=VB (wY k (dt t)) t k;unfold vl;split
 .rw[aB,bB];omega
 .omega
def Lc (s:Nat): ∀k,dt (eY s k).1<=(k+1)*(k+2)
 |0=>by have:=Oe 0 (List.replicate s (-1));show(dt (vl 0 _).1)<=_;omega
 |k+1=>by
  have e:=Lc s k;have g:=Oe (k+1) (eY s k).2;show(dt ((eY s k).1++[(1,1)]++(vl (k+1) (eY s k).2).1))<=_;rw[aB,aB,bB]
  have:(k+1+1)*(k+1+2)=(k+1)*(k+2)+2*(k+2):=by
   rw[show(k+1+1)=k+2 by omega,show k+1+2=(k+1)+2 by omega,Nat.mul_add,Nat.mul_comm (k+2) (k+1),Nat.mul_comm (k+2) 2]
  omega
def Vm (d:Nat)(t:Zd): ∀i,dt (bkF d t i)<=4*i
 |0=>Nat.le_refl _
 |i+1=>by
  have:=Vm d t i;unfold bkF frB;rw[aD,aB,aD,aB]
  repeat' split
  all_goals simp;omega
end
section
open List renaming getElem?_eq_none -> aB, length_cons -> aD
def aj3 {n:Int}(h:1<=n/\n<=65535):kA 1 n=Za:=by
 unfold kA;rw[Zh,Zh,zE rfl,Zf]
def MF {n:Int}(e:2<=a/\a<=4)(h:0<=n/\n<1048576):kA a n=Za:=by
 unfold kA;rw[Zh,Zh,Zh,zE e.2,zB h]
def ME {n:Int}(e:5<=a/\a<=9)(h:n=0):kA a n=Za:=by
 unfold kA;rw[Zh,Zh,Zh,Zh,zB h]
section
variable {c:Cx}
def Ci {W':Zd}(e:gw c W W'):mL c W'=mL c W:=by
 unfold mL;refine List.map_congr_left λk _=> ?_
 rw[e.tag]
def S9 {w:Zd}(q:k<eL c.ns)(e:sp c k+dt w<=dt W)(p:dt w=dt c.X+1):mL c (put W (sp c k) w)=(mL c W).set k (w.getD 0 0-1):=by
 apply List.ext_getElem?;intro j;by_cases o:j<eL c.ns
 .rw[Fi o,List.getElem?_set];by_cases g:k=j
  .subst g;rw[zE rfl,zE (by rw[qH];exact q),Dm e p]
  .rw[zF g,Fi o,QL e p (λh=>g h.symm)]
 .rw[aB (by rw[qH];omega),aB (by rw[List.length_set,qH];omega)]
def Jg (e:k<eL c.ns):(mL c W).getD k 0=iG c W k-1:=by
 rw[List.getD_eq_getElem?_getD,Fi e];rfl
def Kx (h:c.Ok)(z:c.mode≠3)(hi:Inv c s){a:Int×Int}{m':Mc}(e:Mf a (qT c s)=O m'):(HG c a.1 a.2 s).1=0/\qT c (HG c a.1 a.2 s).2=m':=by
 obtain⟨a,n⟩:=a;have u:=hi.w;have hL:=hi.L;have hp:=hi.p;have hq:=hi.q;have Z:=h.ns;have J:dt (seg s.W (c.off 1) (dt c.X))=dt c.X:=fY (u.in' h (i:=1) V1);unfold Mf qT at e;simp only[qH]at e;show(HG c a n s).1=0/\qT c (HG c a n s).2=m';by_cases A:a=1
 .subst A;rw[zE rfl]at e;by_cases g:1<=n/\n<=65535/\s.p+n<=s.L
  .rw[zE g]at e;injection e with e
   unfold HG;rw[zF (by rw[aj3 V1];simp),Zh,zE rfl,Zh];refine⟨rfl, ?_⟩;rw[<-e];unfold qT;simp only[Ci (Qa h u s.p (eL n))]
  .rw[zF g]at e;cases e
 rw[zF A]at e;by_cases C:a=2
 .subst C;rw[zE rfl]at e;by_cases g:0<=n/\n<(eL c.ns:Int)/\(mL c s.W).getD (eL n) 0<0
  .rw[zE g]at e;injection e with e
   have o:eL n<eL c.ns:=by omega
   have⟨K,M,N⟩:=xO h z o;have⟨Q,V⟩:=u.tk h;have v:=Jg (c:=c) (W:=s.W) o;unfold HG;rw[zF ZF,Zh,Zh,zE rfl,Zh];refine⟨rfl, ?_⟩;rw[<-e];unfold qT;simp only;rw[S9 o Zy (by rw[aD,J])]
   have hv:(IntKind.u64.wrap (IntKind.i64.wrap (s.p+1))::seg s.W (c.off 1) (dt c.X)).getD 0 0=s.p+1:=by
    show IntKind.u64.wrap (IntKind.i64.wrap (s.p+1))=_;rw[Zi,Zk]
   rw[hv,show s.p+1-1=s.p by omega]
  .rw[zF g]at e;cases e
 rw[zF C]at e;by_cases D:a=3
 .subst D;rw[zE rfl]at e;by_cases g:0<=n/\n<(eL c.ns:Int)/\0<=(mL c s.W).getD (eL n) 0
  .rw[zE g]at e;injection e with e
   have o:eL n<eL c.ns:=by omega
   have⟨K,M,N⟩:=xO h z o;have⟨Q,V⟩:=u.tk h;have v:=Jg (c:=c) (W:=s.W) o;have l2:dt (seg s.W (sp c (eL n)+1) (dt c.X))=dt c.X:=fY V1;unfold HG;rw[zF ZF,Zh,Zh,Zh,zE rfl,Zh];refine⟨rfl, ?_⟩;rw[<-e];unfold qT;simp only;rw[Ci (gw.put h (gw.refl s.W) u (i:=1) V1 (by rw[l2];exact Nat.le_refl _)),v]
  .rw[zF g]at e;cases e
 rw[zF D]at e;by_cases E:a=4
 .subst E;rw[zE rfl]at e;by_cases g:0<=n/\n<(eL c.ns:Int)/\0<=(mL c s.W).getD (eL n) 0
  .rw[zE g]at e;injection e with e
   have o:eL n<eL c.ns:=by omega
   have⟨K,M,N⟩:=xO h z o;have⟨Q,V⟩:=u.tk h;have v:=Jg (c:=c) (W:=s.W) o;unfold HG;rw[zF ZF,Zh,Zh,Zh,Zh,zE rfl,Zh];refine⟨rfl, ?_⟩;rw[<-e];unfold qT;simp only;rw[S9 o Z6 (dg _)];rfl
  .rw[zF g]at e;cases e
 rw[zF E]at e;by_cases F:a=5
 .subst F;rw[zE rfl]at e;by_cases g:n=0/\s.q= -1/\s.p=s.L
  .rw[zE g]at e;injection e with e
   unfold HG;rw[zF ZQ,Zh,Zh,Zh,Zh,Zh,zE rfl,Zh,Zh];refine⟨rfl, ?_⟩;rw[<-e];unfold qT;simp only[Ci (Qb h u J)]
  .rw[zF g]at e;cases e
 rw[zF F]at e;by_cases H:a=6
 .subst H;rw[zE rfl]at e;by_cases g:n=0/\s.q= -1/\s.p=s.L-1
  .rw[zE g]at e;injection e with e
   unfold HG;rw[zF ZQ,Zh,Zh,Zh,Zh,Zh,Zh,zE rfl,Zh,Zh];refine⟨rfl, ?_⟩;rw[<-e];unfold qT;simp only[Ci (L7 h u s.p).1]
  .rw[zF g]at e;cases e
 rw[zF H]at e;by_cases I:a=7
 .subst I;rw[zE rfl]at e;by_cases g:n=0/\0<s.q/\s.p=s.q-1
  .rw[zE g]at e;injection e with e
   unfold HG;rw[zF ZQ,Zh,Zh,Zh,Zh,Zh,Zh,Zh,Zh,Zh];refine⟨rfl, ?_⟩;rw[<-e];unfold qT;simp only[Ci (Qc h u s.p).1]
  .rw[zF g]at e;cases e
 rw[zF I]at e;cases e
def cd {α β:Type}{x:Option α}{a:α}{f:α->Option β}{r:Option β}(h:x=O a)(e:f a=r):x.bind f=r:=by rw[h];exact e
end
end
section
def yF {α γ:Type}{f:α->Option (α⊕γ)}{s g:α}{x:γ}(h:Reach f k s g)(o:k<18446744073709551615)(e:f g=O (.inr x)):am f cv s=O x:=by
 have:=h (18446744073709551616-k);rw[show 18446744073709551616-k+k=cv by unfold cv;omega,show 18446744073709551616-k=(18446744073709551615-k)+1 by omega]at this;rw[this,bm,e];rfl
section
variable {c:Cx}
end
end
section
open List renaming replicate -> aB, eq_of_mem_replicate -> aD, getElem?_eq_none -> bB
section
variable {a0:Int} {a1 a2:Zd} {a3:Int} {a4:List bz} {a5:Int} {a6:List bz} {a7 a8 a9:Int}
def aB1 (e: ∀o∈a4,Sj o)(g: ∀o∈a6,Sj o): ∃b,jf a0 a1 a2 a3 a4 a5 a6 a7 a8=O b/\(b=Za->a7<=40∨65535<a7):=by
 rcases Wp (a0:=a0) (a1:=a1) (a2:=a2) (a3:=a3) (a5:=a5) (a7:=a7) (a8:=a8) e g with h|⟨h,_⟩
 .exact⟨Zb,h,λk=>by cases k⟩
 .refine⟨Za,h,λ_=> ?_⟩;by_cases c1:a7<=40
  .exact .inl c1
  by_cases c2:65535<a7
  .exact .inr c2
  exfalso;unfold jf at h;obtain⟨r,v,h⟩:=ah h;cases r with
  |false=>cases h
  |true=>
   rw[Bool.not_true,zD]at h;obtain⟨q,u,h⟩:=ah h;rw[zA c1,zA c2]at h;cases p:Zc (IntKind.i64.wrap (q.1+q.2)<=300)<;>rw[p]at h<;>cases h
end
section
variable {c:Cx}
def ag6 (h:c.Ok)(g:c.mode≠3)(e:eo c.mode (dt c.X) (dt c.T) c.R c.l c.Q c.k c.len c.words=(c.fixed,c.tp,c.sl,c.ns,0)):1<=c.ns:=by
 have n:=h.num;have o:=n.sl;rw[zF g]at o;unfold eo at e;rw[zF (by rw[h.hc];simp)]at e;by_cases c1:c.words<rZ (dt c.X) (dt c.T) c.R c.Q+ri c.mode c.l c.k+least c.mode c.len*rh c.mode (dt c.X) c.R c.l
 .rw[zE c1]at e;injection e with _ e
  injection e with _ e
  injection e with _ e
  injection e with _ e
  cases e
 .rw[zF c1,zF g]at e;injection e with _ e
  injection e with _ e
  injection e with _ e
  injection e with e _
  unfold least at c1;rw[zF g]at c1;have p:rh c.mode (dt c.X) c.R c.l=c.sl:=h.sl.symm;rw[p]at e c1;rw[<-e];exact(Int.le_ediv_iff_mul_le V1).2 V1
def am4 (h:c.Ok)(g:c.mode≠3):mL c (new2 c).W=aB (eL c.ns) (-1):=by
 apply List.ext_getElem?;intro k;by_cases e:k<eL c.ns
 .rw[Fi e,Mj h g e,List.getElem?_replicate,zE e];rfl
 .rw[bB (by rw[qH];omega),bB (by rw[List.length_replicate];omega)]
def af6 (h:c.Ok)(e:c.mode≠3):qT c (new2 c)=⟨c.len,0,-1,aB (eL c.ns) (-1)⟩:=by
 unfold qT;rw[am4 h e];rfl
def av8 (s:Nat):hld (aB s (-1))=aB s Zb:=by
 unfold hld;rw[List.map_replicate];rfl
def aA3 {l s:Nat}(v:l<=400)(u:1<=s): ∃m',Run B6 ⟨l,0,-1,aB s (-1)⟩ (if l=0 then [(5,0)]else pt (2*l) Zb l s 0 (aB s Zb) Za) m'/\B6 m'=Y/\m'.q=0/\(dt (if l=0 then [((5:Int),(0:Int))]else pt (2*l) Zb l s 0 (aB s Zb) Za))<=2000:=by
 have g:nK (aB s (-1))= -1:=Ji V1 (λy o=>by rw[aD o];exact Int.le_refl _) (.inl rfl)
 have e: ∀L:Int,B6 ⟨L,0,0,aB s (-1)⟩=Y:=λL=>by
  unfold B6;simp only[g];rw[zF (show¬(0:Int)<0 by omega),Zh,zE trivial]
 by_cases p:l=0
 .subst p;rw[zE rfl];refine⟨⟨0,0,0,aB s (-1)⟩, .one ?_ ?_,e 0,rfl,V2⟩
  .unfold B6;simp only[g];rw[zE (show(-1:Int)<0 by omega),Zh,Zh,Zg]
  .unfold Mf;simp only[Int.reduceEq,if_false,if_true,true_and];rfl
 .rw[zF p];refine⟨⟨l,0,0,aB s (-1)⟩, ?_,e l,rfl,by have:=(ai7 (2*l)).1 l s 0 (aB s Zb) Za V1 V1 (λ_=>u);omega⟩;have:=(aj7 (2*l)).1 l s 0 (aB s (-1)) Za l (-1) 0 (Nat.le_refl _) ⟨V1,V1,by rw[Zg];omega,λ_=>rfl,(λh=>by cases h),V1⟩ (λy o=>by rw[aD o];omega) (λy o=>by rw[aD o];omega) (by unfold DD;rw[List.countP_replicate];simp) (λ_=>u);rw[av8]at this;exact this
def ab8 (h:c.Ok)(g:c.mode=1)(e:eo c.mode (dt c.X) (dt c.T) c.R c.l c.Q c.k c.len c.words=(c.fixed,c.tp,c.sl,c.ns,0)):je c.mode c.X c.T c.R c.l c.Q c.k c.len c.words=O (.inr (.inr (.inl (c.mode,Zb,Zb,c.fixed,c.tp,c.sl,c.ns,c.mode,c.R,c.Q,c.len,c.words,c.len,c.X,c.T,c.l,c.k,c.P,c.tk,(c.off 8:Int),c.ns,(dt c.X:Int),c.fixed,c.fixed,c.words,(new2 c).W)))):=by
 unfold je;refine cd (aU2 h V1 e) ?_
 refine cd (show gK .. =O (.inl (c.mode,Zb,Zb))from by
  unfold gK;rw[show ix c.mode 4=O 1 from by rw[g];rfl]
  rfl) ?_
 rfl
def ab9 (h:c.Ok)(g:c.mode=2)(e:eo c.mode (dt c.X) (dt c.T) c.R c.l c.Q c.k c.len c.words=(c.fixed,c.tp,c.sl,c.ns,0)):je c.mode c.X c.T c.R c.l c.Q c.k c.len c.words=O (.inr (.inr (.inr (c.mode,Zb,Zb,c.fixed,c.tp,c.sl,c.ns,c.mode,c.R,c.Q,c.len,c.words,c.len,c.X,c.T,c.l,c.k,c.P,c.tk,(c.off 8:Int),c.ns,(dt c.X:Int),c.fixed,c.fixed,c.words,(new2 c).W)))):=by
 unfold je;refine cd (aU2 h V1 e) ?_
 refine cd (show gK .. =O (.inr (c.mode,Zb,Zb))from by
  unfold gK;rw[show ix c.mode 4=O 2 from by rw[g];rfl]
  rfl) ?_
 rfl
def Ld {s:Nat}(e:1<=s)(g:k<65536):rB Zb ⟨k,k,-1,(eY s k).2⟩=Y:=by
 cases k with
 |zero=>exact(Vi e).2
 |succ k=>exact(Vj e g).2
end
end
section
open Nat renaming le_succ_of_le -> aB
inductive Ev where
 |act (a:Int×Int)
 |more
 |stop
def kW :List Ev->List (Int×Int)
 |[]=>[]
 | .act a::r=>a::kW r
 |_::r=>kW r
def BR : ∀a b:List Ev,kW (a++b)=kW a++kW b
 |[],b=>rfl
 | .act x::r,b=>congrArg (x:: ·) (BR r b)
 | .more::r,b=>BR r b
 | .stop::r,b=>BR r b
def EL : ∀l:List (Int×Int),kW (l.map .act)=l
 |[]=>rfl
 |x::r=>congrArg (x:: ·) (EL r)
def zq : ∀l:List Ev,dt (kW l)<=dt l
 |[]=>Nat.le_refl _
 | .act x::r=>Nat.succ_le_succ (zq r)
 | .more::r=>aB (zq r)
 | .stop::r=>aB (zq r)
def nxB (s:Dy):Option (Int×Int):=if s.q<0 then(if s.p<s.L then O (8,0)else O (5,0))else if 0<s.q then O (9,0)else Y
def rE (c:Cx)(en:Bool)(s:Dy):Option (Int×Int):=if c.mode=3 then nxB s else if c.mode=2 then rB en (qT c s)else B6 (qT c s)
def sQ (c:Cx)(a:Int×Int)(s:Dy):Dy:=if c.mode=3 then(Gb c a.1 a.2 s).2 else(HG c a.1 a.2 s).2
def wz (c:Cx)(a:Int×Int)(s:Dy):Prop:=if c.mode=3 then(Gb c a.1 a.2 s).1=0 else∃e,Mf a (qT c s)=O e
def Ga (s:Dy):Dy:={s with L:=s.L+1}
inductive Way (c:Cx)(l:Nat):Nat->Bool->Dy->List Ev->Nat->Bool->Dy->Prop
 |nil (f:Nat) (en:Bool) (s:Dy):Way c l f en s [] f en s
 |act {f:Nat} {en:Bool} {s:Dy} {a:Int×Int} {es:List Ev} {f':Nat} {en':Bool} {s':Dy}:rE c en s=O a->wz c a s->Way c l f en (sQ c a s) es f' en' s'->Way c l f en s (.act a::es) f' en' s'
 |more {f:Nat} {s:Dy} {es:List Ev} {f':Nat} {en':Bool} {s':Dy}:c.mode=2->rE c Zb s=Y->s.q= -1->s.L<65535->f<l->Way c l (f+1) Zb (Ga s) es f' en' s'->Way c l f Zb s (.more::es) f' en' s'
 |stop {f:Nat} {s:Dy} {es:List Ev} {f':Nat} {en':Bool} {s':Dy}:c.mode=2->rE c Zb s=Y->s.q= -1->f=l->Way c l (f+1) Za s es f' en' s'->Way c l f Zb s (.stop::es) f' en' s'
def Way.app {c:Cx}{l:Nat}{es:List Ev}{u:Nat}{g:Bool}{w:Dy}(h:Way c l f en s es u g w): ∀{p:List Ev} {v:Nat} {o:Bool} {z:Dy},Way c l u g w p v o z->Way c l f en s (es++p) v o z:=by
 induction h with
 |nil=>exact λh=>h
 |act a b _ q=>exact λh=> .act a b (q h)
 |more a b c d e _ q=>exact λh=> .more a b c d e (q h)
 |stop a b c d _ q=>exact λh=> .stop a b c d (q h)
def cy (c:Cx)(i:Nat)(s:Dy):Prop:=if c.mode=3 then Well1 c i s else Well2 c i s
section
variable {c:Cx} (h:c.Ok)
include h
def lW (w:cy c i s){a:Int×Int}(e:rE c en s=O a)(m:wz c a s):cy c (i+1) (sQ c a s):=by
 unfold cy sQ wz at*;by_cases g:c.mode=3
 .simp only[zE g]at w m⊢;have:=w.act h g a;unfold aq6 at this
  have p:a.1≠0:=λo=>by
   unfold Gb at m;rw[o]at m;simp at m
  rw[zF p]at this;exact this
 .simp only[zF g]at w m⊢;have:=w.act h g a;unfold YK at this
  have p:a.1≠0:=λo=>by
   obtain⟨q,m⟩:=m;unfold Mf at m;rw[o]at m;simp at m
  rw[zF p]at this;exact this
def G7 (w:cy c i s)(g:c.mode=2)(o:s.q= -1)(e:s.L<65535):cy c (i+1) (Ga s):=by
 unfold cy at*;rw[Zh]at*;have:=w.act h V1 (0,0);unfold YK xM at this;rw[zE rfl,Zh,Zh,Zh]at this;exact this
theorem Ti (p:i<=j)(w:cy c i s):cy c j s:=by
 have o:Ec (65536*i) s->Ec (65536*j) s:=λk=>by
  have⟨a,b,d,e⟩:=k;unfold Ec;omega
 unfold cy at*;split
 .rename_i g;rw[zE g]at w;exact⟨w.inv,o w.cnt⟩
 .rename_i g;rw[zF g]at w;exact⟨w.inv,o w.cnt,w.len⟩
theorem Way.well {l:Nat}{es:List Ev}{v:Nat}{q:Bool}{u:Dy}(H:Way c l f en s es v q u): ∀{i:Nat},cy c i s->cy c (i+es.length) u:=by
 have o: ∀(i:Nat) (e:Ev) (es:List Ev),i+(e::es).length=i+1+es.length:=λi e es=>by
  rw[List.length_cons];omega
 induction H with
 |nil=>exact λw=>w
 |act a b _ p=>
  intro i w;rw[o];exact p (lW h w a b)
 |more a b d e g _ p=>
  intro i w;rw[o];exact p (G7 h w a d e)
 |stop a b d e _ p=>
  intro i w;rw[o];exact p (Ti h (Nat.le_succ i) w)
def KI {l:Nat}(g:c.mode≠3){z:Mc->Option (Int×Int)}(p: ∀s,rE c en s=z (qT c s)){m m':Mc}{k:List (Int×Int)}(R:Run z m k m'): ∀{i:Nat} (s:Dy),qT c s=m->cy c i s->∃o,Way c l f en s (k.map .act) f en o/\qT c o=m':=by
 induction R with
 |nil=>exact λs e _=>⟨s, .nil _ _ _,e⟩
 | @cons H I J a k A u _ D=>
  intro i s e w;subst e;have v:rE c en s=O a:=(p s).trans A
  have mm:wz c a s:=by
   unfold wz;rw[zF g];exact⟨_,u⟩
  have q:=w;unfold cy at q;rw[zF g]at q;have C:=(Kx h g q.inv u).2;have⟨o,E,F⟩:=D (sQ c a s) (by unfold sQ;rw[zF g];exact C) (lW h w v mm);exact⟨o, .act v mm E,F⟩
def qE (c:Cx):Dy:=if c.mode=3 then new1 c else new2 c
def kJ :cy c 0 (qE c):=by
 unfold cy qE;split
 .rename_i e;exact OP h e [] 0
 .rename_i e;exact OQ h e [] 0
def NX {l:Nat}{f:Nat}(g:c.mode=3): ∀(n:Nat) {i:Nat} (s:Dy),cy c i s->s.q= -1->s.L-s.p=n->∃e,Way c l f Zb s (List.replicate n (.act (8,0))) f Zb e/\e.q= -1/\e.p=s.L/\e.L=s.L
 |0,i,s,w,v,A=>⟨s, .nil _ _ _,v,V1,rfl⟩
 |n+1,i,s,w,v,A=>by
  have u:rE c Zb s=O (8,0):=by
   unfold rE nxB;rw[zE g,Zg,Zg]
  have z:Gb c 8 0 s=(0,(Gb c 8 0 s).2):=by
   unfold Gb;rw[zE rfl,Zh,Zh,Zh]
  have H:(Gb c 8 0 s).2.q=s.q/\(Gb c 8 0 s).2.p=s.p+1/\(Gb c 8 0 s).2.L=s.L:=by
   unfold Gb;rw[zE rfl,Zh,Zh,Zh];exact⟨rfl,rfl,rfl⟩
  have mm:wz c (8,0) s:=by
   unfold wz;rw[zE g];exact congrArg Prod.fst z
  have o:sQ c (8,0) s=(Gb c 8 0 s).2:=by unfold sQ;rw[zE g]
  obtain⟨e,C,D,E,F⟩:=NX g n (sQ c (8,0) s) (lW h w u mm) (by rw[o];omega) (by rw[o];omega);rw[o]at E F;exact⟨e, .act u mm C,D,V1,V1⟩
def NW {l:Nat}{f:Nat}(g:c.mode=3): ∀(n:Nat) {i:Nat} (s:Dy),cy c i s->s.q=n->∃e,Way c l f Zb s (List.replicate n (.act (9,0))) f Zb e/\e.q=0/\e.L=s.L
 |0,i,s,w,v=>⟨s, .nil _ _ _,V1,rfl⟩
 |n+1,i,s,w,v=>by
  have o:rE c Zb s=O (9,0):=by
   unfold rE nxB;rw[zE g,Zh,Zg]
  have u:(Gb c 9 0 s).1=0/\(Gb c 9 0 s).2.q=s.q-1/\(Gb c 9 0 s).2.L=s.L:=by
   unfold Gb;rw[Zh,Zh,zE rfl,Zh,Zh];exact⟨rfl,rfl,rfl⟩
  have mm:wz c (9,0) s:=by
   unfold wz;rw[zE g];exact u.1
  have p:sQ c (9,0) s=(Gb c 9 0 s).2:=by unfold sQ;rw[zE g]
  obtain⟨e,z,A,C⟩:=NW g n (sQ c (9,0) s) (lW h w o mm) (by rw[p];omega);rw[p]at C;exact⟨e, .act o mm z,A,V1⟩
end
end
section
open List renaming length_append -> aB, length_cons -> aD, length_map -> bB, replicate -> bD, length_replicate -> cB
section
variable {c:Cx}
end
section
variable {c:Cx} (h:c.Ok)
include h
def ah7 (u:c.mode=2)(N:1<=c.ns)(z:c.len=0){l:Nat}(M:l<=400): ∀k,k<=l->∃s es,Way c l 0 Zb (new2 c) es k Zb s/\qT c s=⟨k,k,-1,(eY (eL c.ns) k).2⟩/\(dt es)=dt (eY (eL c.ns) k).1+k/\(dt (kW es))=dt (eY (eL c.ns) k).1
 |0,K=>by
  have v:=af6 h V1;rw[z]at v;have w0:=kJ h;unfold qE at w0;rw[Zh]at w0;have e: ∀s,rE c Zb s=rB Zb (qT c s):=λs=>by unfold rE;rw[Zh,zE u]
  obtain⟨s,r1,o⟩:=KI h (l:=l) (f:=0) V1 e (Vi (s:=eL c.ns) V1).1 (new2 c) v w0;exact⟨s,_,r1,o,by rw[bB,Nat.add_zero],by rw[EL]⟩
 |k+1,K=>by
  have⟨s,es,r1,o,C,D⟩:=ah7 u N z M k V1;have e: ∀s,rE c Zb s=rB Zb (qT c s):=λs=>by unfold rE;rw[Zh,zE u]
  have g:dt (eY (eL c.ns) (k+1)).1=dt (eY (eL c.ns) k).1+dt ([(1,1)]++(vl (k+1) (eY (eL c.ns) k).2).1):=by
   show(dt ((eY (eL c.ns) k).1++[(1,1)]++(vl (k+1) (eY (eL c.ns) k).2).1))=_;rw[List.append_assoc,aB]
  have A:=Ld (s:=eL c.ns) (k:=k) V1 V1;rw[<-o]at A;have w:s.q= -1:=congrArg Mc.q o;have E:s.L=(k:Int):=congrArg Mc.L o;have F:s.p=(k:Int):=congrArg Mc.p o;have H:mL c s.W=(eY (eL c.ns) k).2:=congrArg Mc.t o;have w0:=kJ h;unfold qE at w0;rw[Zh]at w0;have V:=r1.well h w0;have X:=G7 h V u w V1
  have I:qT c (Ga s)=⟨(k:Int)+1,k,-1,(eY (eL c.ns) k).2⟩:=by
   show Mc.mk (s.L+1) s.p s.q (mL c s.W)=_;rw[E,F,w,H]
  have⟨Q,r3,J⟩:=KI h (l:=l) (f:=k+1) V1 e (Vj (s:=eL c.ns) (k:=k) V1 V1).1 (Ga s) I X;refine⟨Q,es++ .more::([(1,1)]++(vl (k+1) (eY (eL c.ns) k).2).1).map .act,r1.app (.more u ((e s).trans A) w V1 V1 r3),J, ?_, ?_⟩
  .rw[aB,aD,bB,C,g];omega
  .rw[BR];show(dt (kW es++kW (([(1,1)]++(vl (k+1) (eY (eL c.ns) k).2).1).map .act)))=_;rw[EL,aB,D,g]
def aO4 (p:c.mode=2):c.len=0:=by
 have hc:=h.hc;have o:=h.num.len;unfold mO at hc;split at hc
 .rename_i k;exact absurd hc k
 split at hc
 .rename_i k;exact absurd hc k
 split at hc
 .rename_i k;exact absurd hc k
 split at hc
 .rename_i k;exact absurd hc k
 rename_i k;unfold hk3 at k;rw[zE p]at k;by_cases e:c.len<0
 .omega
 by_cases g:0<c.len
 .rw[zF e,zE g]at k;omega
 .omega
structure Fin (c:Cx)(l:Nat)(f:Nat)(en:Bool)(s:Dy)(es:List Ev):Prop where
 no:rE c en s=Y
 q:s.q=0
 L:s.L=l
 len:dt es<=(l+1)*(l+2)+8*l+2010
 one:1<=dt (kW es)
 en:c.mode=2->en=Za
def aC2 (e:eo c.mode c.X.length c.T.length c.R c.l c.Q c.k c.len c.words=(c.fixed,c.tp,c.sl,c.ns,0)){l:Nat}(hl:l<=400)(u:c.mode≠2->c.len=l): ∃es f en s,Way c l 0 Zb (qE c) es f en s/\Fin c l f en s es:=by
 have nm:=h.num.mode;have w0:=kJ h;have hns:=h.ns;by_cases g:c.mode=3
 .have K:=u V1;have I:qE c=new1 c:=by unfold qE;rw[zE g]
  rw[I]at w0⊢;obtain⟨o,r1,q1,p1,L1⟩:=NX h (l:=l) (f:=0) g l (new1 c) w0 rfl (by show c.len-0=_;omega);have L1:o.L=c.len:=L1;have p1:o.p=c.len:=p1;have C:=r1.well h w0
  have E:rE c Zb o=O (5,0):=by
   unfold rE nxB;rw[zE g,Zg,Zh]
  have Z:(Gb c 5 0 o).1=0/\(Gb c 5 0 o).2.q=o.L/\(Gb c 5 0 o).2.L=o.L:=by
   unfold Gb;rw[Zh,zE rfl,Zh,Zh,Zh];exact⟨rfl,rfl,rfl⟩
  have mm:wz c (5,0) o:=by
   unfold wz;rw[zE g];exact Z.1
  have ed:sQ c (5,0) o=(Gb c 5 0 o).2:=by unfold sQ;rw[zE g]
  have D:=lW h C E mm;obtain⟨H,r2,q2,L2⟩:=NW h (l:=l) (f:=0) g l (sQ c (5,0) o) D (by rw[ed];omega);rw[ed]at L2;refine⟨_,_,_,H,r1.app (.act E mm r2), ?_,q2,V1, ?_, ?_,λk=>by omega⟩
  .unfold rE nxB;rw[zE g,Zh,Zh]
  .rw[aB,aD,cB,cB];omega
  .rw[BR,aB];show 1<=_+(kW (bD l (Ev.act (9,0)))).length.succ;omega
 have hn:=ag6 h g e;have I:qE c=new2 c:=by unfold qE;rw[zF g]
 rw[I]at w0⊢;by_cases h1:c.mode=1
 .have K:=u V1;have A: ∀s,rE c Zb s=B6 (qT c s):=λs=>by unfold rE;rw[zF g,Zh]
  obtain⟨m',R,N,V,hR⟩:=aA3 (l:=l) (s:=c.ns.toNat) V1 V1;have z:=af6 h g;rw[K]at z;obtain⟨s,r1,w⟩:=KI h (l:=l) (f:=0) g A R (new2 c) z w0;have C:=r1.well h w0;refine⟨_,_,_,s,r1,(A s).trans (by rw[w];exact N), ?_, ?_,by rw[bB];omega, ?_,λk=>by omega⟩
  .rw[<-V,<-w];rfl
  .have D:=C;unfold cy at D;rw[zF g]at D;exact(D.len V1).trans K
  .rw[EL];by_cases c0:l=0
   .rw[zE c0];exact Nat.le_refl _
   .rw[zF c0]at R⊢;generalize pt (2*l) Zb l c.ns.toNat 0 (bD c.ns.toNat Zb) Za=k at R⊢;cases k with
    |nil=>
     exfalso;generalize hM:(⟨(l:Int),0,-1,bD c.ns.toNat (-1)⟩:Mc)=M at R;cases R;rw[<-hM]at V;have:(-1:Int)=0:=V;omega
    |cons _ _=>exact Nat.succ_le_succ (Nat.zero_le _)
 .have F:c.mode=2:=by omega
  have v: ∀en s,rE c en s=rB en (qT c s):=λen s=>by unfold rE;rw[zF g,zE F]
  have hal:=Lc c.ns.toNat l;have hbk:=Vm (wY l (eY c.ns.toNat l).2.length) (eY c.ns.toNat l).2 l
  have hbl:(NV l (eY c.ns.toNat l).2).length<=4*l+2/\1<=(NV l (eY c.ns.toNat l).2).length:=by
   unfold NV frB;rw[aD,aB];split
   .rw[List.length_singleton];omega
   .rw[List.length_nil];omega
  obtain⟨s,es,r1,w,E,Z⟩:=ah7 h F hn (aO4 h F) hl l (Nat.le_refl _);have hx:=Ld (s:=c.ns.toNat) (k:=l) V1 V1;rw[<-w]at hx;obtain⟨b1,b2⟩:=YX (l:=l) (s:=c.ns.toNat) V1 V1;have C:=r1.well h w0;obtain⟨H,r3,J⟩:=KI h (l:=l) (f:=l+1) g (v Za) b1 s w C;refine⟨_,_,_,H,r1.app (.stop F ((v Zb s).trans hx) (congrArg Mc.q w) rfl r3),(v Za H).trans (by rw[J];exact b2),congrArg Mc.q J,congrArg Mc.L J, ?_, ?_,λ_=>rfl⟩
  .rw[aB,aD,bB,E];omega
  .rw[BR,aB];show 1<=_+(kW ((NV l (eY c.ns.toNat l).2).map .act)).length;rw[EL];omega
omit h in
def Fin.le {l:Nat}{es:List Ev}(F:Fin c l f en s es)(g:l<=40):dt es<=6000:=by
 have:=F.len;have e:(l+1)*(l+2)<=41*42:=Nat.mul_le_mul V1 V1;omega
end
end
section
open Go.IntKind renaming wrap -> zH, i64 -> zI, u64 -> zJ
open List renaming append_assoc -> aB, getD_eq_getElem?_getD -> aD, getElem?_append_right -> bB
def am3 (s x:Int):Int:=(3*s+x) % 18446744073709551616
def S36 (l:Zd):Int:=l.foldl am3 1
def SN (a b:Int):yR [a,b]=O (a*b % 18446744073709551616):=by
 unfold yR;rw[I2 (l:=[a,b]) (λs x=>s*x % 18446744073709551616) 1 (c:=id) V2 ?_ ?_]
 .simp only[zG,List.foldl,id];rw[Int.one_mul,Int.mul_emod,Int.emod_emod_of_dvd _ (Int.dvd_refl _),<-Int.mul_emod]
 .intro i hi s;simp only[A4,ag];rw[Zg,cg hi,zG,ad (by simp at hi;omega),OS];rfl
 .intro s;simp only[A4,ag];rw[Zh];rfl
def SM (a b:Int):yQ [a,b]=O ((a+b) % 18446744073709551616):=by
 unfold yQ;rw[I2 (l:=[a,b]) (λs x=>(s+x) % 18446744073709551616) 0 (c:=id) V2 ?_ ?_]
 .simp only[zG,List.foldl,id]
  congr 1
  omega
 .intro i hi s;simp only[A3,ag];rw[Zg,cg hi,zG,ad (by simp at hi;omega),OS];rfl
 .intro s;simp only[A3,ag];rw[Zh];rfl
def Wt (s x:Int):(s*3 % 18446744073709551616+x) % 18446744073709551616=am3 s x:=by
 unfold am3;omega
def Ub (l:Zd)(e:dt l<9223372036854775807):xS l=O (S36 l):=by
 unfold xS;rw[I2 (l:=l) am3 1 (c:=id) e ?_ ?_]
 .rfl
 .intro i hi s;simp only[xe,ag];rw[Zg,cg hi];simp only[zG,SN,SM,Wt];rw[Zi];rfl
 .intro s;simp only[xe,ag];rw[Zh];rfl
def WN (h:Zd)(l:Zd):Zd:=h++(dt l:Int)::l++[S36 (h++(dt l:Int)::l)]
def C2 (l:Zd)(a1 a2 a3 a4 a5 a6 a7 a8 a9 a10 a11 a12 a13 a14 a15 a16:Int)(p:dt l<=1048576):mW l a1 a2 a3 a4 a5 a6 a7 a8 a9 a10 a11 a12 a13 a14 a15 a16=
  O (WN [a1,a2,a3,a4,a5,a6,a7,a8,a9,a10,a11,a12,a13,a14,a15,a16] l):=by
 unfold mW WN;rw[ad (show-9223372036854775808<=(16+(((dt l:Nat)):Int))/\(16+(((dt l:Nat)):Int))<=9223372036854775807 by omega),Zi,qW V1];have o:BU (List.replicate 16 (0:Int)) 0 (List.length (List.replicate 16 (0:Int))) [a1,a2,a3,a4,a5,a6,a7,a8,a9,a10,a11,a12,a13,a14,a15,a16]=[a1,a2,a3,a4,a5,a6,a7,a8,a9,a10,a11,a12,a13,a14,a15,a16]:=rfl;rw[o];have e:Zc (16<=16+(dt l:Int)+2)=Za:=zB V1;have g:Zc ((8:Int)*(16+(dt l:Int)+2)<=140737488355328)=Za:=zB V1;rw[e,g];show gd Za _=_;rw[cf,bn V2 V1,bn V3 V1,Ub _ V3,zG,bn V3 V1];simp only[aB,List.singleton_append]
def Vl (e:Int):Int×Int×Int×Int×Int×Int×Int×Int×Int×Int×Int×Int×Int×Int×Int×Int×Int×Zd:=(0,0,0,0,0,0,0,0,0,0,0,0,0,0,0,0,e,[])
def Qr (w:Zd):Int×Int×Int×Int×Int×Int×Int×Int×Int×Int×Int×Int×Int×Int×Int×Int×Int×Zd:=
 if dt w<18 then Vl 4 else if(dt w:Int)-18<w.getD 16 0 then Vl 4 else if w.getD 16 0<(dt w:Int)-18 then Vl 21
 else if w.getD (dt w-1) 0≠S36 (w.take (dt w-1))then Vl 3 else(w.getD 0 0,w.getD 1 0,w.getD 2 0,w.getD 3 0,w.getD 4 0,w.getD 5 0,w.getD 6 0,w.getD 7 0,w.getD 8 0,w.getD 9 0,w.getD 10 0,w.getD 11 0,w.getD 12 0,w.getD 13 0,w.getD 14 0,w.getD 15 0,0,(w.take (dt w-1)).drop 17)
def JG (w:Zd)(o:dt w<=2000000):kD w=O (Qr w):=by
 unfold kD Qr;rw[qW (show dt w<9223372036854775808 by omega)];simp only[ag];by_cases c1:dt w<18
 .rw[Zg,zE c1];rfl
 rw[Zh,zF c1,Zk,ad (show-9223372036854775808<=(dt w:Int)-1/\(dt w:Int)-1<=9223372036854775807 by omega),show rd w 16=O (w.getD 16 0)from qV (i:=16) V1];simp only[zG,ag];by_cases c2:(dt w:Int)-18<w.getD 16 0
 .rw[zE c2,zE c2];rfl
 rw[zF c2,zF c2];by_cases c3:w.getD 16 0<(dt w:Int)-18
 .rw[zE c3,zE c3];rfl
 rw[zF c3,zF c3]
 have e:am (qI w) cv (0,1)=O (S36 (w.take (dt w-1))):=by
  refine eZ (n:=dt w-1) (λi=>(w.take i).foldl am3 1) V1 ?_ ?_
  .intro i hi;have g:i<dt w:=by omega
   simp only[qI,ag];rw[Zg,cg g,ad (show-9223372036854775808<=(dt w:Int)-1/\(dt w:Int)-1<=9223372036854775807 by omega)];simp only[zG,SN,SM,Wt];rw[Zh,Zi,List.take_succ_eq_append_getElem g,List.foldl_append];rfl
  .simp only[qI,ag];rw[Zg,cg V1,ad (show-9223372036854775808<=(dt w:Int)-1/\(dt w:Int)-1<=9223372036854775807 by omega),zG,Zg];rfl
 rw[e,show rd w ((dt w:Int)-1)=O (w.getD (dt w-1) 0)from by rw[<-qV V1];congr 1;omega];simp only[zG,ag];by_cases c4:w.getD (dt w-1) 0≠S36 (w.take (dt w-1))
 .rw[zE c4,zE c4];rfl
 rw[zF c4,zF c4];unfold dv ak pU;rw[zB (show(0:Int)<=17 by omega),zB (show(17:Int)<=(dt w:Int)-1 by omega),zB (show(dt w:Int)-1<=(dt w:Int)by omega)];show gd Za _=_;rw[cf,bn V3 V1,zG,show(eL ((dt w:Int)-1))=dt w-1 by omega];rfl
def Pz {h:Zd}(e:dt h=16):dt (WN h l)=dt l+18:=by
 simp[WN,e];omega
def YJ {h:Zd}(e:dt h=16):(WN h l).take (dt l+17)=h++(dt l:Int)::l:=by
 unfold WN;rw[List.take_append_of_le_length (by simp[e];omega),List.take_of_length_le (by simp[e];omega)]
def YI {h:Zd}(e:dt h=16):(WN h l).getD (dt l+17) 0=S36 (h++(dt l:Int)::l):=by
 unfold WN;rw[aD,bB (by simp[e];omega)];simp[e];rw[show dt l+17-(16+(dt l+1))=0 by omega];rfl
def aJ4 {h:Zd}(e:dt h=16):(WN h l).getD 16 0=dt l:=by
 unfold WN;rw[aD,aB,bB cJ];simp[e]
def aj0 (l:Zd)(a1 a2 a3 a4 a5 a6 a7 a8 a9 a10 a11 a12 a13 a14 a15 a16:Int):Qr (WN [a1,a2,a3,a4,a5,a6,a7,a8,a9,a10,a11,a12,a13,a14,a15,a16] l)=(a1,a2,a3,a4,a5,a6,a7,a8,a9,a10,a11,a12,a13,a14,a15,a16,0,l):=by
 have e:dt [a1,a2,a3,a4,a5,a6,a7,a8,a9,a10,a11,a12,a13,a14,a15,a16]=16:=rfl;unfold Qr;rw[Pz e,aJ4 e,Zh,Zh,Zh,show dt l+18-1=dt l+17 by omega,YI e,YJ e,zF V2];have g:([a1,a2,a3,a4,a5,a6,a7,a8,a9,a10,a11,a12,a13,a14,a15,a16]++(dt l:Int)::l).drop 17=l:=rfl;rw[g];rfl
def Py {a0:Int}{a1 a2:Zd}{a3:Int}{a4:List bz}{a5:Int}{a6:List bz}{a7 a8:Int}{A C D E F H I J K L e g o p q z:Int}(M:l.length<=1048576):
  mB a0 a1 a2 a3 a4 a5 a6 a7 a8 (WN [A,C,D,E,F,H,I,J,K,L,e,g,o,p,q,z] l)=iw a0 a1 a2 a3 a4 a5 a6 a7 a8 l A C D E F H I J K L e g o p q z:=by
 unfold mB;rw[JG _ (by rw[Pz rfl];omega),aj0];simp only[zG];rw[zA V2,zD];cases iw a0 a1 a2 a3 a4 a5 a6 a7 a8 l A C D E F H I J K L e g o p q z with
 |none=>rfl
 |some x=>
  cases x with
  |inl u=>rfl
  |inr w=>cases w with
   |inl u=>rfl
   |inr v=>rfl
def bI (b:Bool):Int:=cond b 1 0
def R6 (m L q e g:Int):Bool:=cond (Zc (1<e)) Zb (cond (Zc (1<g)) Zb (cond (Zc (1<IntKind.u64.wrap (e+g))) Zb (cond (Zc (m≠2)) (Zc (zH zJ (e+g)=0)) (cond (Zc (g=1)) (cond (!(Zc (0<=q))) (Zc (L=65535)) Zb) (cond (Zc (e=1)) Za (!(Zc (0<=q))))))))
section
variable {c:Cx}
def ab6 (s:Dy)(m:Int)(a b:Bool):lZ m a b c.fixed c.tp c.sl c.ns c.mode c.R c.Q c.len c.words s.L s.p s.q s.c0 s.c1 s.c2 s.c3 s.z c.X c.T c.l c.k c.P c.tk s.lv s.pk c.words s.W=O (s.p,s.q):=rfl
def Wq (h:c.Ok)(g:c.mode≠3)(s:Dy)(e:Wd c s.W)(o: ∀k,k<eL c.ns->0<=iG c s.W k/\iG c s.W k<=65536):du c.fixed c.tp c.sl c.ns c.mode c.R c.Q c.len c.words s.L s.p s.q s.c0 s.c1 s.c2 s.c3 s.z c.X c.T c.l c.k c.P c.tk (c.off 8:Int) c.ns (dt c.X:Int) s.lv s.pk c.words s.W=O (s.p,s.q,mL c s.W):=by
 unfold du;rw[Ie h g e o];rfl
def aM2 (h:c.Ok)(g:c.mode≠3)(s:Dy)(hi:Inv c s)(m:Int)(a b:Bool):gr m a b c.fixed c.tp c.sl c.ns c.mode c.R c.Q c.len c.words s.L s.p s.q s.c0 s.c1 s.c2 s.c3 s.z c.X c.T c.l c.k c.P c.tk (c.off 8:Int) c.ns (dt c.X:Int) s.lv s.pk c.words s.W=O (s.p,s.q,mL c s.W):=by
 unfold gr;exact cd (Wq h g s hi.w λk e=>by have:=hi.tag k e;have:=hi.L;omega) rfl
def aM3 (h:c.Ok)(g:c.mode≠3)(s:Dy)(hi:Inv c s)(m:Int)(a b:Bool):gu m a b c.fixed c.tp c.sl c.ns c.mode c.R c.Q c.len c.words s.L s.p s.q s.c0 s.c1 s.c2 s.c3 s.z c.X c.T c.l c.k c.P c.tk (c.off 8:Int) c.ns (dt c.X:Int) s.lv s.pk c.words s.W=O (s.p,s.q,mL c s.W):=by
 unfold gu;exact cd (Wq h g s hi.w λk e=>by have:=hi.tag k e;have:=hi.L;omega) rfl
def aW6 (s:Dy)(m e g:Int)(a b:Bool):lx e g m a b c.fixed c.tp c.sl c.ns c.mode c.R c.Q c.len c.words s.L s.p s.q s.c0 s.c1 s.c2 s.c3 s.z c.X c.T c.l c.k c.P c.tk s.lv s.pk c.words s.W=O (R6 m s.L s.q e g):=by
 unfold lx;refine cd (ab6 s m a b) ?_;rw[show gx m a b c.fixed c.tp c.sl c.ns c.mode c.R c.Q c.len c.words s.L s.p s.q s.c0 s.c1 s.c2 s.c3 s.z c.X c.T c.l c.k c.P c.tk s.lv s.pk c.words s.W=O s.L from rfl,zG];unfold R6;cases Zc (1<e)<;>cases Zc (1<g)<;>cases Zc (1<IntKind.u64.wrap (e+g))<;>cases Zc (m≠2)<;>cases Zc (g=1)<;>cases Zc (0<=s.q)<;>cases Zc (e=1)<;>rfl
def aW7 (h:c.Ok)(o:c.mode≠3)(s:Dy)(hi:Inv c s)(m e g:Int)(a b:Bool):ly e g m a b c.fixed c.tp c.sl c.ns c.mode c.R c.Q c.len c.words s.L s.p s.q s.c0 s.c1 s.c2 s.c3 s.z c.X c.T c.l c.k c.P c.tk (c.off 8:Int) c.ns (dt c.X:Int) s.lv s.pk c.words s.W=O (R6 m s.L s.q e g):=by
 unfold ly;refine cd (aM2 h o s hi m a b) ?_;rw[show fP m a b c.fixed c.tp c.sl c.ns c.mode c.R c.Q c.len c.words s.L s.p s.q s.c0 s.c1 s.c2 s.c3 s.z c.X c.T c.l c.k c.P c.tk (c.off 8:Int) c.ns (dt c.X:Int) s.lv s.pk c.words s.W=O s.L from rfl,zG];unfold R6;cases Zc (1<e)<;>cases Zc (1<g)<;>cases Zc (1<IntKind.u64.wrap (e+g))<;>cases Zc (m≠2)<;>cases Zc (g=1)<;>cases Zc (0<=s.q)<;>cases Zc (e=1)<;>rfl
def aW8 (h:c.Ok)(o:c.mode≠3)(s:Dy)(hi:Inv c s)(m e g:Int)(a b:Bool):lz e g m a b c.fixed c.tp c.sl c.ns c.mode c.R c.Q c.len c.words s.L s.p s.q s.c0 s.c1 s.c2 s.c3 s.z c.X c.T c.l c.k c.P c.tk (c.off 8:Int) c.ns (dt c.X:Int) s.lv s.pk c.words s.W=O (R6 m s.L s.q e g):=by
 unfold lz;refine cd (aM3 h o s hi m a b) ?_;rw[show fQ m a b c.fixed c.tp c.sl c.ns c.mode c.R c.Q c.len c.words s.L s.p s.q s.c0 s.c1 s.c2 s.c3 s.z c.X c.T c.l c.k c.P c.tk (c.off 8:Int) c.ns (dt c.X:Int) s.lv s.pk c.words s.W=O s.L from rfl,zG];unfold R6;cases Zc (1<e)<;>cases Zc (1<g)<;>cases Zc (1<IntKind.u64.wrap (e+g))<;>cases Zc (m≠2)<;>cases Zc (g=1)<;>cases Zc (0<=s.q)<;>cases Zc (e=1)<;>rfl
def LY (c:Cx)(s:Dy)(en e:Bool):Zd:=WN [zH zJ c.mode,zH zJ s.L,zH zJ s.p,zH zJ (zH zI (s.q+1)),zH zJ c.ns,zH zJ s.c0,zH zJ s.c1,zH zJ s.c2,zH zJ s.c3,zH zJ s.lv,zH zJ s.pk,s.z,bI en,bI e,0,0] s.W
def FE (b:Bool):kC b=O (bI b):=by cases b<;>rfl
def aL9 (s:Dy)(m:Int)(a b:Bool):jA m a b c.fixed c.tp c.sl c.ns c.mode c.R c.Q c.len c.words s.L s.p s.q s.c0 s.c1 s.c2 s.c3 s.z c.X c.T c.l c.k c.P c.tk s.lv s.pk c.words s.W=O (SS c s):=by
 unfold jA;exact cd (YG s) rfl
def aV9 (h:c.Ok)(g:Wd c s.W)(o:dt s.W<=1048576)(m:Int)(en e:Bool):jb m en e c.fixed c.tp c.sl c.ns c.mode c.R c.Q c.len c.words s.L s.p s.q s.c0 s.c1 s.c2 s.c3 s.z c.X c.T c.l c.k c.P c.tk s.lv s.pk c.words s.W=O (LY c s en e):=by
 unfold jb;refine cd (aL9 s m en e) ?_;simp only[SS];refine cd (FE en) (cd (FE e) ?_);refine cd (show lw m en e c.fixed c.tp c.sl c.ns c.mode c.R c.Q c.len c.words s.L s.p s.q s.c0 s.c1 s.c2 s.c3 s.z c.X c.T c.l c.k c.P c.tk s.lv s.pk c.words s.W=O s.W from by unfold lw;exact cd (aN7 h g) rfl) ?_;exact cd (C2 _ _ _ _ _ _ _ _ _ _ _ _ _ _ _ _ _ o) rfl
def aM0 (s:Dy)(m:Int)(a b:Bool):iN m a b c.fixed c.tp c.sl c.ns c.mode c.R c.Q c.len c.words s.L s.p s.q s.c0 s.c1 s.c2 s.c3 s.z c.X c.T c.l c.k c.P c.tk (c.off 8:Int) c.ns (dt c.X:Int) s.lv s.pk c.words s.W=O (SS c s):=by
 unfold iN;exact cd (Rd s) rfl
def aW0 (h:c.Ok)(g:Wd c s.W)(o:dt s.W<=1048576)(m:Int)(en e:Bool):jc m en e c.fixed c.tp c.sl c.ns c.mode c.R c.Q c.len c.words s.L s.p s.q s.c0 s.c1 s.c2 s.c3 s.z c.X c.T c.l c.k c.P c.tk (c.off 8:Int) c.ns (dt c.X:Int) s.lv s.pk c.words s.W=O (LY c s en e):=by
 unfold jc;refine cd (aM0 s m en e) ?_;simp only[SS];refine cd (FE en) (cd (FE e) ?_);refine cd (show jy m en e c.fixed c.tp c.sl c.ns c.mode c.R c.Q c.len c.words s.L s.p s.q s.c0 s.c1 s.c2 s.c3 s.z c.X c.T c.l c.k c.P c.tk (c.off 8:Int) c.ns (dt c.X:Int) s.lv s.pk c.words s.W=O s.W from by unfold jy;exact cd (ad1 h g) rfl) ?_;exact cd (C2 _ _ _ _ _ _ _ _ _ _ _ _ _ _ _ _ _ o) rfl
def aM1 (s:Dy)(m:Int)(a b:Bool):iO m a b c.fixed c.tp c.sl c.ns c.mode c.R c.Q c.len c.words s.L s.p s.q s.c0 s.c1 s.c2 s.c3 s.z c.X c.T c.l c.k c.P c.tk (c.off 8:Int) c.ns (dt c.X:Int) s.lv s.pk c.words s.W=O (SS c s):=by
 unfold iO;exact cd (Rd s) rfl
def aW1 (h:c.Ok)(g:Wd c s.W)(o:dt s.W<=1048576)(m:Int)(en e:Bool):jd m en e c.fixed c.tp c.sl c.ns c.mode c.R c.Q c.len c.words s.L s.p s.q s.c0 s.c1 s.c2 s.c3 s.z c.X c.T c.l c.k c.P c.tk (c.off 8:Int) c.ns (dt c.X:Int) s.lv s.pk c.words s.W=O (LY c s en e):=by
 unfold jd;refine cd (aM1 s m en e) ?_;simp only[SS];refine cd (FE en) (cd (FE e) ?_);refine cd (show jz m en e c.fixed c.tp c.sl c.ns c.mode c.R c.Q c.len c.words s.L s.p s.q s.c0 s.c1 s.c2 s.c3 s.z c.X c.T c.l c.k c.P c.tk (c.off 8:Int) c.ns (dt c.X:Int) s.lv s.pk c.words s.W=O s.W from by unfold jz;exact cd (ad1 h g) rfl) ?_;exact cd (C2 _ _ _ _ _ _ _ _ _ _ _ _ _ _ _ _ _ o) rfl
def Qs (g:dt s.W<=1048576)(en e:Bool):kD (LY c s en e)=O (zH zJ c.mode,zH zJ s.L,zH zJ s.p,zH zJ (zH zI (s.q+1)),zH zJ c.ns,zH zJ s.c0,zH zJ s.c1,zH zJ s.c2,zH zJ s.c3,zH zJ s.lv,zH zJ s.pk,s.z,bI en,bI e,0,0,0,s.W):=by
 unfold LY;rw[JG _ (by rw[Pz rfl];omega),aj0]
def TB (h:c.Ok)(u:c.mode=3)(e:eo c.mode (dt c.X) (dt c.T) c.R c.l c.Q c.k c.len c.words=(c.fixed,c.tp,c.sl,c.ns,0))(hi:InvB c s)(o:Ec B s)(g:B<=2305843009213693952)(x y:Int):
  iw c.mode c.X c.T c.R c.l c.Q c.k c.len c.words s.W (zH zJ c.mode) (zH zJ s.L) (zH zJ s.p) (zH zJ (zH zI (s.q+1))) (zH zJ c.ns) (zH zJ s.c0) (zH zJ s.c1) (zH zJ s.c2) (zH zJ s.c3) (zH zJ s.lv) (zH zJ s.pk) s.z x y 0 0=O (.inr (.inl (Vy c s))):=aJ8 h u e hi o g
def Lb (h:c.Ok)(v:c.mode≠3)(e:eo c.mode (dt c.X) (dt c.T) c.R c.l c.Q c.k c.len c.words=(c.fixed,c.tp,c.sl,c.ns,0))(hi:Inv c s)(o:Hg c s)(u:Ec B s)(g:B<=2305843009213693952)(x y:Int):
  iw c.mode c.X c.T c.R c.l c.Q c.k c.len c.words s.W (zH zJ c.mode) (zH zJ s.L) (zH zJ s.p) (zH zJ (zH zI (s.q+1))) (zH zJ c.ns) (zH zJ s.c0) (zH zJ s.c1) (zH zJ s.c2) (zH zJ s.c3) (zH zJ s.lv) (zH zJ s.pk) s.z x y 0 0=O (.inr (.inr (N4 c s))):=aJ9 h v e hi o u g
def Mh {L q:Int}{m:Int}(g:m≠2->en=Zb)(o:0<=q->m=2->en=Za):R6 m L q (bI en) (bI Zb)=Za:=by
 unfold R6;cases en with
 |false=>
  have e: ¬(0<=q/\m=2):=λk=>by cases o k.1 k.2
  by_cases c1:m=2
  .rw[zA (show¬(m≠2)from λk=>k c1),zA (show¬(0<=q)from λk=>e ⟨k,c1⟩)];rfl
  .rw[zB (show m≠2 from c1)];rfl
 |true=>
  have c1:m=2:=Classical.byContradiction λk=>by cases g k
  rw[zA (show¬(m≠2)from λk=>k c1)];rfl
def Ym (h:c.Ok)(o:c.mode=3)(e:eo c.mode (dt c.X) (dt c.T) c.R c.l c.Q c.k c.len c.words=(c.fixed,c.tp,c.sl,c.ns,0))(hi:InvB c s)(w:Ec B s)(v:B<=2305843009213693952)(g:dt s.W<=1048576):
  gJ c.mode c.X c.T c.R c.l c.Q c.k c.len c.words (LY c s Zb Zb)=O (.inr (.inl (c.mode,Zb,Zb,c.fixed,c.tp,c.sl,c.ns,c.mode,c.R,c.Q,c.len,c.words,s.L,s.p,s.q,s.c0,s.c1,s.c2,s.c3,s.z,c.X,c.T,c.l,c.k,c.P,c.tk,s.lv,s.pk,c.words,s.W))):=by
 unfold gJ;have u:mB c.mode c.X c.T c.R c.l c.Q c.k c.len c.words (LY c s Zb Zb)=O (.inr (.inl (Vy c s))):=(Py g).trans (TB h o e hi w v _ _);refine cd u ?_;simp only[cb,gi,Vy];refine cd (Qs g Zb Zb) ?_
 refine cd (show mA c.mode c.X c.T c.R c.l c.Q c.k c.len c.words c.fixed c.tp c.sl c.ns c.mode c.R c.Q c.len c.words s.L s.p s.q s.c0 s.c1 s.c2 s.c3 s.z c.X c.T c.l c.k c.P c.tk s.lv s.pk c.words s.W=O (c.mode,Zb,Zb)from by
  simp only[mA,o]
  rfl) ?_
 refine cd (aW6 s c.mode (bI Zb) (bI Zb) Zb Zb) ?_;rw[Mh (λ_=>rfl) (λ_ k=>by omega)];rfl
def Yn (h:c.Ok)(D:c.mode=1)(e:eo c.mode (dt c.X) (dt c.T) c.R c.l c.Q c.k c.len c.words=(c.fixed,c.tp,c.sl,c.ns,0))(hi:Inv c s)(A:Hg c s)(C:Ec B s)(w:B<=2305843009213693952)(g:dt s.W<=1048576)(u:c.mode≠2->en=Zb)(v:0<=s.q->c.mode=2->en=Za):
  gJ c.mode c.X c.T c.R c.l c.Q c.k c.len c.words (LY c s en Zb)=O (.inr (.inr (.inl (c.mode,en,Zb,c.fixed,c.tp,c.sl,c.ns,c.mode,c.R,c.Q,c.len,c.words,s.L,s.p,s.q,s.c0,s.c1,s.c2,s.c3,s.z,c.X,c.T,c.l,c.k,c.P,c.tk,(c.off 8:Int),c.ns,(dt c.X:Int),s.lv,s.pk,c.words,s.W)))):=by
 unfold gJ;have o:mB c.mode c.X c.T c.R c.l c.Q c.k c.len c.words (LY c s en Zb)=O (.inr (.inr (N4 c s))):=(Py g).trans (Lb h V1 e hi A C w _ _);refine cd o ?_;simp only[cb,N4];refine cd (Qs g en Zb) ?_
 refine cd (show gK c.mode c.X c.T c.R c.l c.Q c.k c.len c.words c.fixed c.tp c.sl c.ns c.mode c.R c.Q c.len c.words s.L s.p s.q s.c0 s.c1 s.c2 s.c3 s.z c.X c.T c.l c.k c.P c.tk (c.off 8:Int) c.ns (dt c.X:Int) s.lv s.pk c.words s.W=O (.inl (c.mode,Zb,Zb))from by
  simp only[gK,D]
  rfl) ?_
 rw[gi];refine cd (aW7 h V1 s hi c.mode (bI en) (bI Zb) Zb Zb) ?_;rw[Mh u v];cases en<;>rfl
def Yo (h:c.Ok)(D:c.mode=2)(e:eo c.mode (dt c.X) (dt c.T) c.R c.l c.Q c.k c.len c.words=(c.fixed,c.tp,c.sl,c.ns,0))(hi:Inv c s)(A:Hg c s)(C:Ec B s)(w:B<=2305843009213693952)(g:dt s.W<=1048576)(u:c.mode≠2->en=Zb)(v:0<=s.q->c.mode=2->en=Za):
  gJ c.mode c.X c.T c.R c.l c.Q c.k c.len c.words (LY c s en Zb)=O (.inr (.inr (.inr (c.mode,en,Zb,c.fixed,c.tp,c.sl,c.ns,c.mode,c.R,c.Q,c.len,c.words,s.L,s.p,s.q,s.c0,s.c1,s.c2,s.c3,s.z,c.X,c.T,c.l,c.k,c.P,c.tk,(c.off 8:Int),c.ns,(dt c.X:Int),s.lv,s.pk,c.words,s.W)))):=by
 unfold gJ;have o:mB c.mode c.X c.T c.R c.l c.Q c.k c.len c.words (LY c s en Zb)=O (.inr (.inr (N4 c s))):=(Py g).trans (Lb h V1 e hi A C w _ _);refine cd o ?_;simp only[cb,N4];refine cd (Qs g en Zb) ?_
 refine cd (show gK c.mode c.X c.T c.R c.l c.Q c.k c.len c.words c.fixed c.tp c.sl c.ns c.mode c.R c.Q c.len c.words s.L s.p s.q s.c0 s.c1 s.c2 s.c3 s.z c.X c.T c.l c.k c.P c.tk (c.off 8:Int) c.ns (dt c.X:Int) s.lv s.pk c.words s.W=O (.inr (c.mode,Zb,Zb))from by
  simp only[gK,D]
  rfl) ?_
 rw[cb];refine cd (aW8 h V1 s hi c.mode (bI en) (bI Zb) Zb Zb) ?_;rw[Mh u v];cases en<;>rfl
end
end
end Go.V
