/- A part of the proof. No condition. -/
import Derived.Test.YtgnojcajllcmoaaGreatDoorL2
import Derived.KernelRfl
import Derived.Test.YtgnojcajllcmoaaGreatDoorA6
import Derived.Test.YtgnojcajllcmoaaGreatDoorD2
set_option linter.all false
namespace Go.V
open Go.Ab
open Option renaming some->O,none->Y
open Bool renaming true->Za,false->Zb
open Decidable renaming decide->Zc
open List renaming mem_append->cI
open List renaming mem_cons->aw
open List renaming mem_range->cJ
open List renaming mem_singleton->cc
open List renaming length->hW
open Int renaming toNat->hX
open Option renaming bind->im
variable {W at' ax l r st t w:Zd}{c d d' i j k:Nat}{s:Dy}{B a b x y:Int}
set_option maxRecDepth 100000
section
open Go.IntKind renaming wrap->zH,i64->zI,u64->zJ
open Bool renaming not_true->aB
open Int renaming mul_comm->aD,mul_le_mul_of_nonneg_left->bB
def dne {i:Decidable<|x≠x}: @Zc (x≠x) i=Zb:=zA λk=>k rfl
section
variable {c:Cx}
def ap6 (c:Cx)(s:Dy):Int×Int×Int×Int×Int×Int×Int×Int×Int×Int×Int×Int×Int×Int×Int×Int:=
 (zH zJ c.mode,zH zJ s.L,zH zJ s.p,zH zJ<|zH zI<|s.q+1,zH zJ c.ns,zH zJ s.c0,zH zJ s.c1,zH zJ s.c2,zH zJ s.c3,zH zJ s.lv,zH zJ s.pk,s.z,0,0,0,0)
theorem ar9 (p:hW l<1000000):am (iz l) co (0,0)=O ((l.countP λt=>Zc (0<=t):Nat):Int):=by
 have h: ∀i,((l.take i).countP λt=>Zc<|0<=t)<=hW l:=λi=>Nat.le_trans List.countP_le_length V3
 have e:am (iz l) co (0,(((l.take 0).countP λt=>Zc (0<=t):Nat):Int))=O (((l.take<|hW l).countP λt=>Zc (0<=t):Nat):Int):=by
  refine cn (n:=hW l) (λi=>(((l.take i).countP λt=>Zc (0<=t):Nat):Int)) V1 (λi hi=> ?_) ?_
  .have o:=h i;unfold iz;simp only;rw[zB (show(i:Int)<(hW l:Int)by omega),zC,bn hi,zG,List.getElem?_eq_getElem hi,zG,ae (n:=(i:Int)+1) V1,List.take_succ_eq_append_getElem hi,List.countP_append,ah];by_cases g:0<=l[i]
   .rw[zE g,Zi];simp[g]
   rw[zF g];simp[g]
  unfold iz
  grind
 rw[List.take_length]at e;exact e
theorem as0 (W:Zd):((lu c W).countP λt=>Zc<|0<=t)=kt c W:=by
 unfold lu kt;rw[List.countP_map];apply List.countP_congr
 grind
theorem TY (h:c.Ok)(g:c.mode≠3)(u:Wd c W)(z: ∀k,k<hX c.ns->0<=iG c W k/\iG c W k<=65536):tc (c.off 8:Int) c.ns (hW c.X:Int) c.tk W=O (.inr ((c.off 8:Int),c.ns,(hW c.X:Int))):=by
 have n:=h.num;have I:=n.x;have C:=h.ns;have nm:=n.mul;have H:=n.words;have e:=n.sl;rw[zF g]at e;have F:=h.off9_le;have v:c.off 9=c.off 8+hX (c.sl*c.ns):=O6;have⟨D,E⟩:=u.tk h;unfold tc my fp;rw[zB (show 0<=c.ns by omega),zB (show c.ns<=1048576 by omega),zB (show 1<=(hW c.X:Int)by omega),zB (show(hW c.X:Int)<=64 by omega)];simp only[zC,zD,aB,zG];rw[ae (n:=(hW c.X:Int)+1) V1,<-e,aD c.ns,ae (n:=c.sl*c.ns) V1]
 have p:ei (c.off 8:Int) (c.sl*c.ns) c.tk W=O (0,seg W (c.off 8)<|hX<|c.sl*c.ns):=by
  have:=Bb (W:=W) (o:=c.off 8) (n:=hX<|c.sl*c.ns) (tk:=c.off 9) V1 D E;rw[Int.toNat_of_nonneg nm]at this;exact this
 rw[p,zG,zA V2,zD]
 have q:am (oL (c.off 8:Int) c.ns (hW c.X:Int) c.tk W) co 0=O (.inr ()):=by
  refine nO (n:=hX c.ns) V1 (λi hi=> ?_) ?_
  .have A:=z i hi;unfold oL;rw[Zf,zC,Br h g hi,zG,Kk h g u hi,zG,Ze,zD,Zi];rfl
  unfold oL
  grind
 rw[q];rfl
def Y5 (c:Cx)(s:Dy):Int×Int×Int×Int×Int×Int×Int×Int×Int×Int×Int×Int×Int×Int×Int×Int×Int×Zd×Zd×(List<|Int×Int×Int×Int×Int)×(List<|Int×Int×Int×Int×Int)×Zd×Int×Int×Int×Int×Zd:=
 (c.fixed,c.tp,c.sl,c.ns,c.mode,c.R,c.Q,c.len,c.words,s.L,s.p,s.q,s.c0,s.c1,s.c2,s.c3,s.z,c.X,c.T,c.l,c.k,c.P,c.tk,s.lv,s.pk,c.words,s.W)
def QW (c:Cx)(s:Dy):Int×Int×Int×Int×Int×Int×Int×Int×Int×Int×Int×Int×Int×Int×Int×Int×Int×Zd×Zd×(List<|Int×Int×Int×Int×Int)×(List<|Int×Int×Int×Int×Int)×Zd×Int×Int×Int×Int×Int×Int×Int×Zd:=
 (c.fixed,c.tp,c.sl,c.ns,c.mode,c.R,c.Q,c.len,c.words,s.L,s.p,s.q,s.c0,s.c1,s.c2,s.c3,s.z,c.X,c.T,c.l,c.k,c.P,c.tk,(c.off 8:Int),c.ns,(hW c.X:Int),s.lv,s.pk,c.words,s.W)
def wIU {n:Int}(h:0<=n/\n<=9223372036854775807):zH zI (zH zJ n)=n:=by
 rw[Zj,Zi]
def N1 (h:c.Ok)(e:Wd c W):zq W=O (.inr W):=by
 have f:=yf h;have g:=h.num.words;unfold Wd at e;unfold zq sq;rw[Ze,zD,Ze,zD,zG,zA V2,zD,xY V1];rfl
theorem VE {lv pk:Int}(h:0<=lv)(e:lv<=pk)(g:pk<=b):qx b lv pk=O (.inr (lv,pk,b)):=by
 unfold qx
 grind
def I5 (c:Cx)(s:Dy):Prop:=c.mode≠2->s.L=c.len
def bf4 (h:c.Ok)(A:c.mode≠3)(e:gP c.mode c.X.length c.T.length c.R c.l c.Q c.k c.len c.words=(c.fixed,c.tp,c.sl,c.ns,0))(hi:Inv c s)(hL:I5 c s)(hc:FL B s)(hB:B<=2305843009213693952):
  iI c.mode c.X c.T c.R c.l c.Q c.k c.len c.words s.W (zH zJ c.mode) (zH zJ s.L) (zH zJ s.p) (zH zJ<|zH zI<|s.q+1) (zH zJ c.ns) (zH zJ s.c0) (zH zJ s.c1) (zH zJ s.c2) (zH zJ s.c3) (zH zJ s.lv) (zH zJ s.pk) s.z 0 0 0 0=O (.inr<|.inr<|QW c s):=by
 have n:=h.num;have f:=yf h;have nw:=n.words;have nns:=h.ns;have nm:=n.mul;have M:=n.len;have J:=n.mode;have C:=hi.w;have hp:=hi.p;have hq:=hi.q;have H:=hi.L;have D:=hi.pk;obtain⟨k0,k1,k2,k3⟩:=hc.in' hB;obtain⟨N,g2,g3,g4⟩:=JQ h hi;have h9:=h.off9_le;have Z:c.off 9=c.off 8+(c.sl*c.ns).toNat:=O6;obtain⟨t1,t2⟩:=C.tk h;have hWl:s.W.length=c.words.toNat:=C;unfold iI;rw[J1 h e];simp only[zG,cg];rw[cb (n:=((s.W.length:Nat):Int)) V1,cb (n:=c.words) V1,zA (show¬(((s.W.length:Nat):Int)≠c.words)by omega),zD,dne,zD,dne,zD]
 have v:iQ (zH zJ s.L) c.fixed c.tp c.sl c.ns c.mode c.R c.Q c.len c.words c.len 0 (-1) 0 0 0 0 0 c.X c.T c.l c.k c.P=O Za:=by
  unfold iQ;rw[ah];by_cases F:c.mode=2
  .rw[zE F,Zj,Zf]
  .rw[zF F,hL F,zB rfl]
 rw[v];simp only[zG,aB,zD];have I:zH zI (s.q+1)=s.q+1:=ae V1;rw[I,cb (n:=s.L) V1,cb (n:=s.p) V1,cb (n:=s.q+1) V1,cb (n:=s.L+1) V1,cb (n:=s.lv) V1,cb (n:=s.pk) V1,zA (show¬s.L<s.p by omega),zD,zA (show¬s.L+1<s.q+1 by omega),zD,zA (show¬c.words<s.lv by omega),zD,zA (show¬c.words<s.pk by omega),zD,N1 h C];simp only[zG,cg];rw[show ix 8 c.P.length=O 8 from bn (k:=8) ZB];simp only[zG];rw[Cx.P_get (show 8<10 by omega)];simp only[zG]
 have E:dn (zH zI<|(c.off 8:Int)+zH zI (c.ns*c.sl)) 0 s.W=O (0,0,c.tk):=by
  rw[aD,ae (n:=c.sl*c.ns) V1,Zi,show(c.off 8:Int)+c.sl*c.ns=((c.off 9:Nat):Int)by omega];have:=HD (o:=0) (n:=c.off 9) (W:=s.W) V1 V1;rw[Nat.zero_add]at this;exact this
 rw[E];simp only[zG];rw[ae (n:=s.L) V1,ae (n:=s.p) V1,ae (n:=s.q+1) V1,ae (n:=s.q+1-1) V1,show s.q+1-1=s.q by omega];unfold jJ fQ;simp only[zG];rw[zA A,zD,show ix 8 c.P.length=O 8 from bn (k:=8) ZB];simp only[zG];rw[Cx.P_get (show 8<10 by omega)];simp only[zG];have g: ∀k,k<c.ns.toNat->0<=iG c s.W k/\iG c s.W k<=65536:=λk hk=>by have:=hi.tag k hk;omega
 rw[TY h A C g];simp only[zG,cg];unfold pN
 have u:(lu c s.W).length<1000000:=by
  rw[pD];rcases Nat.eq_zero_or_pos c.ns.toNat with h0|h0
  .omega
  .have:=(sM h A h0).2.2;omega
 rw[Kl h A C g];simp only[zG];rw[ED H hp hq u<|Km hi.tag];simp only[zG,cg,aB,zD];unfold pP dj;simp only[zG];rw[zA A,Bool.not_false,zC];unfold qJ;rw[Kl h A C g];simp only[zG];rw[ar9 u,as0];simp only[zG];have hlv:=hi.lv;have hul:=ae3 c s.W;have K:1<=c.sl:=by have:=n.sl;rw[zF A]at this;omega
 have h8:c.sl*(kt c s.W:Int)<=c.sl*c.ns:=bB V1 V1;have V:0<=c.sl*(kt c s.W:Int):=Int.mul_nonneg V1 V1;rw[aD ((kt c s.W:Nat):Int),ae (n:=c.sl*(kt c s.W:Int)) V1,ae (n:=c.fixed+c.sl*(kt c s.W:Int)) V1,ae (n:=s.lv) V1,zA (show¬(s.lv≠c.fixed+c.sl*(kt c s.W:Int))by omega),zD];simp only[zG,cg];rw[ae (n:=s.pk) V1,VE N D.1 D.2];simp only[zG,cg];rw[wIU V1,wIU V1,wIU V1,wIU V1];rfl
theorem bf3 (h:c.Ok)(A:c.mode=3)(e:gP c.mode (hW c.X) (hW c.T) c.R c.l c.Q c.k c.len c.words=(c.fixed,c.tp,c.sl,c.ns,0))(hi:InvB c s)(hc:FL B s)(V:B<=2305843009213693952):
  iI c.mode c.X c.T c.R c.l c.Q c.k c.len c.words s.W (zH zJ c.mode) (zH zJ s.L) (zH zJ s.p) (zH zJ<|zH zI<|s.q+1) (zH zJ c.ns) (zH zJ s.c0) (zH zJ s.c1) (zH zJ s.c2) (zH zJ s.c3) (zH zJ s.lv) (zH zJ s.pk) s.z 0 0 0 0=O (.inr<|.inl<|Y5 c s):=by
 have n:=h.num;have f:=yf h;have nw:=n.words;have nns:=h.ns;have nm:=n.mul;have J:=n.len;have F:=n.mode;have D:=hi.w;have hp:=hi.p;have hq:=hi.q;have Z:=hi.L;have v:=hi.pk;have hqp:=hi.qp;have⟨k0,k1,k2,k3⟩:=hc.in' V;have⟨K,g2,g3,g4,g5,g6,g7⟩:=XP h A hi;have h9:=h.off9_le;have N:c.off 9=c.off 8+hX (c.sl*c.ns):=O6;have⟨t1,t2⟩:=D.tk h;have hWl:hW s.W=hX c.words:=D;unfold iI;rw[J1 h e];simp only[zG,cg];rw[cb (n:=((hW s.W:Nat):Int)) V1,cb (n:=c.words) V1,zA (show¬(((hW s.W:Nat):Int)≠c.words)by omega),zD,dne,zD,dne,zD]
 have u:iQ (zH zJ s.L) c.fixed c.tp c.sl c.ns c.mode c.R c.Q c.len c.words c.len 0 (-1) 0 0 0 0 0 c.X c.T c.l c.k c.P=O Za:=by
  unfold iQ
  grind
 rw[u];simp only[zG,aB,zD];have E:zH zI (s.q+1)=s.q+1:=ae V1;rw[E,cb (n:=s.L) V1,cb (n:=s.p) V1,cb (n:=s.q+1) V1,cb (n:=s.L+1) V1,cb (n:=s.lv) V1,cb (n:=s.pk) V1,zA (show¬s.L<s.p by omega),zD,zA (show¬s.L+1<s.q+1 by omega),zD,zA (show¬c.words<s.lv by omega),zD,zA (show¬c.words<s.pk by omega),zD,N1 h D];simp only[zG,cg];rw[show ix 8 (hW c.P)=O 8 from bn (k:=8) ZB,zG,Cx.P_get (show 8<10 by omega),zG]
 have C:dn (zH zI<|(c.off 8:Int)+zH zI (c.ns*c.sl)) 0 s.W=O (0,0,c.tk):=by
  rw[aD,ae (n:=c.sl*c.ns) V1,Zi,show(c.off 8:Int)+c.sl*c.ns=((c.off 9:Nat):Int)by omega];have:=HD (o:=0) (n:=c.off 9) (W:=s.W) V1 V1;rw[Nat.zero_add]at this;exact this
 rw[C,zG,ae (n:=s.L) V1,ae (n:=s.p) V1,ae (n:=s.q+1) V1,ae (n:=s.q+1-1) V1,show s.q+1-1=s.q by omega];unfold jJ fQ;simp only[zG];rw[zB A,zC];simp only[zG,gr,aB,zD];unfold pO fQ;simp only[zG];rw[zB A,aB,zD]
 have g:cond (Zc<|s.q<0) (O s.p) (O s.q)=O (jk s):=by
  unfold jk;rw[ah];split<;>rfl
 rw[g,zG];have hlv:=hi.lv;have H:0<=jk s/\jk s<=c.ns:=by unfold jk;split<;>omega
 have I:1<=c.sl:=by have:=n.sl;rw[zE A]at this;have:=n.R;omega
 have h8:c.sl*jk s<=c.sl*c.ns:=bB H.2 V1;have M:0<=c.sl*jk s:=Int.mul_nonneg V1 H.1;rw[aD<|jk s,ae (n:=c.sl*jk s) V1,ae (n:=c.fixed+c.sl*jk s) V1,ae (n:=s.lv) V1,zA (show¬(s.lv≠c.fixed+c.sl*jk s)by omega),zD];simp only[zG,cg,gr];rw[ae (n:=s.pk) V1,VE K v.1 v.2];simp only[zG,cg];rw[wIU V1,wIU V1,wIU V1,wIU V1];rfl
end
end
section
open List renaming length_take->aB
section
variable {c:Cx}
theorem aT6 (h:c.Ok)(D:c.mode=3)(hi:InvB c s)(a n:Int):InvB c (Hz c a n s).2:=by
 have nm:=h.num;have C:=hi.w;have E:=hi.L;have N:=hi.p;have V:=hi.q;have Q:=hi.pk;have Z:=hi.qp;have M:=h.ns;have nR:=nm.R;have n1:=nm.xtR;have nx:=nm.x;have⟨g1,g2,g3,g4,J,g6,g7⟩:=XP h D hi;have H:=nm.tp;rw[zE D]at H;have l1:hW (seg s.W (c.off 1)<|hW c.X)=hW c.X:=eV<|C.in' h (i:=1) V1;have z1:c.sz 1=hW c.X:=rfl;have o1:=gJ (c:=c) (i:=1) (j:=9) V1;unfold Hz;by_cases a8:a=8
 .rw[zE a8];by_cases z:n≠0
  .rw[zE z];exact hi
  rw[zF z];by_cases u:0<=s.q
  .rw[zE u];exact hi
  rw[zF u];by_cases g:s.p=s.L
  .rw[zE g];exact hi
  rw[zF g];have e:jk s=s.p:=by unfold jk;rw[Zg]
  have A:hX s.p<hX c.ns:=by omega
  have⟨s1,s2,s3,s4⟩:=DC h D A;have⟨f1,f2,f3⟩:=iW h C s.p;have w1:=Az h C s.p;have F:hW ((stepR c s.W s.p).2.1++(stepR c s.W s.p).1)=hX c.sl:=by rw[List.length_append];omega
  have w2:=w1.put h (w:=(stepR c s.W s.p).2.1++(stepR c s.W s.p).1) (o:=jC c<|hX s.p) (by rw[F];exact s3);have K:=J (by rw[e];omega);refine⟨w2.put h Z4,E,⟨by show 0<=s.p+1;omega,by show s.p+1<=s.L;omega⟩,V,λv=> ?_, ?_, ?_⟩
  .have v:0<=s.q:=v;omega
  .show s.lv+c.sl=c.fixed+c.sl*(if s.q<0 then s.p+1 else s.q);rw[Zg,hi.lv,e,Int.mul_add,Int.mul_one];omega
  grind
 rw[zF a8];by_cases a5:a=5
 .rw[zE a5];by_cases z:n≠0
  .rw[zE z];exact hi
  rw[zF z];by_cases u:0<=s.q
  .rw[zE u];exact hi
  rw[zF u];by_cases g:s.p≠s.L
  .rw[zE g];exact hi
  rw[zF g];refine⟨(Ey h C l1).2,E,N,⟨by show-1<=s.L;omega,Int.le_refl _⟩,λ_=>by show s.p=s.L;omega, ?_, ?_⟩
  .show s.lv=c.fixed+c.sl*(if s.L<0 then s.p else s.L);rw[Zh,hi.lv];unfold jk
   grind
  grind
 rw[zF a5];by_cases I:a=9
 .rw[zE I];by_cases z:n≠0
  .rw[zE z];exact hi
  rw[zF z];by_cases v:s.q<1
  .rw[zE v];exact hi
  rw[zF v];have A:hX (s.q-1)<hX c.ns:=by omega
  have⟨b1,b2,b3,b4,b5,b6⟩:=LU h D C A;have⟨v1,v2,v3⟩:=og h (a:=(zk c s.W<|hX<|s.q-1).2.1) C V1 V1;refine⟨v3.put h Z4,E,⟨by show 0<=s.q-1;omega,by show s.q-1<=s.L;omega⟩,⟨by show-1<=s.q-1;omega,by show s.q-1<=s.L;omega⟩,λ_=>rfl, ?_, ?_⟩
  .show s.lv-c.sl=c.fixed+c.sl*(if s.q-1<0 then s.q-1 else s.q-1);have e:jk s=s.q:=by unfold jk;rw[Zh]
   rw[Zh,hi.lv,e,Int.mul_sub,Int.mul_one];omega
  show s.lv-c.sl<=s.pk/\s.pk<=c.words;have:=nm.sl;rw[zE D]at this;omega
 rw[zF I];exact hi
def aT5 (g:FL B s)(a n:Int):FL (B+65536) (Hz c a n s).2:=by
 have e:FL (B+65536) s:=by unfold FL at g⊢;omega
 unfold Hz
 repeat' split
 all_goals first|exact e|(unfold FL at g⊢;simp only;omega)
def zn (c:Cx)(s:Dy):Int×Dy:=if c.mode≠2 then(19,s)else if 0<=s.q then(19,s)else if s.L=65535 then(14,s)else(0,{s with L:=s.L+1})
def Rj (g:FL B s):FL (B+65536) (zn c s).2:=by
 have e:FL (B+65536) s:=by unfold FL at g⊢;omega
 unfold zn
 repeat' split
 all_goals first|exact e|(unfold FL at g⊢;simp only;omega)
def XT (e:c.mode=3)(hi:InvB c s):InvB c (zn c s).2:=by
 unfold zn;rw[Zg];exact hi
def XU (hi:Inv c s):Inv c (zn c s).2:=by
 unfold zn;split
 .exact hi
 split
 .exact hi
 split
 .exact hi
 have:=hi.L;have:=hi.p;have:=hi.q;exact⟨hi.w,⟨by show 0<=s.L+1;omega,by show s.L+1<=65535;omega⟩,⟨hi.p.1,by show s.p<=s.L+1;omega⟩,⟨hi.q.1,by show s.q<=s.L+1;omega⟩,λk e=>by have:=hi.tag k e;exact⟨this.1,by show iG c s.W k<=s.L+1+1;omega⟩,hi.lv,hi.pk⟩
def an0 (g:I5 c s):I5 c (zn c s).2:=by
 intro e;unfold zn;rw[zE e];exact g e
theorem br3 (a n:Int)(s:Dy):(E6 c a n s).2.L=s.L:=by
 unfold E6;by_cases e:lW a n=Zb∨7<a
 .rw[zE e]
 grind
def aN9 (e:I5 c s)(a n:Int):I5 c (E6 c a n s).2:=λg=>(br3 a n s).trans<|e g
def aM0 (c:Cx)(x:Int×Int)(s:Dy):Int×Dy:=if x.1=0 then zn c s else Hz c x.1 x.2 s
def bt4 (u:0<=s.L/\s.L<=65535):iX c.fixed c.tp c.sl c.ns c.mode c.R c.Q c.len c.words s.L s.p s.q s.c0 s.c1 s.c2 s.c3 s.z c.X c.T c.l c.k c.P c.tk (c.off 8:Int) c.ns (hW c.X:Int) s.lv s.pk c.words s.W=O ((zn c s).1,c.fixed,c.tp,c.sl,c.ns,c.mode,c.R,c.Q,c.len,c.words,(zn c s).2.L,s.p,s.q,s.c0,s.c1,s.c2,s.c3,s.z):=by
 unfold iX zn;rw[ah];by_cases e:c.mode≠2
 .rw[zE e,zE e]
 rw[zF e,zF e,ah];by_cases g:0<=s.q
 .rw[zE g,zE g]
 rw[zF g,zF g,ah];by_cases o:s.L=65535
 .rw[zE o,zE o]
 rw[zF o,zF o,Zi]
def at5 (c:Cx)(x:Int×Int)(s:Dy):Int×Dy:=if x.1=0 then zn c s else E6 c x.1 x.2 s
structure Well1 (c:Cx)(i:Nat)(s:Dy):Prop where
 inv:InvB c s
 cnt:FL (65536*i) s
structure Well2 (c:Cx)(i:Nat)(s:Dy):Prop where
 inv:Inv c s
 cnt:FL (65536*i) s
 len:I5 c s
def Well1.act (h:c.Ok)(g:c.mode=3)(w:Well1 c i s)(x:Int×Int):Well1 c (i+1) (aM0 c x s).2:=by
 have e:(65536:Int)*((i+1:Nat):Int)=65536*i+65536:=by omega
 unfold aM0;split
 .exact⟨XT g w.inv,by rw[e];exact Rj w.cnt⟩
 exact⟨aT6 h g w.inv _ _,by rw[e];exact aT5 w.cnt _ _⟩
theorem Well2.act (h:c.Ok)(g:c.mode≠3)(w:Well2 c i s)(x:Int×Int):Well2 c (i+1) (at5 c x s).2:=by
 have e:(65536:Int)*((i+1:Nat):Int)=65536*i+65536:=by omega
 unfold at5;split
 .exact⟨XU w.inv,by rw[e];exact Rj w.cnt,an0 w.len⟩
 exact⟨aN8 h g w.inv _ _,by rw[e];exact aN7 w.cnt _ _,aN9 w.len _ _⟩
def bm1 (f:(Int×Int)->Dy->Int×Dy)(l:List<|Int×Int)(s:Dy):Nat->Dy
 |0=>s
 |i+1=>(f (l.getD i (0,0))<|bm1 f l s i).2
def ab7 (s:Dy)(h:s.c0=0/\s.c1=0/\s.c2=0/\s.c3=0):FL (65536*(0:Nat)) s:=by
 unfold FL;omega
def RQ (h:c.Ok)(e:c.mode=3)(l:List<|Int×Int): ∀i,Well1 c i (bm1 (aM0 c) l (new1 c) i)
 |0=>⟨aC6 h e,ab7 _ ⟨rfl,rfl,rfl,rfl⟩⟩
 |i+1=>(RQ h e l i).act h e _
def RR (h:c.Ok)(e:c.mode≠3)(l:List<|Int×Int): ∀i,Well2 c i (bm1 (at5 c) l (new2 c) i)
 |0=>⟨aC7 h e,ab7 _ ⟨rfl,rfl,rfl,rfl⟩,λ_=>rfl⟩
 |i+1=>(RR h e l i).act h e _
def FI (c:Cx)(s:Dy):Int×Int×Zd×Zd:=if s.q≠0 then(0,19,[],[])else(s.z,0,seg s.W (c.off 5)<|hW c.X,seg s.W (c.off 6)<|hW c.T)
def aU3 (h:c.Ok)(g:Wd c s.W):ly c.fixed c.tp c.sl c.ns c.mode c.R c.Q c.len c.words s.L s.p s.q s.c0 s.c1 s.c2 s.c3 s.z c.X c.T c.l c.k c.P c.tk s.lv s.pk c.words s.W=O (FI c s):=by
 unfold ly FI;rw[ah];by_cases e:s.q≠0
 .rw[zE e,zE e]
 rw[zF e,zF e,Vn (ii:=5) (i:=5) h g rfl V1,zG,Vn (ii:=6) (i:=6) h g rfl V1];rfl
def bj4 (h:c.Ok)(e:Wd c s.W):mg c.fixed c.tp c.sl c.ns c.mode c.R c.Q c.len c.words s.L s.p s.q s.c0 s.c1 s.c2 s.c3 s.z c.X c.T c.l c.k c.P c.tk s.lv s.pk c.words s.W=O s.W:=by
 unfold mg kg;rw[xY (e.tk h).2];rfl
def ac9 (h:c.Ok)(g:Wd c s.W):jI c.fixed c.tp c.sl c.ns c.mode c.R c.Q c.len c.words s.L s.p s.q s.c0 s.c1 s.c2 s.c3 s.z c.X c.T c.l c.k c.P c.tk (c.off 8:Int) c.ns (hW c.X:Int) s.lv s.pk c.words s.W=O (FI c s):=by
 unfold jI FI;rw[ah];by_cases e:s.q≠0
 .rw[zE e,zE e]
 rw[zF e,zF e,Qv (ii:=5) (i:=5) h g rfl V1,zG,Qv (ii:=6) (i:=6) h g rfl V1];rfl
def az8 (h:c.Ok)(e:Wd c s.W):ku c.fixed c.tp c.sl c.ns c.mode c.R c.Q c.len c.words s.L s.p s.q s.c0 s.c1 s.c2 s.c3 s.z c.X c.T c.l c.k c.P c.tk (c.off 8:Int) c.ns (hW c.X:Int) s.lv s.pk c.words s.W=O s.W:=by
 unfold ku kg;rw[xY (e.tk h).2];rfl
end
end
section
section
variable {c:Cx}
end
end
section
section
variable {a0:Int} {a1 a2:Zd} {a3:Int} {a4:List bx} {a5:Int} {a6:List bx} {a7 a8:Int}
theorem aV4 (v: ∀o∈a4,Uu o)(z: ∀o∈a6,Uu o):mL a0 a1 a2 a3 a4 a5 a6 a7 a8=O Zb∨(mL a0 a1 a2 a3 a4 a5 a6 a7 a8=O Za/\OpsOk a4/\OpsOk a6/\hW a1<=200/\hW a2<=200):=by
 unfold mL Ck;by_cases g:(hW a4:Int)<=60
 .by_cases p:(hW a6:Int)<=60
  .by_cases q:(hW a1:Int)<=200
   .by_cases u:(hW a2:Int)<=200
    .have A:OpsOk a4:=⟨V1,v⟩;have C:OpsOk a6:=⟨V1,z⟩;rw[zB g,zB p,zB q,zB u];simp only[zC,zG,Bool.not_true,zD];rw[Pk A C V1 V1];simp only[zG,ah]
     have e: ∀b:Bool,(O b=O Zb)∨(O b=O Za/\OpsOk a4/\OpsOk a6/\hW a1<=200/\hW a2<=200):=λb=>by
      cases b
      .exact .inl rfl
      grind
     repeat' split
     all_goals exact e _
    grind
   grind
  grind
 grind
end
end
section
open Go.IntKind renaming wrap->zH,i64->zI,u64->zJ
open Int renaming tdiv_eq_ediv_of_nonneg->bB,tmod_eq_emod_of_nonneg->bD
open List renaming range->aB,forall_mem_cons->aD
def xp (a:Int):Prop:=0<=a/\a<18446744073709551616
def wU (n:Int):zH zJ n=n % 18446744073709551616:=rfl
def bb0 {n:Int}(h:xp n):zH zJ n=n:=by rw[wU];unfold xp at h;omega
def LF (n:Int):xp<|zH zJ n:=by rw[wU];unfold xp;omega
def Cg (x y:Int):Prop:= ∃k,x=y+18446744073709551616*k
def Xa (x:Int):Cg (zH zJ x) x:=⟨-(x / 18446744073709551616),by rw[wU];omega⟩
def Cg.wrap (h:Cg x y)(w:xp x):x=zH zJ y:=by
 have⟨k,e⟩:=h;rw[wU];unfold xp at w;omega
def EV :Zd->Int
 |[]=>0
 |d::r=>d+256*EV r
def stN (s:Int×Int×Int)(d:Int):Int×Int×Int:=(zH zI<|Int.tdiv (zH zI<|s.1+d) 256,zH zJ<|s.2.1+zH zJ (zH zJ (Int.tmod (zH zI<|s.1+d) 256)*s.2.2),zH zJ<|s.2.2*256)
theorem Vi : ∀(l:Zd) (c n b:Int),(0<=c/\c<=1000000000)->(∀d∈l,0<=d/\d<=1000000000)->∃k,Cg (l.foldl stN (c,n,b)).2.1 (n+b*(c+EV l-256 ^ (hW l)*k))
 |[],c,n,b,_,_=>⟨c,0,by simp[EV]⟩
 |d::l,c,n,b,H,g=>by
  have I:=g d V2;have⟨k,q,e⟩:=Vi l ((c+d) / 256) (zH zJ<|n+zH zJ ((c+d) % 256*b)) (zH zJ<|b*256) V1 λx p=>g x (by simp[p])
  have o:stN (c,n,b) d=((c+d) / 256,zH zJ<|n+zH zJ ((c+d) % 256*b),zH zJ<|b*256):=by
   unfold stN;simp only;rw[ae (n:=c+d) V1,bB V1,bD V1,Zi,bb0 (n:=(c+d) % 256) (by unfold xp;omega)]
  have⟨z,D⟩:=Xa<|(c+d) % 256*b;have⟨A,E⟩:=Xa<|n+zH zJ ((c+d) % 256*b);have⟨C,F⟩:=Xa<|b*256;have J:c+d=256*((c+d) / 256)+(c+d) % 256:=by omega
  refine⟨k,z+A+C*((c+d) / 256+EV l-256 ^ (hW l)*k)+q, ?_⟩;show(l.foldl stN<|stN (c,n,b) d).2.1=n+b*(c+(d+256*EV l)-256 ^ (hW l+1)*k)+_;rw[o,e,F,E,D,Int.pow_succ];generalize (c+d) / 256=u at*;generalize (c+d) % 256=v at*
  grind
def Li {g o p u v z A C:Int}(h: ∀d∈[g,o,p,u,v,z,A,C],0<=d/\d<=1000000000):ny g o p u v z A C=O (zH zJ<|EV [g,o,p,u,v,z,A,C]):=by
 have e:ny g o p u v z A C=O ([g,o,p,u,v,z,A,C].foldl stN (0,0,1)).2.1:=by kernel_rfl
 have⟨k,q,w⟩:=Vi _ 0 0 1 V1 h;rw[e];refine congrArg O<|Cg.wrap ⟨q-k, ?_⟩ (LF _);rw[w];simp only[List.length_cons,List.length_nil];omega
def dgs (a:Int):Int×Int×Int×Int×Int×Int×Int×Int:=(a % 256,a / 256 % 256,a / 256 / 256 % 256,a / 256 / 256 / 256 % 256,a / 256 / 256 / 256 / 256 % 256,a / 256 / 256 / 256 / 256 / 256 % 256,a / 256 / 256 / 256 / 256 / 256 / 256 % 256,a / 256 / 256 / 256 / 256 / 256 / 256 / 256 % 256)
def Dg (h:xp a):jB a=O (dgs a):=by
 have e: ∀(u m:Int->Int),(u=λx=>IntKind.u64.wrap<|Int.tdiv x 256)->(m=λx=>IntKind.i64.wrap<|Int.tmod x 256)->jB a=O (m a,m<|u a,m<|u<|u a,m<|u<|u<|u a,m<|u<|u<|u<|u a,m<|u<|u<|u<|u<|u a,m<|u<|u<|u<|u<|u<|u a,m<|u<|u<|u<|u<|u<|u<|u a):=λu m p q=>by
  subst p q;kernel_rfl
 have o: ∀x,xp x->IntKind.u64.wrap (Int.tdiv x 256)=x / 256/\xp (x / 256):=λx h=>by
  unfold xp at*;rw[bB h.1,wU];omega
 have g: ∀x,xp x->IntKind.i64.wrap (Int.tmod x 256)=x % 256:=λx h=>by
  unfold xp at h;rw[bD h.1,Zi]
 rw[e _ _ rfl rfl];have⟨p,v⟩:=o _ h;have⟨q,z⟩:=o _ v;have⟨F,A⟩:=o _ z;have⟨H,C⟩:=o _ A;have⟨I,D⟩:=o _ C;have⟨J,E⟩:=o _ D;have⟨K,L⟩:=o _ E;simp only[p,q,F,H,I,J,K,g _ h,g _ v,g _ z,g _ A,g _ C,g _ D,g _ E,g _ L];rfl
def Ou (h:xp a): ∃e g o p q u v z:Int,dgs a=(e,g,o,p,q,u,v,z)/\(∀d∈[e,g,o,p,q,u,v,z],0<=d/\d<=255)/\a=EV [e,g,o,p,q,u,v,z]:=by
 refine⟨_,_,_,_,_,_,_,_,rfl,λd A=> ?_, ?_⟩
 .simp only[List.mem_cons,List.not_mem_nil,or_false]at A;omega
 unfold xp at h;simp only[EV];omega
def bE0 {α β:Type}{x:Option α}{a:α}{f:α->Option β}{r:Option β}(h:x=O a)(e:f a=r):x.bind f=r:=by rw[h];exact e
def mG {d:Int}(h:0<=d/\d<=1000000000):zH zI d=d:=ae V1
def Zo {d:Int}(h:0<=d/\d<=1000000000:=by omega):zH zI d=d:=mG h
def IH (e:xp a)(g:xp b):rh a b=O (zH zJ<|a+b):=by
 have⟨A,C,D,E,F,H,I,J,o,q,v⟩:=Ou e;have⟨K,L,M,N,Q,V,X,Z,p,u,z⟩:=Ou g;unfold rh;rw[Dg e,Dg g,o,p];refine bE0 rfl (bE0 rfl (bE0 (a:=(zH zI<|A+K,zH zI<|C+L,zH zI<|D+M,zH zI<|E+N,zH zI<|F+Q,zH zI<|H+V,zH zI<|I+X,zH zI<|J+Z)) V4 ?_));simp only[aD]at q u;simp only;rw[Zo,Zo,Zo,Zo,Zo,Zo,Zo,Zo];refine bE0 (Li (by simp only[aD];refine⟨?_, ?_, ?_, ?_, ?_, ?_, ?_, ?_,λ_ h=>by cases h⟩<;>omega)) ?_;rw[v,z];simp only[EV]
 congr 2
 omega
def Ry (e:xp a):xE a=O (zH zJ<|-a):=by
 have⟨g,u,v,z,A,C,D,E,o,p,q⟩:=Ou e;unfold xE;rw[Dg e,o];refine bE0 rfl (bE0 (a:=(zH zI<|255-g,zH zI<|255-u,zH zI<|255-v,zH zI<|255-z,zH zI<|255-A,zH zI<|255-C,zH zI<|255-D,zH zI<|255-E)) V4 ?_);simp only[aD]at p;simp only;rw[mG (d:=255-g) V1,Zo,Zo,Zo,Zo,Zo,Zo,Zo,Zo];refine bE0 (Li (by simp only[aD];refine⟨?_, ?_, ?_, ?_, ?_, ?_, ?_, ?_,λ_ h=>by cases h⟩<;>omega)) ?_;rw[q];simp only[EV,wU]
 congr 1
 omega
def cnv (x y:Zd)(k:Nat):Int:=(aB<|k+1).foldl (λs p=>IntKind.i64.wrap<|s+zH zI (x.getD p 0*y.getD (k-p) 0)) 0
theorem bh2 {x y:Zd}(z: ∀d∈x,0<=d/\d<=255)(A: ∀d∈y,0<=d/\d<=255)(k:Nat)(D:k<8):cnv x y k=((aB<|k+1).map λp=>x.getD p 0*y.getD (k-p) 0).sum/\0<=cnv x y k/\cnv x y k<=1000000000:=by
 have q: ∀(l:Zd) p,(∀d∈l,0<=d/\d<=255)->0<=l.getD p 0/\l.getD p 0<=255:=λl p h=>by
  rw[List.getD_eq_getElem?_getD];by_cases u:p<hW l
  .rw[List.getElem?_eq_getElem u];exact h _ (List.getElem_mem u)
  grind
 have g: ∀n,n<=8->(aB n).foldl (λs p=>IntKind.i64.wrap<|s+zH zI (x.getD p 0*y.getD (k-p) 0)) 0=((aB n).map λp=>x.getD p 0*y.getD (k-p) 0).sum/\0<=((aB n).map λp=>x.getD p 0*y.getD (k-p) 0).sum/\((aB n).map λp=>x.getD p 0*y.getD (k-p) 0).sum<=65025*n:=by
  intro n;induction n with
  |zero=>intro _;exact⟨rfl,V2,V2⟩
  |succ n C=>
   intro E;have⟨e,o,v⟩:=C V1;have a:=q x n z;have b:=q y (k-n) A;have F:=Int.mul_nonneg a.1 b.1;have H:x.getD n 0*y.getD (k-n) 0<=255*255:=Int.mul_le_mul a.2 b.2 b.1 V5;simp only[List.range_succ,List.foldl_append,List.foldl_cons,List.foldl_nil,List.map_append,List.map_cons,List.map_nil,List.sum_append,List.sum_cons,List.sum_nil];rw[e,ae (n:=x.getD n 0*y.getD (k-n) 0) V1,Zi];omega
 have⟨e,o,v⟩:=g (k+1) V1;unfold cnv;rw[e];exact⟨rfl,o,V1⟩
theorem GI (N:xp a)(o:xp b):pH a b=O (zH zJ<|a*b):=by
 have⟨L,A,z,v,u,q,p,g,Q,X,v1⟩:=Ou N;have⟨M,D,E,F,H,I,J,K,V,Z,v2⟩:=Ou o;have C:=bh2 X Z;unfold pH;rw[Dg N,Dg o,Q,V]
 have e: ∀f,f=cnv [L,A,z,v,u,q,p,g] [M,D,E,F,H,I,J,K]->am (CS (L,A,z,v,u,q,p,g) (M,D,E,F,H,I,J,K)) co (0,0,0,0,0,0,0,0,0)=O (f 0,f 1,f 2,f 3,f 4,f 5,f 6,f 7):=λf e=>by
  subst e;kernel_rfl
 refine bE0 rfl (bE0 rfl (bE0 (e _ rfl) ?_));have o: ∀k,k<8->0<=cnv [L,A,z,v,u,q,p,g] [M,D,E,F,H,I,J,K] k/\cnv [L,A,z,v,u,q,p,g] [M,D,E,F,H,I,J,K] k<=1000000000:=λk hk=>(C k hk).2
 refine bE0 (Li (by simp only[aD];exact⟨o 0 V1,o 1 V1,o 2 V1,o 3 V1,o 4 V1,o 5 V1,o 6 V1,o 7 V1,λ_ h=>by cases h⟩)) ?_;rw[(C 0 V1).1,(C 1 V1).1,(C 2 V1).1,(C 3 V1).1,(C 4 V1).1,(C 5 V1).1,(C 6 V1).1,(C 7 V1).1,v1,v2];refine congrArg O<|Eq.symm<|Cg.wrap ?_ (LF _);have⟨k,w⟩:=Xa<|EV [L,A,z,v,u,q,p,g]*EV [M,D,E,F,H,I,J,K];refine⟨k+(D*g+E*EV [p,g]+F*EV [q,p,g]+H*EV [u,q,p,g]+I*EV [v,u,q,p,g]+J*EV [z,v,u,q,p,g]+K*EV [A,z,v,u,q,p,g]), ?_⟩;rw[w];simp only[EV,show aB (0+1)=[0]from rfl,show aB (1+1)=[0,1]from rfl,show aB (2+1)=[0,1,2]from rfl,show aB (3+1)=[0,1,2,3]from rfl,show aB (4+1)=[0,1,2,3,4]from rfl,show aB (5+1)=[0,1,2,3,4,5]from rfl,show aB (6+1)=[0,1,2,3,4,5,6]from rfl,show aB (7+1)=[0,1,2,3,4,5,6,7]from rfl,List.map_cons,List.map_nil,List.sum_cons,List.sum_nil]
 simp[List.getD]
 grind
end
section
open List renaming replicate->aB,append_assoc->bB,getElem?_append_right->bD,append_nil->cD,getElem_mem->cN
open Nat renaming le_refl->aD,sub_self->cB,add_zero->cK,mul_comm->cL,succ_mul->cM,le_mul_of_pos_left->cO,mul_le_mul_right->cP
def Qy {R:Int}{l:List bx}(h:OpsOk l)(A:hW l<=1500):sT R l=O (Bs R l):=by
 have e: ∀n:Nat,n<4->jg R l (n:Int)=O (if Rh R l n≠0 then .inr (.inl<|Rh R l n)else .inl ((n+1:Nat):Int)):=by
  intro n C;unfold jg;simp only[ah];rw[Zg,IK h A,zG,ae (n:=(n:Int)+1) V1];split<;>rfl
 have v:jg R l 4=O (.inr<|.inr ()):=rfl;unfold sT Bs
 have o:am (jg R l) co 0=O (if JR l≠0 then .inl (JR l)else if IX R l≠0 then .inl (IX R l)else if IY l≠0 then .inl (IY l)else if IC l≠0 then .inl (IC l)else .inr ()):=by
  have z:co=18446744073709551611+1+1+1+1+1:=rfl;rw[z,bi];have g:=e 0 V1;have p:=e 1 V1;have q:=e 2 V1;have u:=e 3 V1;rw[show Rh R l 0=JR l from rfl]at g;rw[show Rh R l 1=IX R l from rfl]at p;rw[show Rh R l 2=IY l from rfl]at q;rw[show Rh R l 3=IC l from rfl]at u;have g:jg R l 0=_:=g;rw[g,zG];split
  .rfl
  simp only[be];rw[bi,p,zG];split
  .rfl
  simp only[be];rw[bi,q,zG];split
  .rfl
  simp only[be];rw[bi,u,zG];split
  .rfl
  rfl
 rw[o,zG];split
 .rfl
 split
 .rfl
 split
 .rfl
 split
 .rfl
 rename_i h;rw[show IC l=0 by omega];rfl
def bf8 (k:Int): ∃x,gH k=O (Zc<|1<=k/\k<=6,x):=by
 have h: ∀b c:Bool×Bool×Bool,∀p q:Bool,p=q->∃x,(O (p,b):Option<|Bool×Bool×Bool×Bool)=O (q,x):=λb _ p q e=>⟨b,by rw[e]⟩
 unfold gH;simp only[ah]
 repeat' split
 all_goals (simp only[zG,gr,cg,ah])
 all_goals (repeat' split)
 all_goals (refine h _ (Za,Za,Za) _ _ ?_;symm;first|exact zB V1|exact zA V1)
section
variable {l:List bx} {R:Int} {f:Fo}
theorem Wg (g:Prg R l f)(V:l.length<=1500): ∃m S,jr l=O (0,m)/\MOK l m/\xc l=O (0,S)/\YL l m S:=by
 have hl:=g.ops.len;have J:bu l 0=O 0:=by rw[<-g.src];exact Fo.scan0 g.ok
 rcases GJ (l:=l) V1 with⟨_,m,Q,H⟩|⟨h,_⟩
 .obtain⟨r,hr,r1,r2,E⟩:=Kf (l:=l) V1 g.ops.v;have X:=g.w;rcases E with⟨E,_⟩|⟨_,_,r4,r5,Z⟩
  .rw[X]at E;exact(E rfl).elim
  refine⟨m,r.2.2.1,Q,H, ?_,ba0 H r4 (λo D=>g.ops.v o D) Z⟩;unfold xc;rw[Ag V g.ops.v,X];simp only[zG];rw[zA V2,zD,Q];simp only[zG]
  have key:=cn (f:=rk l (0,m)) (n:=l.length) (λi=>r.2.2.1.take i) (c:=r.2.2.1) V1
   (λi hi=>by
    obtain⟨a,b,C,h2,N⟩:=Z i hi
    have K:(if l[i].1=7 then(mM l m (i:Int))else O (if l[i].1=0 then 0 else 1))=O a:=by
     by_cases p:l[i].1=7
     .rw[zE p];obtain⟨q,e,A,b',w,mi,q1,q2,q3,q4,q5,q6,q7,q8,q9,L⟩:=Et V g.ops.v H J hi p;obtain⟨F,h5⟩:=(N hi).1 p q e A q1 q2 q3;obtain⟨e1,e2⟩:=L _ F;rw[q6,e1]
      have I:0<=b:=by
       obtain⟨M,w1,w2⟩: ∃M,IN b=M/\0<=M:=⟨w,e2.symm,q9⟩
       unfold IN at w1;split at w1<;>omega
      rw[(Jw I (g.ops.v _ (cN hi)).1 h5).1]
     rw[zF p];obtain⟨_,F⟩:=(N hi).2 p;rw[F]
    have hk0:0<=l[i].1/\l[i].1<=7:=by
     have: ∀(l:List bx) (d:Nat),bu l d≠Y->∀o∈l,0<=o.1/\o.1<=7:=by
      intro l;induction l with
      |nil=>intro d _ o D;cases D
      |cons x l ih=>
       intro d hd o D;simp only[bu]at hd
       grind
     exact this l 0 (by rw[J];simp) _ (cN hi)
    unfold rk;simp only[ah];rw[Zg,bt hi];simp only[zG]
    have z:(if l[i].1=7 then((mM l m (i:Int)).bind λr7=>O r7)else((gH l[i].1).bind λr9=>cond r9.1 (O (1:Int)) (O 0)))=O a:=by
     by_cases p:l[i].1=7
     .rw[zE p]at K⊢;rw[K];rfl
     rw[zF p]at K⊢;obtain⟨x,hx⟩:=bf8 l[i].1
     grind
    rw[z];simp only[zG];rw[bg (by rw[List.length_take];omega) V1,Zi]
    have:r.2.2.1.take (i+1)=r.2.2.1.take i++[a]:=by
     have u:i<r.2.2.1.length:=by omega
     rw[List.getElem?_eq_getElem u]at C;injection C with C
     rw[List.take_succ_eq_append_getElem u,C]
    grind)
   (by
    unfold rk
    rw[Ze,zD,List.take_of_length_le V1])
  grind
 exact(h J).elim
theorem TE {m S:Zd}{out:List bx}(D:hW l<=1500)(E:hW out<=1500){x:bx}(u:l[i]?=O x)(h:x.1≠7∨∃n,S[i]?=O n/\n≠0):
  jY l (0,m) (0,S) ((i:Int),out)=O (.inl (((i+1:Nat):Int),out++[x])):=by
 have⟨hi,e⟩:=List.getElem?_eq_some_iff.1 u;unfold jY;simp only[ah];rw[Zg,bt hi,e,zG]
 have q:(if x.1=7 then(im (ix (i:Int)<|hW S) λv=>im (S[v]?) λA=>if A=0 then(im (ix (i:Int)<|hW m) λz=>im (m[z]?) λo=>O<|.inl o)else O<|.inr (i:Int))else O<|.inr (i:Int))=O (Sum.inr (i:Int):Int⊕Int):=by
  by_cases g:x.1=7
  .rcases h with h|⟨n,p,C⟩
   .exact(h g).elim
   rw[zE g,bn (List.getElem?_eq_some_iff.1 p).1]
   grind
  .rw[zF g]
 rw[q];simp only[zG,cg];rw[bt hi,e,zG,bg V1 V1,Zi];rfl
def aU0 {m S:Zd}{out:List bx}(v:l.length<=1500){x:bx}(q:l[i]?=O x)(p:x.1=7)(o:S[i]?=O 0)(g:m[i]?=O (j:Int))(u:j<=2000):
  jY l (0,m) (0,S) ((i:Int),out)=O (.inl (((j+1:Nat):Int),out)):=by
 obtain⟨hi,e⟩:=List.getElem?_eq_some_iff.1 q;unfold jY;simp only[ah];rw[Zg,bt hi,e];simp only[zG];rw[zE p,bn (List.getElem?_eq_some_iff.1 o).1];simp only[zG];rw[o];simp only[zG];rw[zE trivial,bn (List.getElem?_eq_some_iff.1 g).1];simp only[zG];rw[g];simp only[zG,gr];rw[Zi];rfl
theorem Pd {m S:Zd}(p:hW l<=1500)(v:YL l m S): ∀(f:Fo) (A B:List bx) (out:List bx),l=A++f.src++B->f.Ok->hW out<=hW A->
  ∃k,k<=f.len/\Reach (jY l (0,m) (0,S)) k ((hW A:Int),out) (((hW A+f.len:Nat):Int),out++f.bare.src)
 | .nil,A,B,out,g,_,_=>by
  refine⟨0,aD _, ?_⟩;simp only[Fo.bare,Fo.src,Fo.len,cD,cK];exact Reach.refl
 | .op o r,A,B,out,g,C,ho=>by
  have F:hW (A++[o])=hW A+1:=by simp
  have J:hW l=hW A+(r.len+1)+hW B:=by rw[g];simp[Fo.src,Fo.src_len];omega
  have D:l[hW A]?=O o:=by rw[g,bB,bD<|aD _,cB];rfl
  have⟨k,M,E⟩:=Pd p v r (A++[o]) B (out++[o]) ZK C.2 V3;refine⟨1+k,by simp only[Fo.len];omega, ?_⟩;have z:=(Reach.one<|TE (m:=m) (S:=S) (out:=out) p V1 D<|.inl (by have:=C.1;omega)).trans (show Reach _ k _ _ from by rw[F]at E;exact E);simp only[Fo.bare,Fo.src,Fo.len]
  grind
 | .rep o b e r,A,B,out,g,C,ho=>by
  have⟨⟨M,E⟩,Q,V⟩:=C;have J:hW l=hW A+(b.len+r.len+2)+hW B:=by rw[g];simp[Fo.src,Fo.src_len];omega
  have D:l[hW A]?=O o:=by rw[g,bB,bD<|aD _,cB];rfl
  have⟨hm,I⟩:=v.2.2 A (r.src++B) o e b ZK Q M E;have u:hW (A++o::(b.src++[e]))=hW A+1+b.len+1:=by simp[Fo.src_len];omega
  simp only[Fo.bare,Fo.len];by_cases L:b.n*rI o=0
  .rw[zE L];rw[L]at I;have⟨k,Z,q⟩:=Pd p v r (A++o::(b.src++[e])) B out ZK V V1;refine⟨1+k,V1, ?_⟩;have z:=(Reach.one<|aU0 (out:=out) p D M I hm V1).trans (show Reach _ k _ _ from by rw[u]at q;exact q)
   grind
  .rw[zF L];have F:hW (A++[o])=hW A+1:=by simp
   have H:hW (A++o::b.src)=hW A+1+b.len:=by simp[Fo.src_len];omega
   have K:l[hW A+1+b.len]?=O e:=by
    rw[show l=(A++o::b.src)++(e::(r.src++B))by rw[g];simp[Fo.src],<-H,bD<|aD _,cB];rfl
   have⟨kb,b1,N⟩:=Pd p v b (A++[o]) (e::(r.src++B)) (out++[o]) ZK Q V3;rw[F]at N;have hbl:=b.bare_len;have⟨k,Z,q⟩:=Pd p v r (A++o::(b.src++[e])) B (out++[o]++b.bare.src++[e]) ZK V (by simp[Fo.src_len];omega);rw[u]at q;refine⟨1+kb+1+k,V1, ?_⟩;have z:=(((Reach.one<|TE (m:=m) (out:=out) p V1 D<|.inr ⟨_,I,V1⟩).trans N).trans<|Reach.one<|TE (m:=m) (S:=S) p (by simp[Fo.src_len];omega) K<|.inl V1).trans q;rw[show hW A+(b.len+r.len+2)=hW A+1+b.len+1+r.len by omega];have X:out++[o]++b.bare.src++[e]++r.bare.src=out++(Fo.rep o b.bare e r.bare).src:=by simp[Fo.src]
   rw[X]at z;exact z
theorem Yg (e:Prg R l f)(o:hW l<=1500):zL l=O f.bare.src:=by
 have⟨m,S,p,z,q,u⟩:=Wg e o;have A:=o;unfold zL;rw[p,q,zG];have⟨k,C,v⟩:=Pd V1 u f [] [] [] (by simp[e.src]) e.ok V2;have g:f.len=hW l:=by rw[<-Fo.src_len,e.src]
 have:=wP (c:=f.bare.src) v V1 (by
  simp only[jY];rw[zA (by rw[g];simp),zD]
  rfl)
 grind
end
section
variable {l:List bx} {m:Zd}
def MOf (l:List bx)(m:Zd):Prop:= ∀(A B:List bx) (o e:bx) (b:Fo),l=A++o::(b.src++e::B)->b.Ok->o.1=7->e.1=0->m[hW A]?=O ((hW A+1+b.len:Nat):Int)
theorem mOf (D:MOK l m):MOf l m:=λA B o e b q v E C=>by
 have u:hW l=hW A+1+(b.len+(hW B+1)):=by rw[q];simp[Fo.src_len];omega
 have p:hW A<hW l:=by omega
 have g:l[hW A]=o:=by
  grind
 have z:l.drop (hW A+1)=b.src++e::B:=by rw[q,List.drop_append,List.drop_of_length_le V1,show hW A+1-hW A=1 by omega];rfl
 have:=D.at' (hW A) p (by rw[g];exact E) b.src e B z C<|Fo.scan0 v;rw[Fo.src_len]at this;exact this
def aQ6 {K:List bx->Zd->Int->Int->Option (List bx×Int)}{st:Nat}{a3:Int}{out:List bx}(u:l.length<=1500)(v:out.length<=1000000)(p:st<=1000000000000){x:bx}(q:l[i]?=O x)(o:x.1≠7)(g:(i:Int)<a3):
  iU K l m a3 ((i:Int),(st:Int),out)=O (.inl (((i+1:Nat):Int),((st+1:Nat):Int),out++[x])):=by
 obtain⟨hi,e⟩:=List.getElem?_eq_some_iff.1 q;unfold iU;simp only[ah];rw[zE g,bt hi,e];simp only[zG];rw[zE o,bg V1 V1,Zi,Zi];rfl
def Vu {u:List bx}{nb:Nat}{s:Int×Int×List bx}(v:s.1=(i:Int)){x:bx}(E:l[i]?=O x)(z:Uu x)(st:Nat)(out:List bx)(C:st+rI x*(nb+1)<=1000000000000)(I:hW out+rI x*hW u<=1000000)(D:rI x<=100000):
  am (ph l s (u,(nb:Int))) co (0,(st:Int),out)=O (((st+rI x*(nb+1):Nat):Int),out++(aB (rI x) u).flatten):=by
 have⟨hi,o⟩:=List.getElem?_eq_some_iff.1 E;unfold Uu at z;have g:x.2.2.2.2=((rI x:Nat):Int):=(Int.toNat_of_nonneg z.1).symm
 have p:=cn (f:=ph l s (u,(nb:Int))) (n:=rI x) (λk=>(((st+k*(nb+1):Nat):Int),out++(aB k u).flatten)) (c:=(((st+rI x*(nb+1):Nat):Int),out++(aB (rI x) u).flatten)) V1
  (λk q=>by
   have F:k*(nb+1)+(nb+1)<=rI x*(nb+1):=by
    rw[<-cM];exact cP _ q
   have H:k*hW u+hW u<=rI x*hW u:=by
    rw[<-cM];exact cP _ q
   unfold ph;simp only;rw[v,bt hi,o];simp only[zG,ah];rw[zE (by rw[g];omega)];have e:hW (out++(aB k u).flatten)=hW out+k*hW u:=by simp
   rw[e]
   have A:du (hW out+k*hW u+hW u) 40=Za:=by
    unfold du;rw[Zf];rfl
   rw[show∀y:Option<|(Int×Int×List bx)⊕(Int×List bx),gd (du (hW out+k*hW u+hW u) 40) y=y from λy=>by rw[A];rfl,bb0 ⟨V1,V1⟩,ae (n:=((st+k*(nb+1):Nat):Int)+nb) V1,Zi,show(k:Int)+1=((k+1:Nat):Int)by omega,show((st+k*(nb+1):Nat):Int)+nb+1=((st+(k+1)*(nb+1):Nat):Int)by rw[cM];omega,bB]
   rw[show(aB (k+1) u).flatten=(aB k u).flatten++u by
    rw[List.replicate_succ',List.flatten_append];simp])
  (by
   unfold ph;simp only;rw[v,bt hi,o];simp only[zG,ah]
   rw[zF (by rw[g];omega)])
 simp only[Nat.zero_mul,cK,List.replicate_zero,List.flatten_nil,cD]at p;exact p
def lx : ∀g:Fo,hW g.unroll=g.n
 | .nil=>rfl
 | .op o r=>by simp only[Fo.unroll,Fo.n,List.length_cons,lx r];omega
 | .rep o b e r=>by simp[Fo.unroll,Fo.n,lx r,lx b,cL]
theorem JO (M:l.length<=1500)(I:MOf l m): ∀(g:Fo) (z:Nat) (A B:List bx) (st:Nat) (out:List bx) (a3:Int),l=A++g.src++B->g.Ok->g.Pos->(∀o∈g.src,Uu o)->g.hi<=z->out.length+g.n<=100000->st+g.steps<=1000000000000->((A.length+g.len:Nat):Int)<=a3->
  ∃k,k<=g.len/\Reach (iU (gG z) l m a3) k ((A.length:Int),(st:Int),out) (((A.length+g.len:Nat):Int),((st+g.steps:Nat):Int),out++g.unroll)
 | .nil,z,A,B,st,out,a3,q,_,_,_,_,_,_,_=>by
  refine⟨0,aD _, ?_⟩;simp only[Fo.unroll,Fo.steps,Fo.len,cD,cK];exact Reach.refl
 | .op o r,z,A,B,st,out,a3,q,L,hp,H,J,hn,C,Q=>by
  simp only[Fo.n,Fo.steps,Fo.len,Fo.hi]at hn C Q J;have D:(A++[o]).length=A.length+1:=by simp
  have X:l.length=A.length+(r.len+1)+B.length:=by rw[q];simp[Fo.src,Fo.src_len];omega
  have v:l[A.length]?=O o:=by rw[q,bB,bD (aD _),cB];rfl
  obtain⟨k,k1,N⟩:=JO M I r z (A++[o]) B (st+1) (out++[o]) a3 ZV L.2 hp (λx v=>H x (by simp[Fo.src,v])) J V3 V1 (by rw[D];omega);refine⟨1+k,by simp only[Fo.len];omega, ?_⟩;have h1:=(Reach.one (aQ6 (m:=m) (K:=gG z) (a3:=a3) (out:=out) (st:=st) M V1 V1 v (by have:=L.1;omega) V1)).trans (show Reach _ k _ _ from by rw[D]at N;exact N);simp only[Fo.unroll,Fo.steps,Fo.len]
  grind
 | .rep o b e r,z,A,B,st,out,a3,q,L,hp,H,J,hn,C,Q=>by
  obtain⟨⟨k1,N⟩,k3,k4⟩:=L;obtain⟨p1,p2,p3⟩:=hp;simp only[Fo.n,Fo.steps,Fo.len,Fo.hi]at hn C Q J;have X:l.length=A.length+(b.len+r.len+2)+B.length:=by rw[q];simp[Fo.src,Fo.src_len];omega
  have v:l[A.length]?=O o:=by rw[q,bB,bD (aD _),cB];rfl
  have hm:=I A (r.src++B) o e b ZV k3 k1 N;have D:(A++[o]).length=A.length+1:=by simp
  have E:(A++o::(b.src++[e])).length=A.length+1+b.len+1:=by simp[Fo.src_len];omega
  obtain⟨g,rfl⟩: ∃g,z=g+1:=⟨z-1,V1⟩
  have p:0<rI o/\0<b.n:=by
   grind
  have hbn:b.n<=b.n*rI o:=Nat.le_mul_of_pos_right _ p.1;have hvn:rI o<=b.n*rI o:=cO _ p.2;have hbs:b.steps+1<=rI o*(b.steps+1):=cO _ p.1;obtain⟨kb,b1,b2⟩:=JO M I b g (A++[o]) (e::(r.src++B)) 0 [] (((A.length+1+b.len:Nat):Int)) ZV k3 p2 (λx v=>H x (by simp[Fo.src,v])) V1 V3 V1 (by rw[D];omega);rw[D]at b2
  have V:gG (g+1) l m ((A.length+1:Nat):Int) ((A.length+1+b.len:Nat):Int)=O (b.unroll,(b.steps:Int)):=by
   show ud (gG g) l m _ _=_;unfold ud
   have:=wP (c:=((b.steps:Int),b.unroll)) b2 V1 (by
    simp only[iU];rw[Ze,zD]
    simp)
   grind
  have F:iU (gG (g+1)) l m a3 ((A.length:Int),(st:Int),out)=O (.inl (((A.length+1+b.len+1:Nat):Int),((st+1+rI o*(b.steps+1):Nat):Int),out++(aB (rI o) b.unroll).flatten)):=by
   obtain⟨hi,hx'⟩:=List.getElem?_eq_some_iff.1 v;unfold iU;simp only[ah];rw[Zg,bt hi,hx'];simp only[zG];rw[Zh]
   have Z:rd m ((A.length:Nat):Int)=O ((A.length+1+b.len:Nat):Int):=by
    obtain⟨q1,q2⟩:=List.getElem?_eq_some_iff.1 hm;rw[bt q1,q2]
   rw[Z];simp only[zG];rw[Zi,show(A.length:Int)+1=((A.length+1:Nat):Int)by omega,V];simp only[zG];rw[Zi,show(st:Int)+1=((st+1:Nat):Int)by omega];rw[Vu (i:=A.length) (nb:=b.steps) (u:=b.unroll) (by rfl) v (H o ZS) (st+1) out V1 (by rw[lx,cL];omega) V1];simp only[zG];rw[Zi];rfl
  obtain⟨k,g1,g2⟩:=JO M I r (g+1) (A++o::(b.src++[e])) B (st+1+rI o*(b.steps+1)) (out++(aB (rI o) b.unroll).flatten) a3 ZV k4 p3 (λx v=>H x (by simp[Fo.src,v])) V1 (by
    have:((aB (rI o) b.unroll).flatten).length=rI o*b.n:=by simp[lx]
    rw[List.length_append,this,cL];omega) V1 (by rw[E];omega)
  rw[E]at g2;refine⟨1+k,by simp only[Fo.len];omega, ?_⟩;have h1:=(Reach.one F).trans g2;simp only[Fo.unroll,Fo.steps,Fo.len]
  grind
end
section
variable {l:List bx} {R:Int} {f:Fo}
def TK (e:Prg R l f)(u:l.length<=1500):uF R l=O (f.unroll,0):=by
 unfold uF;rw[Qy e.ops u];simp only[zG];rw[e.z,zA V2,zD,Yg e u];simp only[zG];have p:f.len<=1500:=by rw[<-Fo.src_len,e.src];exact u
 have A:f.bare.src.length<=1500:=by rw[Fo.src_len];exact Nat.le_trans f.bare_len p
 have g:=f.bare_ok e.ok;rcases GJ (l:=f.bare.src) V1 with⟨_,m,D,C⟩|⟨h,_⟩
 .rw[D];simp only[zG];have H:f.bare.n<=65536:=by rw[f.bare_n];exact e.n
  have q:f.bare.hi<=3999:=Nat.le_trans f.bare_hi (by have:=e.deep;omega);obtain⟨k,I,F⟩:=JO V1 (mOf C) f.bare 3999 [] [] 0 [] ((f.bare.src.length:Nat):Int) V2 g f.bare_pos (λo E=>e.ops.v o (by rw[<-e.src];exact f.bare_mem E)) q V3 (by have:=e.steps;omega) (by rw[Fo.src_len];simp);unfold DI;show((ud (gG 3999) _ _ _ _).bind _)=_;unfold ud
  have:=wP (c:=(((f.bare.steps:Nat):Int),f.bare.unroll)) F (by have:=f.bare_len;have:=e.len;omega) (by
   simp only[iU];rw[zA (by rw[Fo.src_len];simp),zD]
   simp)
  rw[show((0:Int),(0:Int),([]:List bx))=(((([]:List bx).length:Nat):Int),((0:Nat):Int),([]:List bx))from rfl,this];simp only[zG];rw[f.bare_unroll]
 exact(h (Fo.scan0 g)).elim
end
end
section
open List renaming append_assoc->aB
def ce (r:Zd):Prop:= ∀x∈r,xp x
def w0 :xp 0:=by unfold xp;omega
def IM (h:ce r)(k:Int):xp<|rg r k:=by
 unfold rg;rw[List.getD_eq_getElem?_getD];by_cases e:hX k<hW r
 .rw[List.getElem?_eq_getElem e];exact h _ (List.getElem_mem e)
 rw[List.getElem?_eq_none V1];exact w0
def ce.set (h:ce r){v:Int}(e:xp v)(k:Nat):ce<|r.set k v:=λx g=>by
 rcases List.mem_or_eq_of_mem_set g with h1|h1
 .exact h x h1
 .rw[h1];exact e
def ce.app {s:Zd}(h:ce r)(k:ce s):ce<|r++s:=λx e=>(cI.1 e).elim (h x)<|k x
def ce.rep (n:Nat):ce<|List.replicate n 0:=λx e=>by rw[(List.mem_replicate.1 e).2];exact w0
def ce.fill {R:Int}(h:ce r):ce<|fill R r:=h.app<|ce.rep _
def ce.drop (h:ce r)(n:Nat):ce<|r.drop n:=λx e=>h x<|List.mem_of_mem_drop e
def ce.take (h:ce r)(n:Nat):ce<|r.take n:=λx e=>h x<|List.mem_of_mem_take e
def aY9 {o:bx}(e:Uu o)(g:xp x)(p:xp y):xp<|app o x y:=by
 unfold Go.V.app;unfold Uu at e
 repeat' split
 all_goals first|exact LF _|exact g|exact w0|(unfold xp;omega)
def KV {f:Int×Zd->Option ((Int×Zd)⊕Zd)}(o:hW r<=1000000)(s:Zd)(p:hW s<=1000000)
  (g: ∀s,f s=cond (Zc<|s.1<((hW r:Nat):Int)) (im (rd r s.1) λx=>gd (du (hW s.2+1) 8)<|O<|.inl (IntKind.i64.wrap<|s.1+1,s.2++[x])) (O<|.inr s.2)):
  am f co (0,s)=O (s++r):=by
 have e:=cn (f:=f) (n:=hW r) (λi=>s++r.take i) (c:=s++r) V1
  (λi hi=>by
   rw[g,zB ZH,zC,bt hi,zG,bg (by rw[List.length_append,List.length_take];omega) V1,Zi,List.take_succ_eq_append_getElem hi,aB]
   rfl)
  (by rw[g,zA V2,zD,List.take_length])
 rw[List.take_zero,List.append_nil]at e;exact e
def TL {a b c:Zd}(e:hW a<=100000)(g:hW b<=100000)(o:hW c<=100000):uG a b c=O (a++(b++c)):=by
 unfold uG;rw[KV (r:=a) (f:=gB a) V1 [] V2 (λs=>rfl),zG,KV (r:=b) (f:=gB b) V1 _ V3 (λs=>rfl),zG,KV (r:=c) (f:=gB c) V1 _ V3<|λs=>rfl];simp only[zG,List.nil_append,aB]
def bs6 (n:Nat)(l:List bx):Prop:= ∀o∈l,Vp n o/\Uu o
def OK (l:List bx): ∀s:FS,hW (qe MT l s).1=hW s.1:=by
 induction l with
 |nil=>intro s;rfl
 |cons o l e=>intro s;show(hW (qe MT l<|MT o s).1)=_;rw[e];unfold MT;simp
def XI (l:List bx): ∀s:FS,ce s.1->(∀o∈l,Uu o)->ce (qe MT l s).1:=by
 induction l with
 |nil=>intro s h _;exact h
 |cons o l p=>
  intro s h e;exact p (MT o s) (h.set (aY9 (e o V2) (IM h _)<|IM h _) _)<|λx g=>e x fu
section
variable {l:List bx} {R:Int} {f:Fo}
def wV : ∀(g:Fo),g.Ok->∀o∈g.unroll,o∈g.src/\0<o.1/\o.1<7
 | .nil,_,o,ho=>by cases ho
 | .op x r,h,o,ho=>by
  rcases aw.1 ho with rfl|ho
  .exact⟨ZS,h.1⟩
  .obtain⟨p,q⟩:=wV r h.2 o ho;exact⟨by simp[Fo.src,p],q⟩
 | .rep x b e r,h,o,ho=>by
  simp only[Fo.unroll]at ho;rcases cI.1 ho with ho|ho
  .obtain⟨u,v,ho⟩:=List.mem_flatten.1 ho;rw[(List.mem_replicate.1 v).2]at ho;have⟨p,q⟩:=wV b h.2.1 o ho;exact⟨by simp[Fo.src,p],q⟩
  .obtain⟨p,q⟩:=wV r h.2.2 o ho;exact⟨by simp[Fo.src,p],q⟩
def Prg.goodU (h:Prg R l f):bs6 (hX R) f.unroll:=λo p=>by
 have⟨e,g⟩:=wV f h.ok o p;rw[h.src]at e;exact⟨h.regs o e g,h.ops.v o e⟩
def Prg.ulen (h:Prg R l f):hW f.unroll=f.n/\f.n<=65536:=⟨lx f,h.n⟩
def OL (l:List bx): ∀s:TS,hW (qe iF l s).1=hW s.1/\hW (qe iF l s).2.1=hW s.2.1/\(qe iF l s).2.2=s.2.2+hW l:=by
 induction l with
 |nil=>intro s;exact⟨rfl,rfl,rfl⟩
 |cons o l q=>
  intro s;have⟨e,g,p⟩:=q<|iF o s;exact⟨e.trans (by unfold iF;simp),g.trans (by unfold iF;simp),p.trans (by unfold iF;simp;omega)⟩
def bi5 (l:List bx): ∀s:TS,ce s.1->ce s.2.1->(∀o∈l,Uu o)->ce (qe iF l s).1/\ce (qe iF l s).2.1:=by
 induction l with
 |nil=>intro s h k _;exact⟨h,k⟩
 |cons o l p=>
  intro s h k e;exact p (iF o s) (h.set (aY9 (e o V2) (IM h _)<|IM h _) _) (k.set (IM h _) _)<|λx g=>e x fu
end
end
section
open List renaming replicate->aB
def aG7 {a:Zd}(h:k<hW a):a.set k (rg a (k:Int))=a:=by
 have:=ig h;rw[List.getElem?_eq_getElem h]at this;injection this with this
 rw[<-this];exact List.set_getElem_self h
def bl7 {o:bx}{a:Zd}{t:Int}(g:ce r)(e:ce a)(p:xp t):ce (FG o r a t).1/\ce (FG o r a t).2:=by
 unfold FG;exact⟨g.set p _,((e.set w0 _).set (LF _) _).set (LF _) _⟩
section
variable {l:List bx} {R:Int} {f:Fo}
def aM6 (C:ce t)(l:List bx): ∀s:BS,ce s.1->ce s.2.1->hW (E5 (rH t) l s).1=hW s.1/\hW (E5 (rH t) l s).2.1=hW s.2.1/\(E5 (rH t) l s).2.2=s.2.2-hW l/\ce (E5 (rH t) l s).1/\ce (E5 (rH t) l s).2.1:=by
 induction l with
 |nil=>intro s h k;exact⟨rfl,rfl,rfl,h,k⟩
 |cons o l A=>
  intro s h k;have⟨p,q,u,v,z⟩:=A s h k;have e:=J3 o (E5 (rH t) l s).1 (E5 (rH t) l s).2.1<|rg t (((E5 (rH t) l s).2.2-1:Nat):Int);have g:=bl7 (o:=o) v z<|IM C (((E5 (rH t) l s).2.2-1:Nat):Int);refine⟨e.1.trans p,e.2.trans q, ?_,g.1,g.2⟩;show(E5 (rH t) l s).2.2-1=_;rw[u,List.length_cons];omega
def IG (h:Prg R l f)(v:ce r)(z:ce t):ce (ua f r t).1/\ce (ua f r t).2.1/\hW (ua f r t).1=hW r/\hW (ua f r t).2.1=hW t:=by
 have⟨e,g⟩:=bi5 f.unroll (r,t,0) v z<|λo u=>(h.goodU o u).2;have⟨p,q,_⟩:=OL f.unroll (r,t,0);exact⟨e,g,p,q⟩
def V0 (R:Int)(f:Fo)(r w:Zd):Zd:=(jV f (ua f (fill R r)<|aB f.n 0).1 (fill R w) (ua f (fill R r)<|aB f.n 0).2.1).2.1
def Me (h:Prg R l f)(F:hW r<=hX R)(q:hW w<=hX R)(u:ce r)(v:ce w):hW (V0 R f r w)=hX R/\ce (V0 R f r w):=by
 have⟨o,p,D,E⟩:=IG h (r:=fill R r) (t:=aB f.n 0) u.fill<|ce.rep _;have⟨z,e,A,C,g⟩:=aM6 p f.unroll ((ua f (fill R r)<|aB f.n 0).1,fill R w,f.n) o v.fill;exact⟨e.trans<|fB q,g⟩
def Pv (h:Prg R l f)(g:ce r):hW (EO f r)=hW r/\ce (EO f r):=⟨OK _ _,XI _ _ g λo e=>(h.goodU o e).2⟩
def bi4 (l:List bx): ∀(r t:Zd) (k n:Nat),(qe iF l (r,t,k)).1=(qe MT l (r,n)).1:=by
 induction l with
 |nil=>intro r t k n;rfl
 |cons o l e=>intro r t k n;exact e _ _ _ _
def Rx (f:Fo)(r t:Zd):(ua f r t).1=EO f r:=bi4 _ _ _ _ _
end
end
section
open List renaming length_take->aD
open Nat renaming le_refl->aB,lt_or_gt_of_ne->bB
def ce.put (h:ce W)(k:ce w)(o:Nat):ce<|put W o w:=(h.take o).app<|k.app<|h.drop _
def ce.seg (h:ce W)(o n:Nat):ce<|seg W o n:=(h.drop o).take n
def Xe (x:Nat)(g a:Zd):ce<|vw x g a:=λv e=>by
 unfold vw at e;obtain⟨i,_,rfl⟩:=List.mem_map.1 e;exact LF _
section
variable {c:Cx}
structure Has (c:Cx)(W st ax at':Zd):Prop where
 wd:Wd c W
 w:ce W
 t:seg W 0 (hW c.T)=c.T
 s:seg W (c.off 1) (hW c.X)=st
 x:seg W (c.off 5) (hW c.X)=ax
 a:seg W (c.off 6) (hW c.T)=at'
def RJ (h:c.Ok)(e:Wd c W)(hi:i<9)(g:hW w<=c.sz i):c.off i+hW w<=hW W:=by
 have:=e.in' h hi;omega
def Has.put (h:c.Ok)(H:Has c W st ax at')(hi:i<9)(A:hW w<=c.sz i)(C:ce w)(o:i≠0)(p:i≠1)(q:i≠5)(u:i≠6):Has c (put W (c.off i) w) st ax at':=by
 have z:=RJ h H.wd hi A
 have e: ∀j n,j≠i->n<=c.sz j->j<9->seg (Go.V.put W (c.off i) w) (c.off j) n=seg W (c.off j) n:=λj n v E D=>by
  refine pe z ?_;rcases bB v with g|hgt
  .exact .inl (by have:=gJ (c:=c) g;omega)
  exact .inr (by have:=gJ (c:=c) hgt;omega)
 refine⟨H.wd.put h (by have:=gJ (c:=c) (show i<9 from hi);omega),H.w.put C _, ?_, ?_, ?_, ?_⟩
 .have:=e 0 (hW c.T) (Ne.symm o) (aB _) V1;exact this.trans H.t
 .exact(e 1 (hW c.X) (Ne.symm p) (aB _) V1).trans H.s
 .exact(e 5 (hW c.X) (Ne.symm q) (aB _) V1).trans H.x
 exact(e 6 (hW c.T) (Ne.symm u) (aB _) V1).trans H.a
def Bt (h:c.Ok)(o:Wd c W){n:Nat}(e:j≠i)(hi:i<9)(q:j<9)(u:n<=c.sz j)(p:hW w<=c.sz i):seg (put W (c.off i) w) (c.off j) n=seg W (c.off j) n:=by
 refine pe (RJ h o hi p) ?_;rcases bB e with g|hgt
 .exact .inl (by have:=gJ (c:=c) g;omega)
 exact .inr (by have:=gJ (c:=c) hgt;omega)
def Has.put1 (h:c.Ok)(H:Has c W st ax at')(g:hW w=hW c.X)(o:ce w):Has c (Go.V.put W (c.off 1) w) w ax at':=by
 have e:hW w<=c.sz 1:=Nat.le_of_eq g;refine⟨H.wd.put h (by have:=gJ (c:=c) (show 1<9 by omega);omega),H.w.put o _,(Bt h H.wd (i:=1) (j:=0) V1 V1 V1 (aB _) e).trans H.t, ?_,(Bt h H.wd (i:=1) (j:=5) V1 V1 V1 (aB _) e).trans H.x,(Bt h H.wd (i:=1) (j:=6) V1 V1 V1 (aB _) e).trans H.a⟩;rw[<-g];exact vK<|RJ h H.wd V1 e
def Has.back (h:c.Ok){a:Zd}(H:Has c W st ax at')(N:hW c.X+hW c.T<=hW a)(z:hW a<=max (hX c.R) (hX c.Q))(F:ce a):Has c (Bc c W a) st (a.take<|hW c.X)<|vw (hW c.X) at' a:=by
 have H4:=H.put h (i:=4) V1 (w:=a) z F V1 V1 V1 V1;unfold Bc;generalize Go.V.put W (c.off 4) a=W1 at*;have E:hW (a.take<|hW c.X)<=c.sz 5:=by rw[aD];exact Nat.min_le_left _ _
 have M:hW (a.take<|hW c.X)=hW c.X:=by rw[aD];omega
 have u:=H4.wd.put h (o:=c.off 5) (w:=a.take<|hW c.X) (by have:=gJ (c:=c) (show 5<9 by omega);omega);have p:=λj (A:j≠5) (v:j<9)=>Bt h H4.wd (i:=5) (j:=j) A V1 v (aB _) E
 have K:seg (Go.V.put W1 (c.off 5)<|a.take<|hW c.X) (c.off 5) (hW c.X)=a.take (hW c.X):=by
  have:=vK<|RJ h H4.wd (i:=5) V1 E;rw[M]at this;exact this
 have L:=(p 6 V1 V1).trans H4.a;have I:=(p 0 V1 V1).trans H4.t;have J:=(p 1 V1 V1).trans H4.s;have a5:ce<|Go.V.put W1 (c.off 5)<|a.take<|hW c.X:=H4.w.put (F.take _) _;generalize Go.V.put W1 (c.off 5) (a.take<|hW c.X)=W2 at*;have e:seg W2 (c.off 6) (hW c.T)=at':=L;rw[e];have C:hW at'=hW c.T:=by rw[<-e];exact eV (u.in' h (i:=6) V1)
 have D:hW (vw (hW c.X) at' a)=hW c.T:=by rw[qT,C]
 have g:hW (vw (hW c.X) at' a)<=c.sz 6:=Nat.le_of_eq D;have q:=λj (A:j≠6) (v:j<9)=>Bt h u (i:=6) (j:=j) A V1 v (aB _) g
 refine⟨u.put h (by have:=gJ (c:=c) (show 6<9 by omega);omega),a5.put (Xe _ _ _) _,(q 0 V1 V1).trans I,(q 1 V1 V1).trans J,(q 5 V1 V1).trans K, ?_⟩;have:=vK<|RJ h u (i:=6) V1 g;rw[D]at this;exact this
def wH (c:Cx)(t:Int)(x:Zd):Zd:=x++(c.T++[IntKind.u64.wrap t])
def Bx (c:Cx)(t:Int)(x:Zd):Zd:=(EO c.fl<|fill c.R<|wH c t x).take<|hW c.X
def lossV (c:Cx)(x:Zd):Int:=rg (EO c.fk<|fill c.Q<|x++(c.T++[])) 0
def rP (c:Cx)(t:Int)(x e:Zd):Zd:=V0 c.R c.fl (wH c t x) e
def yi (c:Cx)(x:Zd):Zd:=V0 c.Q c.fk (x++(c.T++[])) [1]
def Cx.Ok.lens (h:c.Ok):((hW c.X:Int)+hW c.T+1<=c.R/\(hW c.X:Int)+hW c.T<=c.Q)/\(1<=c.R/\c.R<=64)/\(1<=c.Q/\c.Q<=64)/\1<=hW c.X/\hW c.X<=64/\hW c.T<=64:=by
 have n:=h.num;have e:=Hq h.hc;exact⟨QV (by have:=n.x;omega) (by have:=n.t;omega) e.2,n.R,n.Q,n.x.1,n.x.2,n.t⟩
def vy (t:Int){x:Zd}(e:hW x=hW c.X):hW (wH c t x)=hW c.X+hW c.T+1:=by unfold wH;simp[e];omega
def N7 {t:Int}{x:Zd}(g:ce x)(wT:ce c.T):ce<|wH c t x:=g.app (wT.app λv e=>by rw[cc.1 e];exact LF _)
variable (h:c.Ok) (wT:ce c.T)
include h wT
theorem Cb {t:Int}{x:Zd}(o:hW x=hW c.X)(p:ce x):hW (Bx c t x)=hW c.X/\ce (Bx c t x):=by
 have⟨⟨v,z⟩,u,q,C,D,A⟩:=h.lens;have⟨e,g⟩:=Pv h.pl (r:=fill c.R<|wH c t x) (N7 p wT).fill;rw[fB (by rw[vy t o];omega)]at e;unfold Bx;exact⟨by rw[aD,e];omega,g.take _⟩
theorem B7 {t:Int}{x e:Zd}(g:hW x=hW c.X)(p:ce x)(v:hW e=hW c.X)(o:ce e):hW (rP c t x e)=hX c.R/\ce (rP c t x e):=by
 have⟨⟨z,A⟩,u,q,D,E,C⟩:=h.lens;exact Me h.pl (by rw[vy t g];omega) V1 (N7 p wT) o
theorem bt9 :ce [1]:=λv e=>by rw[cc.1 e];unfold xp;omega
theorem GG {x:Zd}(g:hW x=hW c.X)(o:ce x):hW (yi c x)=hX c.Q/\ce (yi c x):=by
 have⟨⟨u,z⟩,q,p,C,D,A⟩:=h.lens;exact Me h.pk (by simp[g];omega) V3 (o.app (wT.app λv e=>by cases e))<|bt9 h wT
end
end
section
open Nat renaming le_of_eq->aB
section
variable {c:Cx} (h:c.Ok) (wT:ce c.T) {W st ax at':Zd}
def jD (c:Cx)(t:Int)(x:Zd):TS:=ua c.fl (fill c.R<|wH c t x)<|zeros c.fl.n
include h wT
theorem Has.lens (H:Has c W st ax at'):hW st=hW c.X/\hW ax=hW c.X/\(hW at')=hW c.T/\ce st/\ce ax/\ce at':=by
 refine⟨?_, ?_, ?_, ?_, ?_, ?_⟩
 .rw[<-H.s];exact eV (H.wd.in' h (i:=1) V1)
 .rw[<-H.x];exact eV (H.wd.in' h (i:=5) V1)
 .rw[<-H.a];exact eV (H.wd.in' h (i:=6) V1)
 .rw[<-H.s];exact H.w.seg _ _
 .rw[<-H.x];exact H.w.seg _ _
 rw[<-H.a];exact H.w.seg _ _
theorem By {t:Int}{x:Zd}(q:hW x=hW c.X)(u:ce x):ce (jD c t x).1/\ce (jD c t x).2.1/\hW (jD c t x).1=hX c.R/\hW (jD c t x).2.1=c.fl.n/\(jD c t x).1.take (hW c.X)=Bx c t x:=by
 have⟨⟨A,C⟩,z,v,E,F,D⟩:=h.lens;have⟨e,g,o,p⟩:=IG h.pl (r:=fill c.R<|wH c t x) (t:=zeros c.fl.n) (N7 u wT).fill<|ce.rep _;refine⟨e,g,o.trans<|fB (by rw[vy t q];omega),p.trans<|cd _, ?_⟩;unfold jD Bx;rw[Rx]
omit wT in
theorem Has.stepR (H:Has c W st ax at')(p:Int):stepR c W p=jD c p st:=by
 unfold Go.V.stepR jD wH;rw[H.s,H.t]
omit wT in
theorem Has.lossR (H:Has c W st ax at')(x:Zd):lossR c W x=ua c.fk (fill c.Q<|x++(c.T++[])) (zeros c.fk.n):=by
 unfold Go.V.lossR;rw[H.t]
theorem Has.lossV (H:Has c W st ax at')(x:Zd):rg (Go.V.lossR c W x).1 0=lossV c x:=by
 rw[H.lossR h,Rx];rfl
theorem Has.taped (H:Has c W st ax at')(p:Int):Has c (Go.V.put W (c.off 2) (Go.V.stepR c W p).1) st ax at':=by
 have⟨o,A,C,q,D,E⟩:=H.lens h wT;have⟨e,u,g,v,z⟩:=By h wT (t:=p) o q;rw[H.stepR h];exact H.put h (i:=2) V1 (aB g) e V1 V1 V1 V1
theorem Has.endd (H:Has c W st ax at'){x:Zd}(o:hW x=hW c.X)(p:ce x):Has c (K0 c W x) st ((yi c x).take<|hW c.X)<|vw (hW c.X) at'<|yi c x:=by
 have⟨⟨J,K⟩,F,E,N,V,M⟩:=h.lens;have I:hW (x++(c.T++[]))=hW c.X+hW c.T:=by simp[o]
 have A:ce<|x++(c.T++[]):=p.app (wT.app λv u=>by cases u);have⟨q,C,g,D⟩:=IG h.pk (r:=fill c.Q<|x++(c.T++[])) (t:=zeros c.fk.n) A.fill<|ce.rep _;rw[fB V1]at g;have⟨L,z⟩:=GG h wT o p;unfold K0;rw[H.lossR h];have H3:=H.put h (i:=3) V1 (aB g) q V1 V1 V1 V1;have e:(jV c.fk (ua c.fk (fill c.Q<|x++(c.T++[]))<|zeros c.fk.n).1 (fill c.Q [1]) (ua c.fk (fill c.Q<|x++(c.T++[]))<|zeros c.fk.n).2.1).2.1=yi c x:=rfl;rw[e];exact H3.back h V1 V1 z
theorem Has.turn (H:Has c W st ax at'){p:Int}{x:Zd}(g:hW x=hW c.X)(v:ce x):Has c (PK c W (jD c p x).1 (jD c p x).2.1) st ((rP c p x ax).take<|hW c.X)<|vw (hW c.X) at'<|rP c p x ax:=by
 have⟨⟨I,J⟩,A,z,M,N,L⟩:=h.lens;have⟨C,o,D,E,q,F⟩:=H.lens h wT;have⟨K,u⟩:=B7 h wT (t:=p) g v o q;unfold PK;rw[H.x];have e:(jV c.fl (jD c p x).1 (fill c.R ax) (jD c p x).2.1).2.1=rP c p x ax:=rfl;rw[e];exact H.back h V1 V1 u
theorem Has.adv1 (H:Has c W st ax at')(p:Int):Has c (Go.V.adv1 c W p) (Bx c p st) ax at':=by
 have⟨⟨J,K⟩,C,A,M,N,L⟩:=h.lens;have⟨o,D,E,q,F,I⟩:=H.lens h wT
 have e:Mh c W p=EO c.fl (fill c.R<|wH c p st):=by
  unfold Mh wH;rw[H.s,H.t]
 have⟨g,u⟩:=Pv h.pl (r:=fill c.R<|wH c p st) (N7 q wT).fill;rw[fB (by rw[vy p o];omega)]at g;have⟨v,z⟩:=Cb h wT (t:=p) o q;unfold Go.V.adv1;rw[e];exact(H.put h (i:=2) V1 (aB g) u V1 V1 V1 V1).put1 h v z
def IQ (c:Cx)(t:Int)(x:Zd):Nat->Zd
 |0=>x
 |i+1=>Bx c (t+(i:Int))<|IQ c t x i
theorem Has.advW (H:Has c W st ax at')(p:Int): ∀i,Has c (Go.V.advW c W p i) (IQ c p st i) ax at'
 |0=>H
 |i+1=>(Has.advW H p i).adv1 h wT _
theorem ER {t:Int}{x:Zd}(e:hW x=hW c.X)(g:ce x): ∀i,hW (IQ c t x i)=hW c.X/\ce (IQ c t x i)
 |0=>⟨e,g⟩
 |i+1=>Cb h wT (ER e g i).1 (ER e g i).2
theorem Has.rev (H:Has c W st ax at')(p:Int):Has c (ap3 c W p) st ((rP c p st ax).take<|hW c.X)<|vw (hW c.X) at'<|rP c p st ax:=by
 have⟨e,o,q,g,u,v⟩:=H.lens h wT;unfold ap3;have:=(H.taped h wT p).turn h wT (p:=p) e g;rw[H.stepR h]at this⊢;exact this
theorem Has.both (H:Has c W st ax at')(p:Int):Has c (QN c W p) st ((rP c p st<|(yi c<|Bx c p st).take<|hW c.X).take<|hW c.X)<|vw (hW c.X) (vw (hW c.X) at'<|yi c<|Bx c p st)<|rP c p st<|(yi c<|Bx c p st).take<|hW c.X:=by
 have⟨e,D,E,g,F,I⟩:=H.lens h wT;have⟨v,z,A,C,o⟩:=By h wT (t:=p) e g;have⟨q,u⟩:=Cb h wT (t:=p) e g;unfold QN;have H2:=H.taped h wT p;rw[H.stepR h]at H2⊢;rw[o];exact(H2.endd h wT q u).turn h wT (p:=p) e g
end
end
section
open Nat renaming le_refl->aB,mul_add->aD,eq_zero_or_pos->bB
def ch :Nat->Nat->Nat
 |_,0=>1
 |0,_+1=>0
 |n+1,k+1=>ch n k+ch n (k+1)
def Ol (n:Nat):ch n 0=1:=by cases n<;>rfl
def KT (n k:Nat):ch (n+1) (k+1)=ch n k+ch n (k+1):=rfl
def S5 : ∀n k,ch (n+1) (k+1)*(k+1)=ch n k*(n+1)
 |0,0=>rfl
 |0,k+1=>by rw[KT];simp[ch]
 |n+1,0=>by
  have h:=S5 n 0;rw[Ol]at h;rw[KT (n+1) 0,Ol];omega
 |n+1,k+1=>by
  have e:=S5 n k;have g:=S5 n<|k+1;rw[KT (n+1)<|k+1,Nat.add_mul,g,show k+1+1=(k+1)+1 from rfl,aD<|ch (n+1)<|k+1,e,Nat.mul_one,KT n k,aD (ch n k+ch n (k+1)) (n+1) 1,Nat.add_mul];omega
def S7 : ∀{n k:Nat},k<=n->1<=ch n k
 |n,0,_=>by rw[Ol];exact aB _
 |n+1,k+1,h=>by rw[KT];have:=S7 (n:=n) (k:=k) V1;omega
def S6 : ∀{n k:Nat},n<k->ch n k=0
 |0,k+1,_=>rfl
 |n+1,k+1,h=>by rw[KT,S6 V1,S6 V1]
def S8 (n:Nat):ch n n=1:=by
 induction n with
 |zero=>rfl
 |succ n e=>rw[KT,e,S6 V1]
def Jy : ∀s a b,a+b=s->ch s a=ch s b
 |0,a,b,h=>by rw[show a=0 by omega,show b=0 by omega]
 |s+1,0,b,h=>by rw[show b=s+1 by omega,Ol,S8]
 |s+1,a+1,0,h=>by rw[show a=s by omega,Ol,S8]
 |s+1,a+1,b+1,h=>by
  rw[KT,KT,Jy s a (b+1) V1,Jy s (a+1) b V1];omega
def br0 (d i:Nat):ch (d+i) i<=ch (d+(i+1)) (i+1):=by
 rw[show d+(i+1)=(d+i)+1 by omega,KT];omega
def Xt (d:Nat)(h:i<=j):ch (d+i) i<=ch (d+j) j:=by
 induction j with
 |zero=>rw[show i=0 by omega];exact aB _
 |succ j e=>
  by_cases hi:i=j+1
  .rw[hi];exact aB _
  exact Nat.le_trans (e V1)<|br0 d j
def Jx {s:Nat}(e:1<=s): ∀l,l+1<=ch (s+l) l
 |0=>by rw[Ol];exact aB _
 |l+1=>by
  rw[show s+(l+1)=(s+l)+1 by omega,KT];have:=Jx e l;have:=S7 (n:=s+l) (k:=l+1) V1;omega
def aw6 (r:Nat):ch (1+r) r=r+1:=by
 induction r with
 |zero=>rfl
 |succ r e=>rw[show 1+(r+1)=(1+r)+1 by omega,KT,e,Nat.add_comm 1 r,S8]
def nI :Nat:=1099511627776
def Xs (n k:Int):Int:=if n<0∨k<0∨n<k then 0 else((min nI (ch (hX n)<|hX k):Nat):Int)
def YY (hi:1<=i):ch (d+(i-1)) (i-1)*(d+i) / i=ch (d+i) i:=by
 have:=S5 (d+(i-1))<|i-1;rw[show i-1+1=i by omega,show d+(i-1)+1=d+i by omega]at this;rw[<-this];exact Nat.mul_div_cancel _ V1
def aj3 (c m i:Nat):c*(m / i)+c*(m % i) / i=c*m / i:=by
 rcases bB i with rfl|h
 .simp
 conv=>rhs;rw[<-Nat.div_add_mod m i,aD,Nat.mul_left_comm,Nat.mul_add_div h]
structure IsRep (l s r:Nat):Prop where
 up:l<=ch (s+r) r
 low: ∀x,x<r->ch (s+x) x<l
def IsRep.eq {l s r e:Nat}(h:IsRep l s r)(g:IsRep l s e):r=e:=by
 rcases Nat.lt_trichotomy r e with k|k|k
 .have:=g.low _ k;have:=h.up;omega
 .exact k
 have:=h.low _ k;have:=g.up;omega
def IsRep.le {l s r:Nat}(h:IsRep l s r)(e:1<=s):r<=l:=by
 rcases Nat.lt_or_ge l r with k|k
 .have:=h.low _ k;have:=Jx e l;omega
 exact k
def aU1 (l:Nat):IsRep l 1<|l-1:=⟨by rw[aw6];omega,λx e=>by rw[aw6];omega⟩
def bl8 {l s r:Nat}(h:l<=ch (s+r) r)(h':r=0∨ch (s+(r-1)) (r-1)<l):IsRep l s r:=
 ⟨h,λx e=>by
  rcases h' with h'|h'
  .omega
  .exact Nat.lt_of_le_of_lt (Xt s (show x<=r-1 by omega)) h'⟩
def spI (n c r:Int):Int:=max 1<|max (Xs (c+r-2) c)<|n-Xs (c+r-1) (c-1)
def M2 {n:Nat}(h:k<=n):Xs (n:Int) (k:Int)=((min nI (ch n k):Nat):Int):=by
 unfold Xs;rw[Zh];rfl
def aw5 (n k:Int):0<=Xs n k/\Xs n k<=1099511627776:=by
 unfold Xs nI;split<;>omega
def bm5 {n r:Nat}(D:2<=n)(C:1<=c)(p:IsRep n c r)(A:n<=65536):1<=spI n c r/\spI n c r<=n-1/\(c=1->spI n c r=n-1):=by
 have E:1<=r:=by
  rcases bB r with h|h
  .have:=p.up;rw[h,Ol]at this;omega
  exact h
 have o:=p.low (r-1) V1
 have a1:Xs ((c:Int)+r-2) c<=(n:Int)-1:=by
  unfold Xs;split
  .omega
  rename_i h;rw[show(hX<|(c:Int)+r-2)=c+r-2 by omega,Int.toNat_natCast];have v:ch (c+(r-1)) (r-1)=ch (c+(r-1)) c:=Jy _ _ _ V1
  have z:ch (c+r-2) c<=ch (c+(r-1)) c:=by
   obtain⟨e,rfl⟩: ∃e,c=e+1:=⟨c-1,V1⟩
   rw[show e+1+(r-1)=(e+1+r-2)+1 by omega,KT];omega
  omega
 have u:1<=Xs ((c:Int)+r-1) (c-1):=by
  rw[show(c:Int)+r-1=((c+r-1:Nat):Int)by omega,show(c:Int)-1=((c-1:Nat):Int)by omega,M2 V1];have:=S7 (n:=c+r-1) (k:=c-1) V1;unfold nI;omega
 unfold spI;refine⟨V1,V1,λg=> ?_⟩;subst g
 have q:Xs (((1:Nat):Int)+r-1) (((1:Nat):Int)-1)=1:=by
  rw[show((1:Nat):Int)+r-1=((r:Nat):Int)by omega,show((1:Nat):Int)-1=((0:Nat):Int)by omega,M2 V1,Ol];rfl
 rw[q];omega
end
section
structure Mc where
 L:Int
 p:Int
 q:Int
 t:Zd
def ML (a:Int×Int)(m:Mc):Option Mc:=
 if a.1=1 then(if 1<=a.2/\a.2<=65535/\m.p+a.2<=m.L then O {m with p:=m.p+a.2}else Y)
 else if a.1=2 then(if 0<=a.2/\a.2<hW m.t/\m.t.getD (hX a.2) 0<0 then O {m with t:=m.t.set (hX a.2) m.p}else Y)
 else if a.1=3 then(if 0<=a.2/\a.2<hW m.t/\0<=m.t.getD (hX a.2) 0 then O {m with p:=m.t.getD (hX a.2) 0}else Y)
 else if a.1=4 then(if 0<=a.2/\a.2<hW m.t/\0<=m.t.getD (hX a.2) 0 then O {m with t:=m.t.set (hX a.2)<|-1}else Y)
 else if a.1=5 then(if a.2=0/\m.q= -1/\m.p=m.L then O {m with q:=m.p}else Y)
 else if a.1=6 then(if a.2=0/\m.q= -1/\m.p=m.L-1 then O {m with q:=m.p}else Y)
 else if a.1=7 then(if a.2=0/\0<m.q/\m.p=m.q-1 then O {m with q:=m.p}else Y)
 else Y
inductive Run (nx:Mc->Option (Int×Int)):Mc->List (Int×Int)->Mc->Prop
 |nil (m:Mc):Run nx m [] m
 |cons {m m' m'':Mc} {a:Int×Int} {l:List<|Int×Int}:nx m=O a->ML a m=O m'->Run nx m' l m''->Run nx m (a::l) m''
def Run.append {g:Mc->Option (Int×Int)}{m m' e:Mc}{l l':List<|Int×Int}(h:Run g m l m')(o:Run g m' l' e):Run g m (l++l') e:=by
 induction h with
 |nil=>exact o
 |cons a b _ p=>exact .cons a b<|p o
def Run.one {e:Mc->Option (Int×Int)}{m m':Mc}{a:Int×Int}(g:e m=O a)(o:ML a m=O m'):Run e m [a] m':= .cons g o<|.nil _
def oi (t:Zd):Int:=t.foldl max<|-1
def yn (t:Zd)(x:Int):Nat:=t.findIdx λy=>Zc<|y=x
def E9 (t:Zd):Nat:=t.countP λy=>Zc<|y<0
def PS (t:Zd):Nat:=t.findIdx λy=>Zc<|y<0
def Ai (l s:Nat):Nat:=((List.range<|l+1).find? λr=>Zc<|l<=ch (s+r) r).getD 0
theorem TN (l:Nat){s:Nat}(g:1<=s):IsRep l s<|Ai l s:=by
 unfold Ai;cases h:(List.range<|l+1).find? λr=>Zc (l<=ch (s+r) r)with
 |none=>
  have:=List.find?_eq_none.1 h l (cJ.2 V1);have:=Jx g l
  grind
 |some r=>
  have⟨e,o⟩:=List.find?_range_eq_some.1 h;refine⟨of_decide_eq_true e,λx p=> ?_⟩
  grind
def Ds (m:Mc):Option<|Int×Int:=
 let e:=if m.q<0 then m.L else m.q
 if 0<=m.q/\e<=oi m.t then O (4,yn m.t<|oi m.t)
 else if m.q=0 then Y
 else if m.q<0/\m.p=m.L then O (5,0)
 else if m.p=e-1 then(if 0<=m.q then O (7,0)else O (6,0))
 else if oi m.t<0 then(if e<=m.p then Y else O (2,0))
 else if m.p<oi m.t∨e<=m.p then O (3,yn m.t<|oi m.t)
 else if oi m.t<m.p/\0<E9 m.t then O (2,PS m.t)
 else if oi m.t<m.p then O (1,e-1-m.p)
 else O (1,spI (e-oi m.t) (E9 m.t+1)<|Ai (hX<|e-oi m.t)<|E9 m.t+1)
theorem wL (t:Zd): ∀x,x<=t.foldl max x/\(∀y∈t,y<=t.foldl max x)/\(t.foldl max x=x∨t.foldl max x∈t):=by
 induction t with
 |nil=>exact λx=>⟨Int.le_refl _,λy hy=>by(cases hy), .inl rfl⟩
 |cons z t g=>
  intro x;have⟨o,e,p⟩:=g<|max x z;rw[List.foldl_cons];refine⟨V1,λy hy=> ?_, ?_⟩
  .rcases aw.1 hy with rfl|hy
   .omega
   exact e y hy
  grind
theorem Lz (o: -1<=x)(e: ∀y∈t,y<=x)(g:x= -1∨x∈t):oi t=x:=by
 have⟨a,b,c⟩:=wL t<|-1;unfold oi
 grind
theorem bn2 (g:0<=x)(e: ∀y∈t,y<x):oi t<x:=by
 have⟨a,b,c⟩:=wL t<|-1;unfold oi
 grind
def JU (h:y∈t.set k a):y∈t∨y=a:=List.mem_or_eq_of_mem_set h
def aW4 (o:0<=a)(e:k<hW t)(h: ∀y∈t,y<a):oi (t.set k a)=a:=
 Lz V1 (λy g=>by rcases JU g with k|k;exact Int.le_of_lt<|h y k;omega) (.inr<|List.mem_set e a)
theorem aV3 (e:k<hW t)(h: ∀y∈t,y<a):yn (t.set k a) a=k:=by
 unfold yn;rw[List.findIdx_eq (by rw[List.length_set];exact e)];refine⟨V2,λj g=> ?_⟩;have:=h t[j] (List.getElem_mem _)
 grind
def aI5 (h:0<E9 t): ∃e:PS t<hW t,t[PS t]<0:=by
 unfold E9 at h;have⟨y,o,g⟩:=List.countP_pos_iff.1 h;have e:PS t<hW t:=List.findIdx_lt_length_of_exists ⟨y,o,g⟩;refine⟨e,of_decide_eq_true<|List.findIdx_getElem (w:=e)⟩
theorem aP2 (e:0<=a)(g:k<hW t)(h:t[k]<0):E9 (t.set k a)+1=E9 t:=by
 unfold E9
 grind
end
section
open Int renaming toNat_natCast->aB,reduceEq->aD
open List renaming getElem_mem->bB
def WH (n c:Nat):Nat:=hX<|spI n c<|Ai n c
def Yu {n:Nat}(o:2<=n)(e:1<=c)(g:n<=65536):1<=WH n c/\WH n c+1<=n/\(c=1->WH n c+1=n)/\((WH n c:Nat):Int)=spI n c (Ai n c):=by
 have⟨p,q,u⟩:=bm5 o e (TN n e) g;unfold WH;omega
def hld (t:Zd):List Bool:=t.map λy=>Zc<|0<=y
def pt :Nat->Bool->Nat->Nat->Nat->List Bool->Bool->List (Int×Int)
 |0,_,_,_,_,_,_=>[]
 |f+1,Zb,n,c,_,h,e=>if n=1 then [(if e then 6 else 7,0)]else(2,((h.findIdx λb=> !b:Nat):Int))::pt f Za n c (h.findIdx λb=> !b) (h.set (h.findIdx λb=> !b) Za) e
 |f+1,Za,n,c,k,h,e=>if n<=1 then [(7,0),(4,(k:Int))]else(1,(WH n c:Int))::(pt f Zb (n-WH n c) (c-1) 0 h e++(3,(k:Int))::pt f Za (WH n c) c k h Zb)
theorem aQ2 (t:Zd):((hld t).findIdx λb=> !b)=PS t:=by
 unfold hld PS;rw[List.findIdx_map]
 congr 1
 grind
def aQ1 (t:Zd)(k:Nat)(e:0<=a):hld (t.set k a)=(hld t).set k Za:=by
 unfold hld;rw[List.map_set,zB e]
theorem Vo (e:k<hW t):(t.set k a).getD k 0=a:=by
 grind
structure At30 (L q a:Int)(n:Nat)(last:Bool):Prop where
 fa:0<=a
 fn:1<=n/\n<=65535
 fe:(if q<0 then L else q)=a+n
 fl:last=Za->q= -1
 fm:last=Zb->0<=q
 fL:a+n<=L
theorem aG1 : ∀(f:Nat),(∀(n c k:Nat) (t:Zd) (e:Bool) (L q a:Int),2*n<=f->At30 L q a n e->(∀y∈t,y<a)->(∀y∈t,-1<=y)->E9 t=c->(2<=n->1<=c)->Run Ds ⟨L,a,q,t⟩ (pt f Zb n c k (hld t) e) ⟨L,a,a,t⟩)/\
  (∀(n c k:Nat) (t:Zd) (e:Bool) (L q a:Int),2*n<=f+1->At30 L q a n e->(n=1->e=Zb)->(∀y∈t,y<a)->(∀y∈t,-1<=y)->(v:k<hW t)->t[k]<0->E9 t=c->Run Ds ⟨L,a,q,t.set k a⟩ (pt f Za n c k (hld<|t.set k a) e) ⟨L,a,a,t⟩)
 |0=>⟨λn c k t e L q a z J=>by have:=J.fn;omega,λn c k t e L q a z J=>by have:=J.fn;omega⟩
 |f+1=>by
  have⟨ihp,H⟩:=aG1 f;refine⟨λn c k t e L q a hf K g u M N=> ?_,λn c k t e L q a hf K X g u v F M=> ?_⟩
  .obtain⟨A,hn,p,I,D,hL⟩:=K;have o:=bn2 (t:=t) A g;unfold pt;by_cases z:n=1
   .rw[zE z];cases e with
    |true=>
     have hq:=I rfl;rw[Zg]at p;rw[zE rfl];refine .one (m':=⟨L,a,a,t⟩) ?_ ?_
     .unfold Ds
      grind
     .unfold ML
      grind
    |false=>
     have hq:=D rfl;rw[Zh]at p;rw[zF V5];refine .one (m':=⟨L,a,a,t⟩) ?_ ?_
     .unfold Ds
      grind
     .unfold ML
      grind
   .rw[zF z,aQ2,<-aQ1 t _ A];have V:0<E9 t:=by have:=N V1;omega
    have⟨hv,hv0⟩:=aI5 V;refine .cons (m':=⟨L,a,q,t.set (PS t) a⟩) ?_ ?_ (H n c (PS t) t e L q a V1 ⟨A,hn,p,I,D,hL⟩ (λh=>absurd h z) g u hv hv0 M)
    .unfold Ds;simp only;rw[p,Zh,zF ZW,zF ZW,Zh];by_cases ht:oi t<0
     .rw[zE ht,Zh]
      have:PS t=0:=by
       unfold PS;rw[List.findIdx_eq V1];refine⟨zB ?_,λj hj=>by omega⟩;have:=(wL t<|-1).2.1 _<|bB (show 0<(hW t) by omega);unfold oi at ht;omega
      rw[this];rfl
     grind
    .unfold ML;simp only[aD,true_and,if_false,if_true,aB]
     grind
  .obtain⟨A,hn,p,I,D,hL⟩:=K;have o:=aW4 A v g;have E:=aV3 v g;have hfre:=aP2 A v F;have hsl:k<hW (t.set k a):=by rw[List.length_set];exact v
   have C:(t.set k a).set k (-1)=t:=by
    have Z:t[k]= -1:=by have:=u _<|bB v;omega
    rw[List.set_set,<-Z,List.set_getElem_self]
   unfold pt;by_cases z:n<=1
   .have hn1:n=1:=by omega
    have hq:=D<|X hn1;rw[Zh]at p;rw[zE z];refine .cons (m':=⟨L,a,a,t.set k a⟩) ?_ ?_ (.one (m':=⟨L,a,a,t⟩) ?_ ?_)
    .unfold Ds;simp only[o]
     grind
    .unfold ML
     grind
    .unfold Ds
     grind
    .unfold ML;simp only[aD,true_and,if_false,if_true,aB,Vo v,C]
     grind
   .rw[zF z];have⟨m1,m2,m3,m4⟩:=Yu (n:=n) (c:=c) V1 V1 V1;generalize hm':WH n c=m at*;refine .cons (m':=⟨L,a+m,q,t.set k a⟩) ?_ ?_ (.append (m':=⟨L,a+m,a+m,t.set k a⟩) (ihp (n-m) (c-1) 0 (t.set k a) e L q (a+m) V1 ⟨V1,V1,V1,I,D,V1⟩ (λy hy=>(JU hy).elim (λh=>by have:=g y h;omega) λh=>by omega) (λy hy=>(JU hy).elim (λh=>u y h) λh=>by omega) V1<|λh=> ?_)<|.cons (m':=⟨L,a,a+m,t.set k a⟩) ?_ ?_ (H m c k t Zb L (a+m) a V1 ⟨A,V1,by rw[Zh],(λh=>by cases h),λ_=>by omega,V1⟩ (λ_=>rfl) g u v F M))
    .unfold Ds;simp only[o];rw[p,Zh,zF ZW,zF ZW,Zh,Zh,Zh,Zh,Zh,show a+(n:Int)-a=(n:Int)by omega,aB,show((E9 (t.set k a):Nat):Int)+1=(c:Int)by omega,show E9 (t.set k a)+1=c by omega,m4]
    .unfold ML
     grind
    .by_cases Q:c=1
     .have:=m3 Q;omega
     .omega
    .unfold Ds;simp only[o,E];rw[zF (show¬a+(m:Int)<0 by omega),Zh,Zh,Zh,Zh,Zh,Zg]
    .unfold ML;simp only[aD,true_and,if_false,if_true,aB,Vo v]
     grind
end
section
open Int renaming toNat_natCast->bB
open List renaming getElem?_eq_getElem->bD,getElem?_eq_none->cB,map_congr_left->cD
open Nat renaming mul_div_cancel->aB,pow_succ->aD,mul_le_mul_left->cK,one_lt_two_pow->cL,pow_le_pow_right->cM
structure IsStr (k s d:Nat):Prop where
 pw: ∃e,d=2 ^ e
 gt:k<s*d
 lo:d=1∨s*(d / 2)<=k
def IsStr.pos {s:Nat}(h:IsStr k s d):1<=d:=by
 obtain⟨e,rfl⟩:=h.pw;exact Nat.one_le_two_pow
theorem IsStr.eq {s:Nat}(h:IsStr k s d)(o:IsStr k s d'):d=d':=by
 have v: ∀{d d':Nat},IsStr k s d->IsStr k s d'->¬d<d':=λ{d d'} h o p=>by
  obtain⟨e,rfl⟩:=h.pw;obtain⟨g,rfl⟩:=o.pw;have D:e<g:=(Nat.pow_lt_pow_iff_right V1).1 p;have q:2 ^ e<=2 ^ (g-1):=cM V1 V1
  have u:2 ^ g / 2=2 ^ (g-1):=by
   conv=>lhs;rw[show g=(g-1)+1 by omega,aD]
   exact aB _ V1
  have z:=h.gt;have A:s*2 ^ e<=s*2 ^ (g-1):=cK _ q;have C:1<2 ^ g:=cL V1;rcases o.lo with h6|h6
  .omega
  rw[u]at h6;omega
 grind
def sm (k s:Nat):Nat:=2 ^ (((List.range 17).find? λe=>Zc<|k<s*2 ^ e).getD 0)
theorem pf {s:Nat}(u:k<65536)(v:1<=s):IsStr k s<|sm k s:=by
 unfold sm;cases h:(List.range 17).find? λe=>Zc (k<s*2 ^ e)with
 |none=>
  have:=List.find?_eq_none.1 h 16 (cJ.2 V1)
  grind
 |some e=>
  have⟨g,o⟩:=List.find?_range_eq_some.1 h;have g:=of_decide_eq_true g;refine⟨⟨e,rfl⟩,g, ?_⟩;rcases Nat.eq_zero_or_pos e with he|he
  .left;subst he;rfl
  right;have p:=o.2 (e-1) V1;simp only[Bool.not_eq_true',decide_eq_false_iff_not]at p;show s*(2 ^ e / 2)<=k
  have q:2 ^ e / 2=2 ^ (e-1):=by
   conv=>lhs;rw[show e=(e-1)+1 by omega,aD]
   exact aB _ V1
  rw[q];omega
def IsStr.next {s:Nat}(h:IsStr k s d)(o:IsStr (k+1) s d'):d ∣ d':=by
 obtain⟨e,rfl⟩:=h.pw;obtain⟨g,rfl⟩:=o.pw;refine Nat.pow_dvd_pow 2 ?_;rcases Nat.lt_or_ge g e with u|hge
 .exfalso;have p:2 ^ g<=2 ^ (e-1):=cM V1 V1
  have q:2 ^ e / 2=2 ^ (e-1):=by
   conv=>lhs;rw[show e=(e-1)+1 by omega,aD]
   exact aB _ V1
  have z:1<2 ^ e:=cL V1;have v:s*2 ^ g<=s*2 ^ (e-1):=cK _ p;have A:=o.gt;rcases h.lo with h7|h7
  .omega
  rw[q]at h7;omega
 exact hge
def aS2 (d:Nat)(t:Zd):Zd:=t.filter λx=>Zc<|0<=x/\x % (d:Int)≠0
def XY (d:Nat)(t:Zd):Option Int:=(aS2 d t).min?
def si (e:Bool)(m:Mc):Option<|Int×Int:=
 let d:=sm (hX m.L) (hW m.t)
 if m.q<0 then
  (if m.p<m.L then O (1,m.L-m.p)
  else match XY d m.t with
   |some x=>O (4,yn m.t x)
   |none=>if m.L % (d:Int)=0/\m.L∉m.t/\(-1:Int)∈m.t then O (2,yn m.t<|-1)else if e then O (5,0)else Y)
 else if 0<=oi m.t/\m.q<=oi m.t then O (4,yn m.t<|oi m.t)
 else if m.q=0 then Y
 else if m.p=m.q-1 then O (7,0)
 else if 0<=oi m.t/\(m.p<oi m.t∨m.q<=m.p)then O (3,yn m.t<|oi m.t)
 else if m.p<m.q then O (1,m.q-1-m.p)
 else Y
structure Gd (k:Nat)(t:Zd)(d:Nat):Prop where
 ins: ∀x∈t,x= -1∨(0<=x/\x<k/\x % (d:Int)=0)
 all: ∀j:Nat,j<k->j % d=0->(j:Int)∈t
 one: ∀i j (hi:i<hW t) (hj:j<hW t),t[i]=t[j]->0<=t[i]->i=j
def GP (h:x∈t): ∃e:yn t x<hW t,t[yn t x]=x:=by
 have e:yn t x<hW t:=List.findIdx_lt_length_of_exists ⟨x,h,zB rfl⟩;exact⟨e,of_decide_eq_true<|List.findIdx_getElem (w:=e)⟩
def frd (d n:Nat)(t:Zd):Zd:=t.map λx=>if 0<=x/\x<(n:Int)/\x % (d:Int)≠0 then-1 else x
def K6 (d:Nat):Nat->Zd->List (Int×Int)×Zd
 |0,t=>([],t)
 |n+1,t=>if n % d≠0/\(n:Int)∈(K6 d n t).2 then((K6 d n t).1++[(4,(yn (K6 d n t).2 n:Int))],(K6 d n t).2.set (yn (K6 d n t).2 n)<|-1)else K6 d n t
def br8 (t:Zd):frd d 0 t=t:=by
 unfold frd
 conv=>rhs;rw[<-List.map_id t]
 refine cD λx e=> ?_
 rw[Zh];rfl
theorem JH {n:Nat}(hi:i<hW t):(frd d n t)[i]?=O (if 0<=t[i]/\t[i]<(n:Int)/\t[i] % (d:Int)≠0 then-1 else t[i]):=by
 unfold frd
 grind
def th {n:Nat}:hW (frd d n t)=hW t:=by unfold frd;rw[List.length_map]
theorem Y7 {n:Nat}(e:0<=x):x∈frd d n t↔x∈t/\¬(x<(n:Int)/\x % (d:Int)≠0):=by
 unfold frd
 grind
theorem Vk {n:Nat}(z: ∀i j (hi:i<hW t) (A:j<hW t),t[i]=t[j]->0<=t[i]->i=j)(C:n % d≠0)(u:(n:Int)∈frd d n t):(frd d n t).set (yn (frd d n t) n) (-1)=frd d (n+1) t:=by
 have⟨p,e⟩:=GP u;generalize yn (frd d n t) n=k at*;have q:k<hW t:=by rw[th]at p;exact p
 have o:=JH (d:=d) (n:=n) q;rw[bD p,e]at o;injection o with o
 have v:t[k]=(n:Int):=by
  omega
 apply List.ext_getElem?;intro i;by_cases hi:i<hW t
 .rw[JH hi,List.getElem?_set];by_cases g:k=i
  .subst g
   grind
  rw[zF g,JH hi]
  grind
 rw[cB (by rw[List.length_set,th];omega),cB (by rw[th];omega)]
theorem ay9 {n:Nat}(h: ¬(n % d≠0/\(n:Int)∈frd d n t)):frd d n t=frd d (n+1) t:=by
 unfold frd at*;refine cD λx e=> ?_
 grind
theorem VK :x∈aS2 d t↔x∈t/\0<=x/\x % (d:Int)≠0:=by
 unfold aS2
 grind
def VJ (h:x∈t)(e:0<=x/\x % (d:Int)≠0)(g: ∀y∈t,0<=y->y % (d:Int)≠0->x<=y):XY d t=O x:=by
 unfold XY;rw[List.min?_eq_some_iff];exact⟨VK.2 ⟨h,e⟩,λy o=>by have:=VK.1 o;exact g y this.1 this.2.1 this.2.2⟩
theorem O7 (h: ∀y∈t,0<=y->y % (d:Int)=0):XY d t=Y:=by
 unfold XY
 have:aS2 d t=[]:=List.filter_eq_nil_iff.2 λx e=>by
  grind
 rw[this];rfl
def Yo {k d s:Nat}{t:Zd}{en:Bool}(u:d=sm k s)(v:hW t=s)(p: ∀i j (hi:i<hW t) (D:j<hW t),t[i]=t[j]->0<=t[i]->i=j): ∀n,(K6 d n t).2=frd d n t/\Run (si en) ⟨k,k,-1,t⟩ (K6 d n t).1 ⟨k,k,-1,frd d n t⟩
 |0=>by rw[br8];exact⟨rfl, .nil _⟩
 |n+1=>by
  have⟨g,o⟩:=Yo (en:=en) u v p n;unfold K6;rw[g];by_cases h:n % d≠0/\(n:Int)∈frd d n t
  .rw[zE h,Vk p h.1 h.2];refine⟨rfl,o.append<|.one ?_ ?_⟩
   .unfold si;simp only;rw[Zg,Zh,th,v,bB,<-u,VJ h.2 V1 λy A z C=>by have:=(Y7 z).1 A;omega]
   .obtain⟨q,e⟩:=GP h.2;unfold ML;simp only[Int.reduceEq,if_false,if_true,bB];rw[List.getD_eq_getElem?_getD,bD q,e];simp only[Option.getD_some];rw[Zg,Vk p h.1 h.2]
  .rw[zF h,<-ay9 h];exact⟨g,o⟩
theorem O5 : ∀(N:Nat) (l:List Nat),l.Nodup->(∀x∈l,x<N)->hW l<=N
 |0,l,_,h=>by
  cases l with
  |nil=>exact Nat.le_refl _
  |cons x r=>have:=h x<|List.mem_cons_self ..;omega
 |N+1,l,e,h=>by
  by_cases o:N∈l
  .have:=O5 N (l.erase N) (e.erase N) λx g=>by
    grind
   grind
  .have:=O5 N l e λx g=>by
    grind
   omega
end
section
open Go.IntKind renaming wrap->zH,i64->zI,u64->zJ
open Int renaming tdiv->aB,natCast_add->aD,eq_ofNat_of_zero_le->cL,natCast_mul->cM
open IntKind renaming bits->cN
open Nat renaming add_sub_cancel->bB,div_le_self->bD,min_eq_left->cB,min_eq_right->cD,mul_le_mul->cK,le_div_iff_mul_le->cO
def wUn {n:Nat}(h:n<18446744073709551616):zH zJ (n:Int)=(n:Int):=cb V1
def QC {n:Nat}(h:n<=9223372036854775807):zH zI (n:Int)=(n:Int):=ae V1
def Zp {n:Nat}(h:n<=9223372036854775807:=by omega):zH zI (n:Int)=(n:Int):=QC h
def KN {a:Nat}(p:a<18446744073709551616):vz .u64 (· &&& ·) (a:Int) 4294967295=((a % 4294967296:Nat):Int):=by
 have e:BitVec.ofInt 64 (a:Int)&&& BitVec.ofInt 64 4294967295=BitVec.ofNat 64 (a % 4294967296):=by
  apply BitVec.eq_of_toNat_eq;rw[BitVec.toNat_and,BitVec.toNat_ofInt,BitVec.toNat_ofInt,BitVec.toNat_ofNat];have g:((a:Int) % ((2 ^ 64:Nat):Int)).toNat=a:=by omega
  have o:((4294967295:Int) % ((2 ^ 64:Nat):Int)).toNat=2 ^ 32-1:=by decide
  rw[g,o,Nat.and_two_pow_sub_one_eq_mod];omega
 unfold vz;show zH zJ ((BitVec.ofInt 64 (a:Int)&&& BitVec.ofInt 64 4294967295).toNat:Int)=_;rw[e,BitVec.toNat_ofNat,Zj];omega
def Vh (a:Nat):Int.fdiv (a:Int) (2 ^ (min (Int.toNat 32)<|cN .u64))=((a / 4294967296:Nat):Int):=by
 rw[show(2:Int) ^ (min (Int.toNat 32)<|cN .u64)=4294967296 from rfl,Int.fdiv_eq_ediv_of_nonneg _ V1];rfl
def bt5 {a b:Nat}(o:a<=1099511627776)(g:b<=4194304):ql (a:Int) (b:Int)=O (0,((a*b:Nat):Int)):=by
 have u:a / 4294967296*b<=256*4194304:=cK V1 g;have v:a % 4294967296*b<=4294967295*4194304:=cK V1 g;have z:a*b<=1099511627776*4194304:=cK o g;have e: ∀{n:Nat},n<18446744073709551616->IntKind.u64.wrap (n:Int)=(n:Int):=λh=>cb V1
 unfold ql;rw[Vh a,Vh b,KN (a:=a) V1,KN (a:=b) V1,show b / 4294967296=0 by omega,show b % 4294967296=b by omega];simp only[<-cM];rw[e (n:=a % 4294967296*b) V1,e (n:=a / 4294967296*b) V1,e (n:=a / 4294967296*0) V1,e (n:=a % 4294967296*0) V1,e (n:=a*b) V1,Vh];simp only[<-aD];generalize a / 4294967296*b=p at*;generalize a % 4294967296*b=q at*;rw[e (n:=p+q / 4294967296) V1,Vh,KN V1];simp only[<-aD,Nat.mul_zero,Nat.add_zero,Nat.zero_add];rw[e (n:=(p+q / 4294967296) % 4294967296) V1,Vh,e (n:=(p+q / 4294967296) / 4294967296) V1];simp only[<-aD];rw[e V1,show(p+q / 4294967296) / 4294967296+(p+q / 4294967296) % 4294967296 / 4294967296=0 by omega];rfl
def br2 {a b:Nat}(e:a<18446744073709551616)(g:1<=b):qk 0 (a:Int) (b:Int)=O (((a / b:Nat):Int),((a % b:Nat):Int)):=by
 unfold qk;have:=bD a b;rw[Ze,zD,Ze,zD,zB rfl,zC,Zf,bp,bp,show aB (a:Int) (b:Int)=((a / b:Nat):Int)from rfl,show Int.tmod (a:Int) (b:Int)=((a % b:Nat):Int)from rfl,wUn<|Nat.lt_of_le_of_lt this e]
def fh {a b:Nat}(e:a<=1099511627776)(g:b<=4194304)(hi:1<=i/\i<=4194304):uf (a:Int) (b:Int) (i:Int)=O ((min nI (a*b / i):Nat):Int):=by
 have o:a*b<=1099511627776*4194304:=cK e g;have p:a*b / i<=a*b:=bD _ _;unfold uf nI;rw[cb (n:=(a:Int)) V1,cb (n:=(b:Int)) V1,cb (n:=(i:Int)) V1,bt5 e g,zG,Ze,zD,br2 V1 hi.1,zG];generalize a*b / i=q at*;by_cases h:1099511627776<q
 .rw[Zf,zC,cB V1];rfl
 rw[Ze,zD,cD V1,Zi]
def bh0 (hi:1<=i)(e:ch (d+(i-1)) (i-1)<nI):min nI (min nI (ch (d+(i-1))<|i-1)*(d+i) / i)=min nI (ch (d+i) i):=by
 rw[cD<|Nat.le_of_lt e,YY hi]
theorem Xw {n:Nat}(A:2*k<=n)(C:n<=2097152): ∀f:Int×Int->Option ((Int×Int)⊕Int),(∀i c:Nat,1<=i->i<=k->c<nI->c<=nI->f ((i:Int),(c:Int))=O (.inl (((i+1:Nat):Int),((min nI (c*(n-k+i) / i):Nat):Int))))->(∀i c:Nat,(k<i∨nI<=c)->i<=k+1->c<=nI->f ((i:Int),(c:Int))=O (.inr (c:Int)))->am f co (1,1)=O ((min nI (ch n k):Nat):Int):=by
 intro f q u;refine JT (λs=> ∃i:Nat,s=((i:Int),((min nI (ch (n-k+(i-1))<|i-1):Nat):Int))/\1<=i/\i<=k+1) (λs=>k+1-hX s.1) ⟨1, ?_,V1,V1⟩ V3 ?_
 .rw[show 1-1=0 from rfl,Ol];rfl
 rintro s ⟨i,rfl,g,p⟩;by_cases hi:i<=k/\ch (n-k+(i-1)) (i-1)<nI
 .left;refine⟨_,q i _ g hi.1 V1<|Nat.min_le_left _ _,⟨i+1, ?_,V1,V1⟩,by simp only;omega⟩;rw[bh0 g hi.2];rfl
 right;rw[u i _ V1 p<|Nat.min_le_left _ _]
 congr 2
 have e:n-k+k=n:=by omega
 by_cases o:i=k+1
 .subst o;rw[bB,e]
 have v:nI<=ch (n-k+(i-1)) (i-1):=by omega
 have z:=Xt (n-k) (show i-1<=k by omega)
 grind
def YX (n k:Nat)(e:k<=n):ch n (min k<|n-k)=ch n k:=by
 rcases Nat.le_total k (n-k)with h|h
 .rw[cB h]
 rw[cD h];exact Jy n _ _ V1
theorem CM {n k:Int}(C:n<=2097152):lZ n k=O (Xs n k):=by
 unfold lZ Xs;by_cases e:n<0
 .rw[zB e,zE<|.inl e];rfl
 by_cases o:k<0
 .rw[zA e,zB o,zE<|.inr<|.inl o];rfl
 by_cases p:n<k
 .rw[zA e,zA o,zB p,zE<|.inr<|.inr p];rfl
 rw[zA e,zA o,zA p,Zh];simp only[zD];obtain⟨n,rfl⟩:=cL (show 0<=n by omega);obtain⟨k,rfl⟩:=cL (show 0<=k by omega)
 have A:min (k:Int) (zH zI<|(n:Int)-(k:Int))=((min k (n-k):Nat):Int):=by
  rw[Zi];omega
 have q:=Xw (n:=n) (k:=min k<|n-k) V1 V1 (om (n:Int) (k:Int)) (λi c v z u g=>by
  unfold om;unfold nI at u g;simp only[A];rw[Zf,zC,zB (show(c:Int)<1099511627776 by omega),zC,ae (n:=(n:Int)-((min k (n-k):Nat):Int)) V1,ae (n:=(n:Int)-((min k (n-k):Nat):Int)+(i:Int)) V1,show(n:Int)-((min k (n-k):Nat):Int)+(i:Int)=((n-min k (n-k)+i:Nat):Int)by omega,fh g V1 V1,zG,Zi]
  rfl) (λi c h hi u=>by
  unfold om;unfold nI at h
  grind)
 rw[q,YX n k V1];rfl
theorem aF6 {x:Nat}:zw (x:Int)=O ((min nI x:Nat):Int):=by
 unfold zw nI
 grind
theorem IL {n k:Int}(hn:n<=2097152):nz n k=O (Xs n k):=by
 unfold nz Xs;by_cases q:n<0
 .rw[zB q,zE<|.inl q];rfl
 by_cases v:k<0
 .rw[zA q,zB v,zE<|.inr<|.inl v];rfl
 by_cases A:n<k
 .rw[zA q,zA v,zB A,zE<|.inr<|.inr A];rfl
 rw[zA q,zA v,zA A,Zh];simp only[zD];obtain⟨n,rfl⟩:=cL (show 0<=n by omega);obtain⟨k,rfl⟩:=cL (show 0<=k by omega)
 have X:(cond (Zc<|zH zI ((n:Int)-(k:Int))<(k:Int)) (O<|zH zI<|(n:Int)-(k:Int)) (O (k:Int)):Option Int)=O ((min k (n-k):Nat):Int):=by
  rw[Zi,ah]
  grind
 rw[X,zG];have Z:2*min k (n-k)<=n:=by omega
 have D:=YX n k V1;generalize min k (n-k)=g at*
 obtain⟨r,e,h⟩:=lj (f:=uC (n:Int) (g:Int)) (a:=(1,1)) (λs=> ∃i:Nat,s=((i:Int),((ch (n-g+(i-1)) (i-1):Nat):Int))/\1<=i/\i<=g+1/\ch (n-g+(i-1)) (i-1)<nI) (λs=>g+1-hX s.1) (λr=>(be r (λ_=>O (1099511627776:Int)) λw=>O w)=O ((min nI (ch n g):Nat):Int)) ⟨1,by rw[show 1-1=0 from rfl,Ol];rfl,V1,V1,by rw[show 1-1=0 from rfl,Ol];unfold nI;omega⟩ V3 (by
  rintro s ⟨i,rfl,q,v,Q⟩
  have p:i<=g->ch (n-g+i) i<=ch n g:=λhi=>by
   have:=Xt (n-g) hi
   grind
  have u:=YY (d:=n-g) q;have c1:1<=ch (n-g+(i-1)) (i-1):=S7 V1;generalize z:ch (n-g+(i-1)) (i-1)=c at*;unfold nI at Q;unfold uC;simp only;by_cases hi:i<=g
  .have p:=p hi;rw[zB (show(i:Int)<=(g:Int)by omega),zC,zB (show(i:Int)≠0 by omega),zB (show(c:Int)≠0 by omega),bp,bp]
   have I:zH zI (zH zI ((n:Int)-(g:Int))+(i:Int))=((n-g+i:Nat):Int):=by
    rw[ae (n:=(n:Int)-(g:Int)) V1,Zi];omega
   rw[I];have F:n-g+i<=4194304:=by omega
   obtain⟨m,E⟩: ∃m,m=n-g+i:=⟨_,rfl⟩
   rw[<-E]at F p u⊢;have d2:m / i<=m:=bD _ _;have d3:1099511627776 / c<=1099511627776:=bD _ _
   have J:zH zI (aB (m:Int) (i:Int))=((m / i:Nat):Int):=by
    rw[show aB (m:Int) (i:Int)=((m / i:Nat):Int)from rfl,Zp]
   have K:zH zI (aB 1099511627776 (c:Int))=((1099511627776 / c:Nat):Int):=by
    rw[show aB 1099511627776 (c:Int)=((1099511627776 / c:Nat):Int)from rfl,Zp]
   have o:=aj3 c m i;rw[J,K];by_cases hw:1099511627776 / c<m / i
   .rw[zB (show((1099511627776 / c:Nat):Int)<((m / i:Nat):Int)by omega),zC];refine .inr ⟨_,rfl, ?_⟩;have: ¬m / i*c<=1099511627776:=λh=>by have:=(cO V1).2 h;omega
    rw[Nat.mul_comm]at this;have C:c*(m / i)<=ch m i:=by rw[<-u,<-o];exact Nat.le_add_right _ _
    have V:1099511627776<ch n g:=Nat.lt_of_lt_of_le (Nat.lt_of_not_le this)<|Nat.le_trans C p;rw[gr,cB Z8];rfl
   rw[zA (show¬((1099511627776 / c:Nat):Int)<((m / i:Nat):Int)by omega),zD,bp,bp];have p1:m / i*c<=1099511627776:=(cO V1).1 V1;rw[Nat.mul_comm]at p1;have r1:m % i<i:=Nat.mod_lt _ V1;have p2:c*(m % i)<=1099511627776*2097152:=cK V1 V1
   have L:zH zI ((c:Int)*((m / i:Nat):Int))=((c*(m / i):Nat):Int):=by
    rw[<-cM,Zp]
   have M:zH zI ((c:Int)*Int.tmod (m:Int) (i:Int))=((c*(m % i):Nat):Int):=by
    rw[show Int.tmod (m:Int) (i:Int)=((m % i:Nat):Int)from rfl,<-cM,Zp]
   have q1:c*(m % i) / i<=c*(m % i):=bD _ _
   have N:zH zI (aB ((c*(m % i):Nat):Int) (i:Int))=((c*(m % i) / i:Nat):Int):=by
    rw[show aB ((c*(m % i):Nat):Int) (i:Int)=((c*(m % i) / i:Nat):Int)from rfl,Zp]
   rw[L,M,N,<-aD,Zp,o,u,aF6,zG];by_cases H:nI<=ch m i
   .rw[cB H,show Zc ((nI:Int)=1099511627776)=Za from rfl,zC];refine .inr ⟨_,rfl, ?_⟩;rw[gr,cB V1];rfl
   unfold nI at H;rw[zA Z8,zD];refine .inl ⟨_,rfl,⟨i+1, ?_,V1,V1, ?_⟩, ?_⟩
   .rw[Zi,bB,cD Z8,E];rfl
   .rw[bB,<-E];unfold nI;omega
   rw[Zi];omega
  rw[zA (show¬(i:Int)<=(g:Int)by omega),zD];refine .inr ⟨_,rfl, ?_⟩;rw[cg];have:i=g+1:=by omega
  subst this;rw[bB,show n-g+g=n by omega]at z
  rw[z,cD Z8])
 simp_all
def Wj {r s:Nat}(g:1<=s/\s<=1048576)(e:r<=65536):sW (r:Int) (s:Int)=O (((min nI (ch (s+r) r):Nat):Int),0):=by
 unfold sW;rw[Ze,zD,Ze,zD,Ze,zD,Ze,zD,Zi,IL V1,show(s:Int)+(r:Int)=((s+r:Nat):Int)by omega,M2 V1];rfl
def aQ9 {r s:Nat}(g:1<=s/\s<=1048576)(e:r<=65536):uN (r:Int) (s:Int)=O ((min nI (ch (s+r) r):Nat):Int):=by
 unfold uN;rw[Ze,zD,Zi,CM V1,show(s:Int)+(r:Int)=((s+r:Nat):Int)by omega,M2 V1,Jy (s+r) s r rfl];rfl
theorem aF5 {l s:Nat}(v:l<65536)(o:1<=s/\s<=1048576): ∃r:Nat,zO (l:Int) (s:Int)=O ((r:Int),0)/\IsRep l s r:=by
 unfold zO;rw[Ze,zD,Ze,zD,Ze,zD,Ze,zD];by_cases p:s=1
 .subst p;refine⟨l-1, ?_,aU1 l⟩;rw[Zf,zC,Zi,show max ((l:Int)-1) 0=((l-1:Nat):Int)by omega]
 rw[Ze,zD]
 obtain⟨c,e,r,rfl,g⟩:=lj (f:=yC (l:Int) (s:Int)) (a:=0) (λa=> ∃r:Nat,a=(r:Int)/\(∀x,x<r->ch (s+x) x<l)) (λr=>l+1-hX r) (λc=> ∃r:Nat,c=(r:Int)/\IsRep l s r) ⟨0,rfl,λx u=>by omega⟩ V1 (by
  rintro a ⟨r,rfl,g⟩
  have q:r<=l:=by
   rcases Nat.lt_or_ge l r with k|k
   .have:=g _ k;have:=Jx o.1 l;omega
   exact k
  unfold yC;rw[Wj o V1,zG];by_cases h:l<=ch (s+r) r
  .rw[zB Z8,zC];exact .inr ⟨_,rfl,r,rfl,h,g⟩
  rw[zA Z8,zD,Zi];refine .inl ⟨_,rfl,⟨r+1,rfl,λx u=> ?_⟩,V1⟩
  grind)
 rw[e];exact⟨r,rfl,g⟩
def ap0 {l s:Nat}(D:l<65536)(q:1<=s/\s<=1048576): ∃r:Nat,BQ (l:Int) (s:Int)=O ((r:Int),0)/\IsRep l s r:=by
 unfold BQ DO;rw[Ze,zD,Ze,zD,Zf,zC,Zf];simp only[zG,Bool.not_true,zD];unfold DN
 obtain⟨c,e,r,rfl,z⟩:=lj (f:=yE (l:Int) (s:Int)) (a:=(0,(l:Int))) (λa=> ∃g hi:Nat,a=((g:Int),(hi:Int))/\g<=hi/\hi<=l/\l<=ch (s+hi) hi/\(g=0∨ch (s+(g-1)) (g-1)<l)) (λa=>(a.2-a.1).toNat) (λc=> ∃r:Nat,c=(r:Int)/\IsRep l s r) ⟨0,l,rfl,V1,V1,by have:=Jx q.1 l;omega, .inl rfl⟩ V3 (by
  rintro a ⟨g,hi,rfl,A,C,o,p⟩;unfold yE Cm;simp only;by_cases h:g<hi
  .have u:zH zI (aB (zH zI<|(g:Int)+(hi:Int)) 2)=(((g+hi) / 2:Nat):Int):=by
    rw[ae (n:=(g:Int)+(hi:Int)) V1,<-aD,show aB ((g+hi:Nat):Int) 2=(((g+hi) / 2:Nat):Int)from rfl,Zp]
   rw[Zf,zC,u,aQ9 q V1];simp only[zG];by_cases v:l<=ch (s+(g+hi) / 2) ((g+hi) / 2)
   .rw[zB Z8,zC];exact .inl ⟨_,rfl,⟨g,(g+hi) / 2,rfl,V1,V1,v,p⟩,by simp only;omega⟩
   rw[zA Z8,zD,Zi];exact .inl ⟨_,rfl,⟨(g+hi) / 2+1,hi,rfl,V1,V1,o, .inr (by rw[bB];omega)⟩,by simp only;omega⟩
  rw[Ze,zD];have:g=hi:=by omega
  subst this
  exact .inr ⟨_,rfl,g,rfl,bl8 o p⟩)
 rw[e];exact⟨r,rfl,z⟩
def al9 (a b:Int):ta [1,a,b]=O (max 1<|max a b):=by
 have e:ta [1,a,b]=O (max (max (max 1 1) a) b):=rfl;rw[e]
 congr 1
 omega
def WI {n:Nat}(q:2<=n/\n<65536)(e:1<=c/\c<=1048576):uM (n:Int) (c:Int)=O (spI n c<|Ai n c,0):=by
 obtain⟨r,o,p⟩:=ap0 (l:=n) (s:=c) q.2 e;have g:=TN n e.1;have:r=Ai n c:=p.eq g;subst this;have D:=g.le e.1;have C:=aw5 ((c:Int)+(Ai n c:Int)-1)<|(c:Int)-1;have u:zH zI ((c:Int)+(Ai n c:Int))=(c:Int)+(Ai n c:Int):=ae V1;have v:zH zI ((c:Int)+(Ai n c:Int)-2)=(c:Int)+(Ai n c:Int)-2:=ae V1;have z:zH zI ((c:Int)+(Ai n c:Int)-1)=(c:Int)+(Ai n c:Int)-1:=ae V1;have A:zH zI ((c:Int)-1)=(c:Int)-1:=ae V1;unfold uM;rw[Ze,zD,o];simp only[zG];rw[zA V2,zD,u,v,z,A,CM V1,CM V1];simp only[zG];rw[Zi,al9];rfl
def Yx {n:Nat}(o:2<=n/\n<65536)(e:1<=c/\c<=1048576):uM (n:Int) (c:Int)=O (spI n c (Ai n c),0)/\xg (n:Int) (c:Int)=O (spI n c (Ai n c),0):=by
 refine⟨WI o e, ?_⟩;obtain⟨u,p,q⟩:=aF5 (l:=n) (s:=c) o.2 e;have g:=TN n e.1;have:u=Ai n c:=q.eq g;subst this;have E:=g.le e.1;have D:=aw5 ((c:Int)+(Ai n c:Int)-1) ((c:Int)-1);have v:zH zI ((c:Int)+(Ai n c:Int))=(c:Int)+(Ai n c:Int):=ae V1;have z:zH zI ((c:Int)+(Ai n c:Int)-2)=(c:Int)+(Ai n c:Int)-2:=ae V1;have A:zH zI ((c:Int)+(Ai n c:Int)-1)=(c:Int)+(Ai n c:Int)-1:=ae V1;have C:zH zI ((c:Int)-1)=(c:Int)-1:=ae V1;unfold xg;rw[Ze,zD,p];simp only[zG];rw[zA V2,zD,v,z,A,C,IL V1,IL V1];simp only[zG];rw[Zi];rfl
end
section
def aW3 (l:Zd)(x:Int):oi (l++[x])=max (oi l) x:=by
 unfold oi;rw[List.foldl_append];rfl
def aI2 (l:Zd): -1<=oi l:=(wL l<|-1).1
def bn3 (l:Zd)(h:y∈l):y<=oi l:=(wL l<|-1).2.1 _ h
def Ud (h:0<=oi l):oi l∈l:=by
 rcases(wL l<|-1).2.2 with k|k
 .unfold oi at*;omega
 exact k
theorem aV1 (h:x∉l):yn (l++[x]) x=hW l:=by
 unfold yn
 grind
theorem aV2 (h:y∈l):yn (l++[x]) y=yn l y:=by
 unfold yn
 grind
theorem aP1 (l:Zd)(x:Int):E9 (l++[x])=E9 l+(if x<0 then 1 else 0):=by
 unfold E9
 grind
def Y8 (l:Zd):E9 l<=hW l:=List.countP_le_length
theorem br9 (h:E9 l=0): ∀y∈l,0<=y:=λy e=>by
 have:=List.countP_eq_zero.1 h y e
 grind
theorem aW7 (h:E9 l=0)(o:x<0):PS (l++[x])=hW l:=by
 unfold PS;have g:l.findIdx (λy=>Zc<|y<0)=hW l:=List.findIdx_eq_length_of_false λy e=>zA (by have:=br9 h y e;omega)
 grind
def Uk (h:0<E9 l):PS (l++[x])=PS l:=by
 unfold PS;have:=(aI5 h).1;unfold PS at this;rw[List.findIdx_append,zE this]
def WS (t:Zd):Int:=oi t
def WU (t:Zd):Int:=if oi t<0 then 0 else(yn t (oi t):Int)
def WT (t:Zd):Int:=(E9 t:Int)
def aI7 (t:Zd):Int:=if E9 t=0 then-1 else(PS t:Int)
def aR0 {L p q:Int}(I:hW t<1000000000):uO L p q t=O (p,q,t,(if q<0 then L else q),WS t,WU t,WT t,aI7 t):=by
 unfold uO
 have E:((cond (Zc<|q<0) (O (p,q,t,p,q,t,L))<|O (p,q,t,p,q,t,q)):Option<|Int×Int×Zd×Int×Int×Zd×Int)=O (p,q,t,p,q,t,(if q<0 then L else q)):=by
  rw[ah];split<;>rfl
 rw[E,zG];generalize (if q<0 then L else q)=e
 have v:=cn (f:=mw (p,q,t,p,q,t,e)) (n:=hW t) (λi=>(p,q,t,p,q,t,e,WS<|t.take i,WU<|t.take i,WT<|t.take i,aI7<|t.take i)) (c:=(p,q,t,p,q,t,e,WS t,WU t,WT t,aI7 t)) V1
  (λi hi=>by
   have g:hW (t.take i)=i:=by rw[List.length_take];omega
   have F:=Y8<|t.take i;have H:=aI2<|t.take i;simp only[mw];rw[Zf,zC,bt hi,List.take_succ_eq_append_getElem hi,zG];generalize t[i]=x;generalize J:t.take i=u at*;rw[ae (n:=(i:Int)+1) V1];unfold WS WU WT aI7;rw[ae (n:=(E9 u:Int)+1) V1,aW3,aP1];by_cases D:oi u<x
   .rw[zB D,zC,Int.max_eq_right V1,zF (show¬x<0 by omega),zF (show¬x<0 by omega),aV1 (λh=>by have:=bn3 u h;omega),g];simp only[Nat.add_zero]
    have:(if E9 u=0 then(-1:Int)else(PS (u++[x]):Int))=if E9 u=0 then(-1:Int)else(PS u:Int):=by
     split
     .rfl
     rw[Uk V1]
    rw[this];rfl
   rw[zA D,zD,Int.max_eq_left V1]
   have C:(if oi u<0 then(0:Int)else(yn (u++[x]) (oi u):Int))=if oi u<0 then(0:Int)else(yn u (oi u):Int):=by
    split
    .rfl
    rw[aV2<|Ud V1]
   rw[C];by_cases o:x<0
   .rw[zB o,zC,zE o,zF (show¬E9 u+1=0 by omega)];by_cases A:E9 u=0
    .rw[zE A,Zf,zC,aW7 A o,g];rfl
    rw[zF A,Ze,zD,Uk V1];rfl
   rw[zA o,zD,zF o];simp only[Nat.add_zero]
   have:(if E9 u=0 then(-1:Int)else(PS (u++[x]):Int))=if E9 u=0 then(-1:Int)else(PS u:Int):=by
    split
    .rfl
    rw[Uk V1]
   rw[this]
   rfl)
  (by
   simp only[mw]
   rw[zA V2,zD,List.take_length])
 rw[List.take_zero]at v;have z:am (mw (p,q,t,p,q,t,e)) co (0,p,q,t,p,q,t,e,-1,0,0,-1)=_:=v;rw[z];rfl
def WV (h: ¬oi t<0):WU t=(yn t (oi t):Int):=zF h
def aW8 (h: ¬E9 t=0):aI7 t=(PS t:Int):=zF h
def bq6 :Option (Int×Int)->Int×Int×Bool
 |none=>(0,0,Zb)
 |some a=>(a.1,a.2,Za)
section
variable {c:Cx}
def ba4 (h:c.Ok)(g:c.mode≠3)(hi:Inv c s):fC c.fixed c.tp c.sl c.ns c.mode c.R c.Q c.len c.words s.L s.p s.q s.c0 s.c1 s.c2 s.c3 s.z c.X c.T c.l c.k c.P c.tk (c.off 8:Int) c.ns (hW c.X:Int) s.lv s.pk c.words s.W=O (s.p,s.q,lu c s.W):=by
 unfold fC;rw[Kl h g hi.w λk e=>by have:=hi.tag k e;have:=hi.L;omega];rfl
def pB (c:Cx)(s:Dy):Mc:=⟨s.L,s.p,s.q,lu c s.W⟩
theorem XZ (h:c.Ok)(J:c.mode≠3)(hn:1<=c.ns)(hi:Inv c s)(g:Int)(en N:Bool):np g en N c.fixed c.tp c.sl c.ns c.mode c.R c.Q c.len c.words s.L s.p s.q s.c0 s.c1 s.c2 s.c3 s.z c.X c.T c.l c.k c.P c.tk (c.off 8:Int) c.ns (c.X.length:Int) s.lv s.pk c.words s.W=O (bq6<|Ds<|pB c s):=by
 have hns:=h.ns;have V:=hi.L;have hp:=hi.p;have M:=hi.q;have I:(lu c s.W).length=c.ns.toNat:=pD;have v:=Km (c:=c) (W:=s.W) hi.tag;have K:=(sM h J (k:=0) V1).2.2;unfold np de cv mh;simp only[zG];rw[ba4 h J hi];simp only[zG];unfold Cn;rw[ED V hp M V1 v];simp only[zG,cg];rw[Zf,Bool.not_true,zD,aR0 V1];simp only[zG,mO,cq,df,wy,oD,oE,oF,oG,oH,oI,oJ,oK,i6,rY,qG,qH];unfold Ds pB WS WT;simp only;have hg:=aI2 (lu c s.W)
 have ht:oi (lu c s.W)<=s.L:=by
  rcases(wL (lu c s.W)<|-1).2.2 with k|k
  .unfold oi;omega
  exact(v _ k).2
 have hf:=Y8<|lu c s.W;have he:0<=(if s.q<0 then s.L else s.q)/\(if s.q<0 then s.L else s.q)<=s.L:=by split<;>omega
 generalize (if s.q<0 then s.L else s.q)=e at*;have hq':=M;have hsp: ∀x,¬oi (lu c s.W)<s.p->x=oi (lu c s.W)->True:=λ_ _ _=>trivial
 generalize htg:lu c s.W=t at*;rw[ae (n:=e-1) V1,ae (n:=e-1-s.p) V1,ae (n:=e-oi t) V1,ae (n:=(E9 t:Int)+1) V1];by_cases A:0<=s.q/\e<=oi t
 .rw[zE A,zB A.1,zC,zB A.2];simp only[zG,zC];rw[WV V1];rfl
 rw[zF A]
 have r1:(cond (Zc<|0<=s.q) (O<|Zc<|e<=oi t) (O Zb):Option Bool)=O Zb:=by
  grind
 rw[r1];simp only[zG,zD];by_cases C:s.q=0
 .rw[zE C,zB C,zC];rfl
 rw[zF C,zA C,zD]
 have r3:(cond (!Zc (0<=s.q)) (O<|Zc<|s.p=s.L) (O Zb):Option Bool)=O (Zc<|s.q<0/\s.p=s.L):=by
  grind
 rw[r3];simp only[zG];by_cases D:s.q<0/\s.p=s.L
 .rw[zE D,zB D,zC];rfl
 rw[zF D,zA D,zD];by_cases E:s.p=e-1
 .rw[zE E,zB E,zC];by_cases o:0<=s.q
  .rw[zE o,zB o];rfl
  rw[zF o,zA o];rfl
 rw[zF E,zA E,zD];by_cases o:oi t<0
 .rw[zE o,zB o,zC];by_cases u:e<=s.p
  .rw[zE u,zB u];rfl
  rw[zF u,zA u];rfl
 rw[zF o,zA o,zD]
 have r6:(cond (Zc<|s.p<oi t) (O Za) (O<|Zc<|e<=s.p):Option Bool)=O (Zc<|s.p<oi t∨e<=s.p):=by
  grind
 rw[r6];simp only[zG];by_cases u:s.p<oi t∨e<=s.p
 .rw[zE u,zB u,zC,WV o];rfl
 rw[zF u,zA u,zD]
 have r7:(cond (Zc<|oi t<s.p) (O<|Zc<|0<(E9 t:Int)) (O Zb):Option Bool)=O (Zc<|oi t<s.p/\0<E9 t):=by
  by_cases k:oi t<s.p
  .rw[zB k,zC]
   simp_all
  grind
 rw[r7];simp only[zG];by_cases F:oi t<s.p/\0<E9 t
 .rw[zE F,zB F,zC,aW8 V1];rfl
 rw[zF F,zA F,zD];by_cases H:oi t<s.p
 .rw[zE H,zB H,zC];rfl
 rw[zF H,zA H,zD];have Z:e-oi t=(((e-oi t).toNat:Nat):Int):=by omega
 have:=WI (n:=(e-oi t).toNat) (c:=E9 t+1) V1 V1;rw[<-Z,show((E9 t+1:Nat):Int)=(E9 t:Int)+1 by omega]at this;rw[this];rfl
end
end
section
open Int renaming lt_irrefl->aD,tmod_eq_emod_of_nonneg->cB
open List renaming getElem_of_mem->aB,getElem_mem->bB
open Nat renaming pow_succ->bD,eq_zero_or_pos->cD
def Bst (P:Int->Prop)(R:Int->Int->Prop)(t:Zd)(i:Nat)(k:Int):Prop:=
 (k= -1/\∀j (h:j<hW t),j<i->¬P t[j])∨∃j,∃h:j<hW t,k=(j:Int)/\j<i/\P t[j]/\(∀e (g:e<hW t),e<i->P t[e]->¬R t[e] t[j])/\∀e (g:e<hW t),e<j->P t[e]->R t[j] t[e]
theorem Hb {P:Int->Prop}{R:Int->Int->Prop}[DecidablePred P][DecidableRel R]{f:Int×Int->Option ((Int×Int)⊕Int)}{pb:Int->Option Bool}{lb:Int->Int->Option Bool}(Q:hW t<1000000000)
  (I: ∀s,f s=cond (Zc<|s.1<(((List.length t):Nat):Int)) (im (rd t s.1) λx=>im (pb x) λr=>cond r (cond (Zc<|s.2<0) (O<|.inl (IntKind.i64.wrap<|s.1+1,s.1))<|im (rd t s.2) λy=>im (lb x y) λL=>cond L (O<|.inl (IntKind.i64.wrap<|s.1+1,s.1))<|O<|.inl (IntKind.i64.wrap<|s.1+1,s.2))<|O<|.inl (IntKind.i64.wrap<|s.1+1,s.2)) (O<|.inr s.2))
  (J: ∀x,pb x=O (Zc<|P x)) (K: ∀x y,lb x y=O (Zc<|R x y)) (V: ∀a,¬R a a) (M: ∀a b e,R a b->¬R e b->R a e) (N: ∀a b,R a b->¬R b a): ∃k,am f co (0,-1)=O k/\Bst P R t (hW t) k:=by
 refine lj (λs=> ∃(i:Nat) (k:Int),s=((i:Int),k)/\i<=hW t/\Bst P R t i k) (λs=>hW t-hX s.1) _ ⟨0,-1,rfl,V1, .inl ⟨rfl,λj h A=>by omega⟩⟩ V3 ?_;rintro s ⟨i,k,rfl,hi,F⟩;rw[I];simp only;by_cases h:i<hW t
 .left;rw[Zf,zC,bt h,zG,J,Zi,show(i:Int)+1=((i+1:Nat):Int)by omega,zG];by_cases C:P t[i]
  .rw[zB C,zC];rcases F with⟨rfl,H⟩|⟨j,A,rfl,E,v,q,g⟩
   .rw[Zf,zC];refine⟨_,rfl,⟨i+1,i,rfl,V1, .inr ⟨i,h,rfl,V1,C,λz o p u=> ?_,λz o p u=>absurd u<|H z o p⟩⟩,by simp only;omega⟩
    grind
   .rw[Ze,zD,bt A,zG,K,zG];by_cases D:R t[i] t[j]
    .rw[zB D,zC];refine⟨_,rfl,⟨i+1,i,rfl,V1, .inr ⟨i,h,rfl,V1,C,λz o p u=> ?_,λz o p u=>M _ _ _ D<|q z o p u⟩⟩,by simp only;omega⟩
     grind
    .rw[zA D,zD];refine⟨_,rfl,⟨i+1,j,rfl,V1, .inr ⟨j,A,rfl,V1,v,λz o p u=> ?_,g⟩⟩,by simp only;omega⟩
     grind
  .rw[zA C,zD];refine⟨_,rfl,⟨i+1,k,rfl,V1, ?_⟩,by simp only;omega⟩;rcases F with⟨rfl,H⟩|⟨j,A,rfl,E,v,q,g⟩
   .refine .inl ⟨rfl,λj o p=> ?_⟩
    grind
   .refine .inr ⟨j,A,rfl,V1,v,λz o p u=> ?_,g⟩
    grind
 .grind
theorem Lv (o:j<hW t)(h: ∀e (g:e<hW t),e<j->t[e]≠t[j]):yn t t[j]=j:=by
 unfold yn
 grind
theorem av2 (E:1<=d)(C:hW t<1000000000):xk t (d:Int)=O (match XY d t with|none=> -1|some x=>(yn t x:Int)):=by
 unfold xk
 have⟨k,e,h⟩:=Hb (P:=λx=>0<=x/\x % (d:Int)≠0) (R:=λx y=>x<y) (t:=t) (f:=CU t (d:Int)) (pb:=λx=>rA x (d:Int)) (lb:=mP) C (λs=>rfl) (λx=>by
  unfold rA;by_cases h:0<=x
  .rw[zB h,zC,zB (show(d:Int)≠0 by omega),bp,cB h]
   simp_all
  grind) (λx y=>rfl) (λa=>aD a) (λa b e o z=>by omega) (λa b h=>by omega)
 rw[e];rcases h with⟨rfl,F⟩|⟨j,v,rfl,_,A,g,u⟩
 .rw[O7 λy p q=>by
   obtain⟨i,hi,rfl⟩:=aB p
   grind]
  rfl
 rw[VJ (x:=t[j]) (bB v) A λy p q o=>by
  obtain⟨i,hi,rfl⟩:=aB p;have:=g i hi hi ⟨q,o⟩
  omega]
 simp only[zG]
 rw[Lv v λH D o z=>by
  grind]
theorem ah8 (p:hW t<1000000000): ∃k,td t x=O k/\(k<0↔x∉t):=by
 unfold td;obtain⟨k,e,h⟩:=Hb (P:=λy=>y=x) (R:=λx y=>x<y) (t:=t) (f:=AN t x) (pb:=λy=>wA y x) (lb:=mP) p (λs=>rfl) (λy=>rfl) (λx y=>rfl) (λa=>aD a) (λa b e v z=>by omega) (λa b h=>by omega);rw[e];refine⟨k,rfl, ?_⟩;rcases h with⟨rfl,q⟩|⟨j,C,rfl,_,A,o,g⟩
 .refine⟨λ_ u=> ?_,λ_=>by omega⟩;have⟨i,hi,e⟩:=aB u;exact q i hi hi e
 grind
theorem av4 (A:hW t<1000000000)(g: ∀y∈t,-1<=y): ∃k,te t=O k/\((-1:Int)∈t->k=(yn t (-1):Int))/\((-1:Int)∉t->k= -1):=by
 unfold te;obtain⟨k,e,h⟩:=Hb (P:=λy=>y<0) (R:=λx y=>x<y) (t:=t) (f:=AO t) (pb:=λy=>wB y) (lb:=mP) A (λs=>rfl) (λy=>rfl) (λx y=>rfl) (λa=>aD a) (λa b e v z=>by omega) (λa b h=>by omega);rw[e];refine⟨k,rfl, ?_⟩;rcases h with⟨rfl,F⟩|⟨j,o,rfl,_,E,u,q⟩
 .refine⟨λC=> ?_,λ_=>rfl⟩;have⟨i,hi,e⟩:=aB C
  grind
 have p:t[j]= -1:=by have:=g _<|bB o;omega
 refine⟨λ_=> ?_,λh=>absurd (p▸bB o) h⟩
 rw[<-p,Lv o λH D v z=>by
  grind]
theorem av3 (A:hW t<1000000000): ∃k,tf t=O k/\(oi t<0->k= -1)/\(0<=oi t->k=(yn t (oi t):Int)):=by
 unfold tf;obtain⟨k,e,h⟩:=Hb (P:=λy=>0<=y) (R:=λx y=>y<x) (t:=t) (f:=AP t) (pb:=λy=>AQ y) (lb:=wC) A (λs=>rfl) (λy=>rfl) (λx y=>rfl) (λa=>aD a) (λa b e v z=>by omega) (λa b h=>by omega);rw[e];refine⟨k,rfl, ?_⟩;rcases h with⟨rfl,F⟩|⟨j,o,rfl,_,E,p,g⟩
 .refine⟨λ_=>rfl,λu=> ?_⟩;have⟨i,hi,e⟩:=aB (Ud u)
  grind
 have q:oi t=t[j]:=Lz V1 (λy C=>by
  obtain⟨i,hi,rfl⟩:=aB C
  grind) (.inr<|bB o)
 refine⟨λh=>by omega,λ_=> ?_⟩
 rw[q,Lv o λH D v z=>by
  grind]
def aq3 {s:Nat}(v:k<65536)(g:1<=s/\s<=1048576):px (k:Int) (s:Int)=O ((sm k s:Int),0):=by
 unfold px;rw[Ze,zD,Ze,zD,Ze,zD,Ze,zD];have p:=pf v g.1
 have o:am (tw (k:Int) (s:Int)) co 1=O (sm k s:Int):=by
  refine JT (λa=> ∃e:Nat,a=((2 ^ e:Nat):Int)/\(e=0∨s*2 ^ (e-1)<=k)) (λa=>4294967296-hX a) ⟨0,rfl, .inl rfl⟩ V2 ?_;rintro a ⟨e,rfl,he⟩
  have u:2 ^ e<=131072:=by
   rcases he with rfl|he
   .simp
   have:1*2 ^ (e-1)<=s*2 ^ (e-1):=Nat.mul_le_mul_right _ g.1;rcases cD e with rfl|h
   .simp
   rw[show e=(e-1)+1 by omega,bD];omega
  have A:1<=2 ^ e:=Nat.one_le_two_pow;have z:s*2 ^ e<=1048576*131072:=Nat.mul_le_mul g.2 u;unfold tw;rw[<-Int.natCast_mul,Zp];by_cases h:k<s*2 ^ e
  .right;rw[Zf,zC]
   have:IsStr k s<|2 ^ e:=⟨⟨e,rfl⟩,h,by
    rcases he with rfl|he
    .exact .inl rfl
    rcases cD e with rfl|h
    .exact .inl rfl
    right
    have q:2 ^ e / 2=2 ^ (e-1):=by
     conv=>lhs;rw[show e=(e-1)+1 by omega,bD]
     exact Nat.mul_div_cancel _ V1
    rw[q]
    exact he⟩
   rw[this.eq p]
  left;rw[Ze,zD,Zi];refine⟨_,rfl,⟨e+1, ?_, .inr (by rw[Nat.add_sub_cancel];omega)⟩,V1⟩;rw[bD];omega
 rw[o];rfl
section
variable {c:Cx}
def aD9 (h:c.Ok)(hm:c.mode≠3)(hn:1<=c.ns)(hi:Inv c s)(g:Int)(en fa:Bool):pi g en fa c.fixed c.tp c.sl c.ns c.mode c.R c.Q c.len c.words s.L s.p s.q s.c0 s.c1 s.c2 s.c3 s.z c.X c.T c.l c.k c.P c.tk (c.off 8:Int) c.ns (c.X.length:Int) s.lv s.pk c.words s.W=O (bq6<|si en<|pB c s):=by
 have hns:=h.ns;have M:=hi.L;have hp:=hi.p;have hq:=hi.q;have hlen:(lu c s.W).length=c.ns.toNat:=pD;have C:=Km (c:=c) (W:=s.W) hi.tag;have hns2:=(sM h hm (k:=0) V1).2.2;unfold pi de cv mh;simp only[zG];rw[ba4 h hm hi];simp only[zG];unfold Cp;rw[ED M hp hq V1 C];simp only[zG,cg];rw[Ze,zD];unfold si pB;simp only;generalize htg:lu c s.W=t at*
 have hd:px s.L ((t.length:Nat):Int)=O ((sm s.L.toNat t.length:Int),0):=by
  have:=aq3 (k:=s.L.toNat) (s:=t.length) V1 V1;rw[Int.toNat_of_nonneg M.1]at this;exact this
 have N:1<=sm s.L.toNat t.length:=(pf V1 V1).pos;generalize sm s.L.toNat t.length=d at*;by_cases H:s.q<0
 .rw[zE H,zB H,zC];unfold AM;rw[hd];simp only[zG,cq,df];by_cases u:s.p<s.L
  .rw[zE u,zB u,zC,Zi];rfl
  rw[zF u,zA u,zD,av2 N V1];cases ho:XY d t with
  |some x=>
   simp only[zG];rw[Zf,zC];rfl
  |none=>
   simp only[zG];rw[Ze,zD];obtain⟨k2,e2,F⟩:=ah8 (t:=t) (x:=s.L) V1;obtain⟨V,e3,D,K⟩:=av4 (t:=t) V1 λy hy=>(C y hy).1
   rw[e2,e3];simp only[zG]
   have Z:gd (Zc<|(d:Int)≠0) (cond (Zc<|Int.tmod s.L (d:Int)=0) (cond (Zc<|k2<0) (O<|Zc<|0<=V)<|O Zb)<|O Zb)=O (Zc<|s.L % (d:Int)=0/\s.L∉t/\(-1:Int)∈t):=by
    rw[zB (show(d:Int)≠0 by omega),bp,cB M.1];by_cases a1:s.L % (d:Int)=0
    .rw[zB a1,zC];by_cases a2:s.L∉t
     .rw[zB<|F.2 a2,zC]
      congr 1
      by_cases a3:(-1:Int)∈t
      .rw[zB (show 0<=V by rw[D a3];omega),zB ⟨a1,a2,a3⟩]
      rw[zA (show¬0<=V by rw[K a3];omega),zA<|λk=>a3 k.2.2]
     rw[zA (λk=>a2<|F.1 k),zD,zA<|λk=>a2 k.2.1]
    rw[zA a1,zD,zA<|λk=>a1 k.1]
   rw[Z];simp only[zG];by_cases a:s.L % (d:Int)=0/\s.L∉t/\(-1:Int)∈t
   .rw[zE a,zB a,zC,D a.2.2];rfl
   rw[zF a,zA a,zD];cases en<;>rfl
 rw[zF H,zA H,zD];unfold Cq;obtain⟨k,e,hk0,E⟩:=av3 (t:=t) V1;rw[e];simp only[zG,cq,df]
 have A:0<=oi t->0<=k/\rd t k=O (oi t):=λo=>by
  obtain⟨hs,e⟩:=GP<|Ud o;rw[E o,bt hs,e];exact⟨V1,rfl⟩
 have Z:(cond (Zc<|0<=k) ((rd t k).bind λx4=>O<|Zc<|s.q<=x4) (O Zb):Option Bool)=O (Zc<|0<=oi t/\s.q<=oi t):=by
  by_cases o:0<=oi t
  .rw[zB (A o).1,zC,(A o).2];simp only[zG]
   congr 1
   exact decide_eq_decide.2 V1
  rw[zA (by rw[hk0 V1];omega),zD,zA<|λk=>o k.1]
 rw[Z];simp only[zG];by_cases u:0<=oi t/\s.q<=oi t
 .rw[zE u,zB u,zC,E u.1];rfl
 rw[zF u,zA u,zD];by_cases D:s.q=0
 .rw[zE D,zB D];rfl
 rw[zF D,zA D,zD,ae (n:=s.q-1) V1];by_cases I:s.p=s.q-1
 .rw[zE I,zB I];rfl
 rw[zF I,zA I,zD]
 have r2:(cond (Zc<|0<=k) ((rd t k).bind λx9=>cond (Zc<|s.p<x9) (O Za)<|O<|Zc<|s.q<=s.p) (O Zb):Option Bool)=O (Zc<|0<=oi t/\(s.p<oi t∨s.q<=s.p)):=by
  by_cases o:0<=oi t
  .rw[zB (A o).1,zC,(A o).2];simp only[zG];by_cases v:s.p<oi t
   .rw[zB v,zC,zB ⟨o, .inl v⟩]
   rw[zA v,zD]
   congr 1
   exact decide_eq_decide.2 V1
  rw[zA (by rw[hk0 V1];omega),zD,zA<|λk=>o k.1]
 rw[r2];simp only[zG];by_cases v:0<=oi t/\(s.p<oi t∨s.q<=s.p)
 .rw[zE v,zB v,zC,E v.1];rfl
 rw[zF v,zA v,zD];by_cases J:s.p<s.q
 .rw[zE J,zB J,zC,Zi];rfl
 rw[zF J,zA J];rfl
end
end
section
open Int renaming toNat_natCast->bD
open List renaming getElem_mem->aB,length_set->bB,getElem_set->cB,length_map->cD,length_replicate->cK,replicate->cL,getElem?_eq_getElem->cN,getElem?_eq_none->cO,getElem_map->cP,getElem_of_mem->cQ,map_congr_left->cR
open Nat renaming div_add_mod->aD,one_dvd->cM,div_lt_iff_lt_mul->cS,dvd_of_mod_eq_zero->cT
theorem Nf (h:x∈t):yn t x<hW t/\t[yn t x]?=O x:=by
 have⟨g,e⟩:=GP h
 grind
def tR (k:Nat)(t:Zd):List (Int×Int)×Zd:=
 if k % sm k (hW t)=0 then((K6 (sm k<|hW t) k t).1++[(2,(yn (K6 (sm k<|hW t) k t).2 (-1):Int))],(K6 (sm k<|hW t) k t).2.set (yn (K6 (sm k<|hW t) k t).2<|-1) k)
 else K6 (sm k<|hW t) k t
def aO1 (h:d' ∣ d)(e:j % d=0):j % d'=0:=
 Nat.mod_eq_zero_of_dvd (Nat.dvd_trans h<|cT e)
theorem Gd.frd (G:Gd k t d')(E:d' ∣ d):Gd k (frd d k t) d:=by
 refine⟨λx A=> ?_,λj o v=> ?_,λi j hi o e D=> ?_⟩
 .unfold Go.V.frd at A;obtain⟨y,F,rfl⟩:=List.mem_map.1 A;have:=G.ins y F
  grind
 .exact(Y7 V1).2 ⟨G.all j o<|aO1 E v,V1⟩
 have g:i<hW t:=by rw[th]at hi;exact hi
 have p:j<hW t:=by rw[th]at o;exact o
 have q:=JH (d:=d) (n:=k) g;have u:=JH (d:=d) (n:=k) p;rw[cN hi]at q;rw[cN o]at u;injection q with q
 injection u with u
 have z:(Go.V.frd d k t)[i]=t[i]:=by
  omega
 have C:(Go.V.frd d k t)[j]=t[j]:=by
  omega
 exact G.one i j g p (by rw[<-z,<-C,e]) (by rw[<-z];exact D)
theorem Gd.free (G:Gd k t d)(I:1<=d)(D:k % d=0)(E:k<hW t*d):(-1:Int)∈t:=by
 by_cases h:(-1:Int)∈t
 .exact h
 exfalso
 have g: ∀i (hi:i<hW t),0<=t[i]/\t[i]<k/\t[i] % (d:Int)=0:=λi hi=>by
  rcases G.ins _ (aB hi)with h1|h1
  .exact absurd (h1▸aB hi) h
  exact h1
 have p:=O5 (k / d) (t.map λx=>hX x / d) (by
  refine List.pairwise_iff_getElem.2 λi j hi o C e=> ?_
  rw[cD]at hi o;rw[cP,cP]at e;have a:=g i hi;have b:=g j o
  have z:(hX t[i]) % d=0:=by
   grind
  have A:(hX t[j]) % d=0:=by
   grind
  have h1:=aD (hX t[i]) d;have v:=aD (hX t[j]) d;rw[z]at h1;rw[A,<-e]at v;have:=G.one i j hi o V1 a.1
  omega) (λy H=>by
  obtain⟨x,F,rfl⟩:=List.mem_map.1 H;obtain⟨i,hi,rfl⟩:=cQ F;have a:=g i hi;have⟨u,q⟩:=cT D;rw[cS V1,q,Nat.mul_div_cancel_left _ V1,Nat.mul_comm,<-q]
  omega)
 rw[cD]at p;have:=(cS (x:=k) (y:=hW t) (k:=d) V1).2 E;omega
theorem Gd.store (G:Gd k t d)(I:k % d=0)(C:(-1:Int)∈t):Gd (k+1) (t.set (yn t<|-1) k) d:=by
 have⟨E,H⟩:=GP C;generalize yn t (-1)=u at*;refine⟨λx F=> ?_,λj p z=> ?_,λi j hi p e q=> ?_⟩
 .rcases JU F with h|h
  .rcases G.ins x h with h1|h1
   .exact .inl h1
   exact .inr ⟨h1.1,V1,h1.2.2⟩
  grind
 .by_cases A:j=k
  .subst A;exact List.mem_set E _
  have⟨i,hi,e⟩:=cQ<|G.all j V1 z;have D:u≠i:=λh=>by subst h;omega
  have v:i<hW (t.set u (k:Int)):=by rw[bB];exact hi
  have:=aB v
  grind
 rw[bB]at hi p;rw[cB,cB]at e;rw[cB]at q;by_cases o:u=i
 .by_cases g:u=j
  .omega
  rw[zE o,zF g]at e;rcases G.ins _ (aB p)with h1|h1<;>omega
 rw[zF o]at e q;by_cases g:u=j
 .rw[zE g]at e;rcases G.ins _ (aB hi)with h1|h1<;>omega
 rw[zF g]at e;exact G.one i j hi p e q
theorem Bk {s:Nat}{en:Bool}(J:k<65536)(g:hW t=s)(h1:1<=s)(G:Gd k t d')(I:d' ∣ sm k s):
  Run (si en) ⟨k,k,-1,t⟩ (tR k t).1 ⟨k,k,-1,(tR k t).2⟩/\Gd (k+1) (tR k t).2 (sm k s)/\hW (tR k t).2=s/\si en ⟨k,k,-1,(tR k t).2⟩=(if en then O (5,0)else Y)/\(k % sm k s=0->(-1:Int)∈frd (sm k s) k t):=by
 have E:=pf J h1;have q:=E.pos;have⟨D,F⟩:=Yo (k:=k) (d:=sm k s) (s:=s) (t:=t) (en:=en) rfl g G.one k;have G1:=G.frd I;unfold tR;rw[g,D];generalize o:sm k s=d at*
 have z: ∀v:Zd,hW v=s->Gd (k+1) v d->si en ⟨k,k,-1,v⟩=(if en then O (5,0)else Y):=λv K G2=>by
  unfold si;simp only;rw[Zg,Zh,K,bD,o,O7 λy C H=>by rcases G2.ins y C with h|h;omega;exact h.2.2];simp only;rw[zF];rintro⟨a,b,_⟩;exact b (G2.all k V1 V1)
 by_cases h:k % d=0
 .have u:=G1.free q h (by rw[th,g];exact E.gt);have G2:=G1.store h u;have⟨M,Q⟩:=GP u;rw[zE h];have e:hW ((frd d k t).set (yn (frd d k t)<|-1) (k:Int))=s:=by rw[bB,th,g]
  refine⟨F.append<|.one ?_ ?_,G2,e,z _ e G2,λ_=>u⟩
  .unfold si;simp only;rw[Zg,Zh,th,g,bD,o,O7 λy C H=>by rcases G1.ins y C with h|h;omega;exact h.2.2];simp only;rw[zE ⟨V1,λL=>by rcases G1.ins _ L with h|h<;>omega,u⟩]
  .unfold ML
   grind
 .rw[zF h]
  have G2:Gd (k+1) (frd d k t) d:=⟨λx N=>by
   rcases G1.ins x N with h1|h1
   .exact .inl h1
   .exact .inr ⟨h1.1,V1,h1.2.2⟩,λj V p=>by
   by_cases A:j=k
   .subst A;exact absurd p h
   .exact G1.all j V1 p,G1.one⟩
  have e:hW (K6 d k t).2=s:=by rw[D,th,g]
  grind
def di (s:Nat):Nat->List (Int×Int)×Zd
 |0=>tR 0 (cL s<|-1)
 |k+1=>((di s k).1++[(1,1)]++(tR (k+1) (di s k).2).1,(tR (k+1) (di s k).2).2)
def Gd.none (s d:Nat):Gd 0 (cL s<|-1) d:=
 ⟨λx p=> .inl<|List.eq_of_mem_replicate p,λj o=>by omega,λi j hi o e g=>by rw[List.getElem_replicate]at g;omega⟩
def Dd {s:Nat}(e:1<=s): ∀k,k<65536->Gd (k+1) (di s k).2 (sm k s)/\hW (di s k).2=s
 |0,h=>by
  have⟨_,b,c,_⟩:=Bk (en:=Zb) h cK e (Gd.none s 1)<|cM _;exact⟨b,c⟩
 |k+1,h=>by
  have⟨a1,a2⟩:=Dd e k V1;have⟨_,b,c,_⟩:=Bk (en:=Zb) h a2 e a1<|(pf V1 e).next<|pf h e;exact⟨b,c⟩
def YP {s:Nat}(e:1<=s):Run (si Zb) ⟨0,0,-1,cL s<|-1⟩ (di s 0).1 ⟨0,0,-1,(di s 0).2⟩/\si Zb ⟨0,0,-1,(di s 0).2⟩=Y:=by
 have⟨a,b,c,d,_⟩:=Bk (en:=Zb) (k:=0) V1 cK e (Gd.none s 1)<|cM _;exact⟨a,d⟩
theorem YQ {s:Nat}(e:1<=s)(g:k+1<65536):Run (si Zb) ⟨(k:Int)+1,k,-1,(di s k).2⟩ ([(1,1)]++(tR (k+1) (di s k).2).1) ⟨(k:Int)+1,(k:Int)+1,-1,(di s<|k+1).2⟩/\si Zb ⟨(k:Int)+1,(k:Int)+1,-1,(di s<|k+1).2⟩=Y:=by
 have⟨a1,a2⟩:=Dd e k V1;have⟨a,b,c,d,_⟩:=Bk (en:=Zb) g a2 e a1<|(pf V1 e).next<|pf g e;refine⟨Run.cons (m':=⟨((k+1:Nat):Int),((k+1:Nat):Int),-1,(di s k).2⟩) ?_ ?_ a,d⟩
 .unfold si
  grind
 unfold ML
 grind
def au0 {s:Nat}(e:1<=s)(g:k<65536):si Za ⟨k,k,-1,(di s k).2⟩=O (5,0):=by
 cases k with
 |zero=>
  have⟨a,b,c,d,_⟩:=Bk (en:=Za) (k:=0) V1 cK e (Gd.none s 1)<|cM _;exact d
 |succ k=>
  have⟨a1,a2⟩:=Dd e k V1;have⟨a,b,c,d,_⟩:=Bk (en:=Za) g a2 e a1<|(pf V1 e).next<|pf g e;exact d
def cut (n:Nat)(t:Zd):Zd:=t.map λx=>if x<(n:Int)then x else-1
def Xb (d:Nat)(t:Zd)(i:Nat):List<|Int×Int:=if i % d=0 then [(4,(yn t i:Int))]else []
def bkF (d:Nat)(t:Zd):Nat->List (Int×Int)
 |0=>[]
 |i+1=>(3,(yn t ((i-i % d:Nat):Int):Int))::((if i % d≠0 then [(1,((i % d:Nat):Int))]else [])++(7,0)::(Xb d t i++bkF d t i))
def Tb {n:Nat}:hW (cut n t)=hW t:=by unfold cut;rw[cD]
theorem YZ {n:Nat}(hi:i<hW t):(cut n t)[i]?=O (if t[i]<(n:Int)then t[i]else-1):=by
 unfold cut
 grind
theorem Jz {n:Nat}(e:0<=x):x∈cut n t↔x∈t/\x<(n:Int):=by
 unfold cut
 grind
theorem Y3 {n:Nat}(e:0<=x/\x<(n:Int)):yn (cut n t) x=yn t x:=by
 unfold yn cut;rw[List.findIdx_map]
 congr 1
 grind
theorem ax4 (one: ∀i j (hi:i<hW t) (o:j<hW t),t[i]=t[j]->0<=t[i]->i=j)(p:(i:Int)∈t):(cut (i+1) t).set (yn t i) (-1)=cut i t:=by
 have⟨q,e⟩:=GP p;generalize yn t i=u at*;apply List.ext_getElem?;intro j;by_cases o:j<hW t
 .rw[YZ o,List.getElem?_set];by_cases g:u=j
  .subst g;rw[zE rfl,zE (by rw[Tb];exact q),Zh]
  rw[zF g,YZ o]
  grind
 rw[cO (by rw[bB,Tb];omega),cO (by rw[Tb];omega)]
theorem ax3 (e:(i:Int)∉t):cut (i+1) t=cut i t:=by
 unfold cut;refine cR λx g=> ?_
 grind
theorem Y6 {l:Nat}{en:Bool}(G:Gd (l+1) t d)(hi:i<=l)(z:1<=d):Run (si en) ⟨l,i,i,cut (i+1) t⟩ (Xb d t i) ⟨l,i,i,cut i t⟩:=by
 unfold Xb;by_cases h:i % d=0
 .have g:=G.all i V1 h;have e:(i:Int)∈cut (i+1) t:=(Jz V1).2 ⟨g,V1⟩
  have A:oi (cut (i+1) t)=(i:Int):=Lz V1 (λy v=>by
   by_cases q:0<=y
   .have:=((Jz q).1 v).2;omega
   omega) (.inr e)
  have o:=Y3 (n:=i+1) (t:=t) (x:=i) V1;have⟨u,p⟩:=Nf e;rw[o]at u p;rw[zE h];refine .one ?_ ?_
  .unfold si
   grind
  unfold ML;simp only[Int.reduceEq,if_false,if_true,bD];rw[List.getD_eq_getElem?_getD,p];simp only[Option.getD_some];rw[Zg,ax4 G.one g]
 rw[zF h,ax3 λg=>by rcases G.ins _ g with h1|h1<;>omega];exact .nil _
theorem av6 {l d:Nat}{t:Zd}{en:Bool}(I:l<65536)(G:Gd (l+1) t d)(u:1<=d): ∀i,i<=l->Run (si en) ⟨l,i,i,cut i t⟩ (bkF d t i) ⟨l,0,0,cut 0 t⟩
 |0,_=> .nil _
 |i+1,hi=>by
  have v:=Nat.mod_lt i (show d > 0 by omega);have J:=Nat.mod_le i d
  have p:(i-i % d) % d=0:=by
   have:=aD i d;rw[show i-i % d=d*(i / d)by omega];exact Nat.mul_mod_right _ _
  generalize z:i % d=r at*;have K:=G.all (i-r) V1 p;have e:((i-r:Nat):Int)∈cut (i+1) t:=(Jz V1).2 ⟨K,V1⟩
  have V:oi (cut (i+1) t)=((i-r:Nat):Int):=Lz V1 (λy M=>by
   by_cases o:0<=y
   .obtain⟨C,N⟩:=(Jz o).1 M;rcases G.ins y C with h3|h3
    .omega
    .obtain⟨y,rfl⟩:=Int.eq_ofNat_of_zero_le o;have D:y % d=0:=by have:=h3.2.2;omega
     have E:=aD i d;have F:=aD y d;rw[D]at F;rw[z]at E;have H:y / d<=i / d:=Nat.div_le_div_right V1;have Q:d*(y / d)<=d*(i / d):=Nat.mul_le_mul_left _ H;omega
   .omega) (.inr e)
  have q:=Y3 (n:=i+1) (t:=t) (x:=((i-r:Nat):Int)) V1;have⟨L,A⟩:=Nf e;rw[q]at L A;unfold bkF;rw[z]
  have g:Run (si en) ⟨l,i,((i+1:Nat):Int),cut (i+1) t⟩ ((7,0)::(Xb d t i++bkF d t i)) ⟨l,0,0,cut 0 t⟩:=by
   refine .cons (m':=⟨l,i,i,cut (i+1) t⟩) ?_ ?_ ((Y6 G V1 u).append<|av6 I G u i V1)
   .unfold si
    grind
   .unfold ML
    grind
  refine .cons (m':=⟨l,((i-r:Nat):Int),((i+1:Nat):Int),cut (i+1) t⟩) ?_ ?_ ?_
  .unfold si
   grind
  .unfold ML
   grind
  .by_cases o:r≠0
   .rw[zE o];refine .cons (m':=⟨l,i,((i+1:Nat):Int),cut (i+1) t⟩) ?_ ?_ g
    .unfold si
     grind
    .unfold ML
     grind
   grind
def Jr (l:Nat)(t:Zd):List<|Int×Int:=(5,0)::(Xb (sm l<|hW t) t l++bkF (sm l<|hW t) t l)
theorem av0 {l s:Nat}(g:l<65536)(o:1<=s):Run (si Za) ⟨l,l,-1,(di s l).2⟩ (Jr l (di s l).2) ⟨l,0,0,cut 0 (di s l).2⟩/\si Za ⟨l,0,0,cut 0 (di s l).2⟩=Y:=by
 have⟨G,e⟩:=Dd o l g;have p:=(pf g o).pos;unfold Jr;rw[e];have v:=au0 (s:=s) (k:=l) o g;generalize (di s l).2=t at*
 have u:cut (l+1) t=t:=by
  unfold cut
  conv=>rhs;rw[<-List.map_id t]
  refine cR λx z=> ?_
  rcases G.ins x z with h|h
  .rw[Zg];rfl
  rw[Zg];rfl
 refine⟨.cons (m':=⟨l,l,l,t⟩) v ?_ (Run.append (m':=⟨l,l,l,cut l t⟩) ?_ (av6 g G p l<|Nat.le_refl _)), ?_⟩
 .unfold ML
  grind
 .have:=Y6 (en:=Za) (i:=l) G (Nat.le_refl _) p;rw[u]at this;exact this
 have C:oi (cut 0 t)= -1:=Lz V1 (λy A=>by
  by_cases q:0<=y
  .have:=((Jz q).1 A).2;omega
  omega) (.inl rfl)
 unfold si
 grind
end
end Go.V
