/- A part of the proofs of this claim: what functions of the program answer on an abstract machine, and plain laws. No condition. -/
import Derived.Test.YtbocegmeciaanaaGreatL3
import Derived.Test.YtbocegmeciaanaaGreatD2
set_option linter.unusedVariables false
set_option linter.unusedSimpArgs false
set_option linter.unusedSectionVars false
namespace Go.V
open Go.Ab
open Option renaming some->C,none->O
open Bool renaming true->Za,false->Zb
open Decidable renaming decide->Zc
section
open Go.IntKind renaming wrap -> wB, i64 -> wC, u64 -> wD
open Int renaming reduceEq -> aB
set_option maxRecDepth 100000
section
variable {c:Cx} {r:RS}
def encR (c:Cx)(r:RS)(e:Int):=(c.mode,c.X,c.T,c.R,c.l,c.Q,c.k,c.len,c.words,c.R,c.l,c.Q,c.k,(c.X.length:Int),c.T,c.fixed,c.tp,c.sl,c.ns,r.L,r.p,r.q,r.st,r.sl,r.sx,r.kp,r.ax,r.th,r.ls,r.n0,r.n1,r.n2,r.n3,r.pk,e)
theorem Cx.Ok.rof (h:c.Ok):uR c.mode c.X c.T c.R c.l c.Q c.k c.len c.words=C ((c.fl.n:Int),(c.fk.n:Int)):=by
 rw[by0 h.hl h.hk,xD (by rw[h.hc];simp),h.pl.w,h.pk.w]
def zn (r:RS)(p q pk:Int):RS:={r with p:=p,q:=q,pk:=pk}
def qd (c:Cx)(r:RS)(i:Nat):RS:={r with st:=br1 c r.p r.st i,n0:=r.n0+(i:Int)}
theorem di9 (h:c.Ok)(wT:cz c.T)(hst:r.st.length=c.X.length)(wst:cz r.st){m:Nat}{a n:Int}{x0:Zd}{x1 x2 x3 x4 x5 x6:Int}{x7:Zd}{x8:Int}(hn:n=(m:Int))(hp:0<=r.p/\r.p+m<=65535){B:Int}(hc:br9 B r)(hB:B<=4611686018427387904):
  cj zd gi (0,c.mode,c.X,c.T,c.R,c.l,c.Q,c.k,c.len,c.words,c.R,c.l,c.Q,c.k,(c.X.length:Int),c.T,c.fixed,c.tp,c.sl,c.ns,r.L,r.p,r.q,r.st,r.sl,r.sx,r.kp,r.ax,r.th,r.ls,r.n0,r.n1,r.n2,r.n3,r.pk,a,n,x0,x1,x2,x3,x4,x5,x6,x7,x8)=C (c.mode,c.X,c.T,c.R,c.l,c.Q,c.k,c.len,c.words,c.R,c.l,c.Q,c.k,(c.X.length:Int),c.T,c.fixed,c.tp,c.sl,c.ns,(qd c r m).L,(qd c r m).p,(qd c r m).q,(qd c r m).st,(qd c r m).sl,(qd c r m).sx,(qd c r m).kp,(qd c r m).ax,(qd c r m).th,(qd c r m).ls,(qd c r m).n0,(qd c r m).n1,(qd c r m).n2,(qd c r m).n3,(qd c r m).pk,a,n,x0,x1,x2,x3,x4,x5,x6,x7,x8):=by
 subst hn;unfold br9 at hc
 have key:=aB8 (f:=zd) (n:=m) (λi=>((i:Int),c.mode,c.X,c.T,c.R,c.l,c.Q,c.k,c.len,c.words,c.R,c.l,c.Q,c.k,(c.X.length:Int),c.T,c.fixed,c.tp,c.sl,c.ns,(qd c r i).L,(qd c r i).p,(qd c r i).q,(qd c r i).st,(qd c r i).sl,(qd c r i).sx,(qd c r i).kp,(qd c r i).ax,(qd c r i).th,(qd c r i).ls,(qd c r i).n0,(qd c r i).n1,(qd c r i).n2,(qd c r i).n3,(qd c r i).pk,a,(m:Int),x0,x1,x2,x3,x4,x5,x6,x7,x8)) (c:=(c.mode,c.X,c.T,c.R,c.l,c.Q,c.k,c.len,c.words,c.R,c.l,c.Q,c.k,(c.X.length:Int),c.T,c.fixed,c.tp,c.sl,c.ns,(qd c r m).L,(qd c r m).p,(qd c r m).q,(qd c r m).st,(qd c r m).sl,(qd c r m).sx,(qd c r m).kp,(qd c r m).ax,(qd c r m).th,(qd c r m).ls,(qd c r m).n0,(qd c r m).n1,(qd c r m).n2,(qd c r m).n3,(qd c r m).pk,a,(m:Int),x0,x1,x2,x3,x4,x5,x6,x7,x8)) (by omega)
  (λi hi=>by
   obtain⟨s1,s2⟩:=aU4 h wT (t:=r.p) hst wst i;simp only[zd];rw[zD (by omega),yB];show((uQ c.R c.l c.Q c.k (c.X.length:Int) c.T (wB wC (r.p+(i:Int))) (br1 c r.p r.st i)).bind _)=_;rw[bg (n:=r.p+(i:Int)) (by omega),bq5 h wT (by omega) s1 s2];simp only[wA];show C (Sum.inl (wB wC ((i:Int)+1),_,_,_,_,_,_,_,_,_,_,_,_,_,_,_,_,_,_,_,_,_,_,_,_,_,_,_,_,_,wB wC (r.n0+(i:Int)+1),_))=_;rw[bg (n:=(i:Int)+1) (by omega),bg (n:=r.n0+(i:Int)+1) (by omega)];have e1:(i:Int)+1=((i+1:Nat):Int):=by omega
   have e2:r.n0+(i:Int)+1=r.n0+((i+1:Nat):Int):=by omega
   rw[e1,e2]
   rfl)
  (by
   simp only[zd]
   rw[zB (by omega),yD])
 rw[<-key];show cj _ _ _=cj _ _ ((0:Int),_,_,_,_,_,_,_,_,_,_,_,_,_,_,_,_,_,_,_,_,_,_,_,_,_,_,_,_,_,r.n0+((0:Nat):Int),_);rw[show r.n0+((0:Nat):Int)=r.n0 by omega];rfl
theorem cI8 {l:List (Int×Zd)}{sx:Int}{k:Nat}{t:Int}{x:Zd}(hl:l.length<=1048576)(hk:k<l.length)(ht:0<=t/\t<=65535)(hx:(x.length:Int)=sx)(hf:l[k].1<0):al4 l sx (k:Int) t x=C (l.set k (t,x),sx,0):=by
 unfold al4;rw[zB (by omega),yD,zB (by omega),yD,zB (by omega),yD,zB (by omega),yD,zB (by omega),yD,dh hk];simp only[wA];rw[zB (by omega),yD,bX6 hl hk];rfl
theorem cf6 {l:List (Int×Zd)}{sx:Int}{k:Nat}(hk:k<l.length)(hf: ¬l[k].1<0):zx l sx (k:Int)=C (l[k].1,l[k].2,0):=by
 unfold zx;rw[zB (by omega),yD,zB (by omega),yD,dh hk];simp only[wA];rw[zB hf,yD]
theorem cS6 {l:List (Int×Zd)}{sx:Int}{k:Nat}(hl:l.length<=1048576)(hk:k<l.length)(hf: ¬l[k].1<0):au5 l sx (k:Int)=C (l.set k (-1,[]),sx,0):=by
 unfold au5;rw[zB (by omega),yD,zB (by omega),yD,dh hk];simp only[wA];rw[zB hf,yD,bX6 hl hk];rfl
theorem dg4 (h:c.Ok)(wT:cz c.T)(hm:c.mode≠3){s:Dy}(hi:Inv c s)(H:RelD c s r)(S:Slo c s.W r){B:Int}(hc:Cnt B s)(hB:B<=2305843009213693952)(a n:Int):
  ∃r',wL c.mode c.X c.T c.R c.l c.Q c.k c.len c.words c.R c.l c.Q c.k (c.X.length:Int) c.T c.fixed c.tp c.sl c.ns r.L r.p r.q r.st r.sl r.sx r.kp r.ax r.th r.ls r.n0 r.n1 r.n2 r.n3 r.pk a n=C (encR c r' (doF c a n s).1)/\RelD c (doF c a n s).2 r'/\Slo c (doF c a n s).2.W r':=by
 have nm:=h.num;have hW:=hi.w;have hL:=hi.L;have hp:=hi.p;have hq:=hi.q;have hpk:=hi.pk;have hns:=h.ns;have hcr:=H.cnt hc;have hcr':br9 4611686018427387904 r:=by unfold br9 at*;omega
 obtain⟨g1,g2,g3,g4⟩:=aG4 h hi;obtain⟨k1,k2,k3,k4,k5,k6⟩:=H.has.lens h wT;have htp:=nm.tp;rw[xD hm]at htp;have hsl0:0<=c.sl:=by rw[nm.sl];have:=nm.R;split<;>omega
 have hlen:(ai6 c s.W).length<=1048576:=by rw[ai1];omega
 have htm:=bz3 hi.tag;have hinv:=cW5 h hm hi a n;have Hs:=H.has;obtain⟨⟨z1,z2⟩,hR,hQ,z3,z4,z5⟩:=h.lens;have eL:=H.L;have ep:=H.p;have eq':=H.q;have epk:=H.pk;unfold wL;rw[zB hm,yD]
 have hspot:av1 c.mode c.X c.T c.R c.l c.Q c.k c.len c.words c.R c.l c.Q c.k (c.X.length:Int) c.T c.fixed c.tp c.sl c.ns r.L r.p r.q r.st r.sl r.sx r.kp r.ax r.th r.ls r.n0 r.n1 r.n2 r.n3 r.pk=C (r.p,r.q,ai6 c s.W):=by
  unfold av1;rw[zD hm,yB,cS7 S h];rfl
 have hlive:=bp5 h hi S;rw[hspot];simp only[wA];rw[eL,ep,eq',dq9 hL hp hq hlen htm];simp only[wA];rw[dr0 hL hp hq (by omega) hlen htm];simp only[wA];have same: ∃r',C (c.mode,c.X,c.T,c.R,c.l,c.Q,c.k,c.len,c.words,c.R,c.l,c.Q,c.k,(c.X.length:Int),c.T,c.fixed,c.tp,c.sl,c.ns,r.L,r.p,r.q,r.st,r.sl,r.sx,r.kp,r.ax,r.th,r.ls,r.n0,r.n1,r.n2,r.n3,r.pk,(doF c a n s).1)=C (encR c r' (doF c a n s).1)/\RelD c s r'/\Slo c s.W r':=⟨r,rfl,H,S⟩
 rw[eL,ep,eq']at same;rw[eL,ep,eq']at hlive;unfold cf2;generalize hdo:doF c a n s=d at hinv same⊢;unfold doF at hdo;by_cases h1:my a n=Zb∨7<a
 .rw[xB h1]at hdo;subst hdo;rw[xB h1,zD (by simp),yB];exact same
 rw[xD h1]at hdo⊢;obtain⟨h2,hk⟩:=ak7 h1;rw[ai1,Int.toNat_of_nonneg hns.1];by_cases h4:(2<=a/\a<=4)/\c.ns<=n
 .rw[xB h4]at hdo;subst hdo;rw[xB h4,zD (by simp),yB];exact same
 rw[xD h4]at hdo⊢
 have slot:(2<=a/\a<=4)->n=((n.toNat:Nat):Int)/\n.toNat<c.ns.toNat/\rg (ai6 c s.W) n=gm c s.W n.toNat-1:=λhs=>by
  have hn:=yd h2 ⟨by omega,hs.2⟩
  have hlt:n.toNat<c.ns.toNat:=by
   have: ¬c.ns<=n:=λh7=>h4 ⟨hs,h7⟩
   omega
  exact⟨by omega,hlt,cZ4 hn.1 hlt⟩
 have hsz:=S.len
 have fin: ∀(r1:RS) (s':Dy) (tp:Int),Inv c s'->Slo c s'.W r1->0<=tp->max s.pk (max s.lv s'.lv+tp)=s'.pk->r1.L=s'.L->r1.n0=s'.c0->r1.n1=s'.c1->r1.n2=s'.c2->r1.n3=s'.c3->r1.ls=s'.z->Has c s'.W r1.st r1.ax r1.th->r1.pk=s.pk->tp<=1000000->
   ∃r',((jk c.mode c.X c.T c.R c.l c.Q c.k c.len c.words c.R c.l c.Q c.k (c.X.length:Int) c.T c.fixed c.tp c.sl c.ns (zn r1 s'.p s'.q r1.pk).L (zn r1 s'.p s'.q r1.pk).p (zn r1 s'.p s'.q r1.pk).q (zn r1 s'.p s'.q r1.pk).st (zn r1 s'.p s'.q r1.pk).sl (zn r1 s'.p s'.q r1.pk).sx (zn r1 s'.p s'.q r1.pk).kp (zn r1 s'.p s'.q r1.pk).ax (zn r1 s'.p s'.q r1.pk).th (zn r1 s'.p s'.q r1.pk).ls (zn r1 s'.p s'.q r1.pk).n0 (zn r1 s'.p s'.q r1.pk).n1 (zn r1 s'.p s'.q r1.pk).n2 (zn r1 s'.p s'.q r1.pk).n3 (zn r1 s'.p s'.q r1.pk).pk).bind λr100=>C (c.mode,c.X,c.T,c.R,c.l,c.Q,c.k,c.len,c.words,c.R,c.l,c.Q,c.k,(c.X.length:Int),c.T,c.fixed,c.tp,c.sl,c.ns,(zn r1 s'.p s'.q (max r1.pk (wB wC ((max s.lv r100)+tp)))).L,(zn r1 s'.p s'.q (max r1.pk (wB wC ((max s.lv r100)+tp)))).p,(zn r1 s'.p s'.q (max r1.pk (wB wC ((max s.lv r100)+tp)))).q,(zn r1 s'.p s'.q (max r1.pk (wB wC ((max s.lv r100)+tp)))).st,(zn r1 s'.p s'.q (max r1.pk (wB wC ((max s.lv r100)+tp)))).sl,(zn r1 s'.p s'.q (max r1.pk (wB wC ((max s.lv r100)+tp)))).sx,(zn r1 s'.p s'.q (max r1.pk (wB wC ((max s.lv r100)+tp)))).kp,(zn r1 s'.p s'.q (max r1.pk (wB wC ((max s.lv r100)+tp)))).ax,(zn r1 s'.p s'.q (max r1.pk (wB wC ((max s.lv r100)+tp)))).th,(zn r1 s'.p s'.q (max r1.pk (wB wC ((max s.lv r100)+tp)))).ls,(zn r1 s'.p s'.q (max r1.pk (wB wC ((max s.lv r100)+tp)))).n0,(zn r1 s'.p s'.q (max r1.pk (wB wC ((max s.lv r100)+tp)))).n1,(zn r1 s'.p s'.q (max r1.pk (wB wC ((max s.lv r100)+tp)))).n2,(zn r1 s'.p s'.q (max r1.pk (wB wC ((max s.lv r100)+tp)))).n3,(zn r1 s'.p s'.q (max r1.pk (wB wC ((max s.lv r100)+tp)))).pk,(0:Int)))=C (encR c r' 0)/\RelD c s' r'/\Slo c s'.W r':=λr1 s' tp hi' S' ht hpk' a1 a2 a3 a4 a5 a6 a7 a8 a9=>by
  have S2:Slo c s'.W (zn r1 s'.p s'.q r1.pk):=⟨S'.kp,S'.sx,S'.len,S'.slot⟩;have hl:=bp5 h hi' S2;have hin:=aG4 h hi';rw[hl];simp only[wA];rw[bg (by omega),a8,hpk'];exact⟨zn r1 s'.p s'.q s'.pk,rfl,⟨a1,rfl,rfl,a2,a3,a4,a5,a6,rfl,a7⟩,⟨S'.kp,S'.sx,S'.len,S'.slot⟩⟩
 rcases hk with rfl|rfl|rfl|rfl|rfl|rfl|rfl
 .have hn:=yd h2 (by omega);simp only[aB,reduceIte]at hdo⊢;by_cases h5:s.L-s.p<n
  .rw[xB h5]at hdo;subst hdo;rw[xB h5,zD (by simp),yB];exact same
  rw[xD h5]at hdo;subst hdo;rw[xD h5,zB (by simp),yD,h.rof];simp only[wA];rw[hlive];simp only[wA];simp only[decide_true,decide_false,yB,yD];have hadv:=Hs.advW h wT s.p n.toNat;have hl:=di9 (r:=r) h wT k1 k4 (m:=n.toNat) (a:=1) (n:=n) (x0:=ai6 c s.W) (x1:=s.L) (x2:=s.p) (x3:=s.q) (x4:=s.L) (x5:=s.p+n) (x6:=s.q) (x7:=ai6 c s.W) (x8:=0+n) (by omega) (by rw[ep];omega) hcr' (by omega);rw[eL,ep,eq']at hl;rw[hl];simp only[wA];have:=fin (qd c r n.toNat) _ 0 hinv (S.kept (r':=qd c r n.toNat) (cw6 h hW s.p n.toNat) rfl rfl rfl) (by omega) (by simp only;omega) eL (by show r.n0+((n.toNat:Nat):Int)=s.c0+n;rw[H.n0];omega) H.n1 H.n2 H.n3 H.ls (by show Has c (advW c s.W s.p n.toNat) (br1 c r.p r.st n.toNat) r.ax r.th;rw[ep];exact hadv) epk (by omega);exact this
 .obtain⟨en,hlt,ht⟩:=slot (by omega);simp only[aB,reduceIte]at hdo⊢;rw[ht];have hks:n.toNat<r.sl.length:=by omega
  have hsl:=S.slot n.toNat hks;have hst:=bf2 S hks;by_cases h5:0<=gm c s.W n.toNat-1
  .rw[xB h5]at hdo;subst hdo;rw[xB h5,zD (by simp),yB];exact same
  rw[xD h5]at hdo;subst hdo;rw[xD h5,zB (by simp),yD,h.rof];simp only[wA];rw[hlive];simp only[wA,decide_true,decide_false,yB,yD];have hS:=cI8 (l:=r.sl) (sx:=r.sx) (k:=n.toNat) (t:=s.p) (x:=r.st) (by omega) hks (by omega) (by rw[S.sx,k1]) (by omega);rw[<-en]at hS;rw[hS];simp only[wA]
  have eW:wB wD (wB wC (s.p+1))::seg s.W (c.off 1) c.X.length=(s.p+1)::r.st:=by
   rw[bg (by omega),zr ⟨by omega,by omega⟩,Hs.s]
  have hsp:=ai0 h hm hlt;have hx1:((s.p+1)::r.st).length=c.X.length+1:=by rw[List.length_cons,k1]
  have wx1:cz ((s.p+1)::r.st):=λv hv=>by
   rcases List.mem_cons.1 hv with rfl|hv
   .unfold vw;omega
   .exact k4 v hv
  rw[eW]at hinv⊢;exact fin {r with L:=s.L,sl:=r.sl.set n.toNat (s.p,r.st)} _ 0 hinv (S.put h hm hW hlt k1 (.inl ⟨hp.1,rfl⟩) rfl rfl rfl) (by omega) (by simp only;omega) rfl H.n0 H.n1 H.n2 H.n3 H.ls (Hs.put8 h (by unfold sp;omega) (by rw[hx1];omega) wx1) epk (by omega)
 .obtain⟨en,hlt,ht⟩:=slot (by omega);simp only[aB,reduceIte]at hdo⊢;rw[ht];have hks:n.toNat<r.sl.length:=by omega
  have hsl:=S.slot n.toNat hks;have hst:=bf2 S hks;by_cases h5:gm c s.W n.toNat-1<0
  .rw[xB h5]at hdo;subst hdo;rw[xB h5,zD (by simp),yB];exact same
  rw[xD h5]at hdo;subst hdo;rw[xD h5,zB (by simp),yD,h.rof];simp only[wA];rw[hlive];simp only[wA,decide_true,decide_false,yB,yD];have hS:=cf6 (l:=r.sl) (sx:=r.sx) (k:=n.toNat) hks (by omega);rw[<-en]at hS;rw[hS];simp only[wA]
  have hx:r.sl[n.toNat].2=seg s.W (sp c n.toNat+1) c.X.length:=by
   rcases hsl.2 with⟨_,q⟩|⟨q,_⟩
   .exact q
   .omega
  have hsp:=ai0 h hm hlt;have htk:=hW.tk h;have hl2:(seg s.W (sp c n.toNat+1) c.X.length).length=c.X.length:=gy (by omega)
  exact fin {r with L:=s.L,st:=r.sl[n.toNat].2} _ 0 hinv (S.kept (gu.put h (gu.refl s.W) hW (i:=1) (by omega) (by rw[hl2];exact Nat.le_refl _)) rfl rfl rfl) (by omega) (by simp only;omega) rfl H.n0 H.n1 H.n2 H.n3 H.ls (by
   show Has c (put s.W (c.off 1) (seg s.W (sp c n.toNat+1) c.X.length)) r.sl[n.toNat].2 r.ax r.th;rw[hx]
   exact Hs.put1 h hl2 (Hs.w.seg _ _)) epk (by omega)
 .obtain⟨en,hlt,ht⟩:=slot (by omega);simp only[aB,reduceIte]at hdo⊢;rw[ht];have hks:n.toNat<r.sl.length:=by omega
  have hsl:=S.slot n.toNat hks;have hst:=bf2 S hks;by_cases h5:gm c s.W n.toNat-1<0
  .rw[xB h5]at hdo;subst hdo;rw[xB h5,zD (by simp),yB];exact same
  rw[xD h5]at hdo;subst hdo;rw[xD h5,zB (by simp),yD,h.rof];simp only[wA];rw[hlive];simp only[wA,decide_true,decide_false,yB,yD];have hS:=cS6 (l:=r.sl) (sx:=r.sx) (k:=n.toNat) (by omega) hks (by omega);rw[<-en]at hS;rw[hS];simp only[wA];have hsp:=ai0 h hm hlt;have eW:du (c.X.length+1)=(-1+1)::du c.X.length:=rfl;have hlh:=cG4 h hi (cM0 hlt (by omega))
  exact fin {r with L:=s.L,sl:=r.sl.set n.toNat (-1,[])} _ 0 hinv (by
   show Slo c (put s.W (sp c n.toNat) (du (c.X.length+1))) _;rw[eW]
   exact S.put h hm hW hlt (er _) (.inr ⟨rfl,rfl⟩) rfl rfl rfl) (by omega) (by simp only;omega) rfl H.n0 H.n1 H.n2 H.n3 H.ls (Hs.put8 h (by unfold sp;omega) (by rw[er];omega) (cz.rep _)) epk (by omega)
 .simp only[aB,reduceIte]at hdo⊢;by_cases h5:s.q≠ -1
  .rw[xB h5]at hdo;subst hdo;rw[xB h5,zD (by simp),yB];exact same
  rw[xD h5]at hdo⊢;by_cases h6:s.p≠s.L
  .rw[xB h6]at hdo;subst hdo;rw[xB h6,zD (by simp),yB];exact same
  rw[xD h6]at hdo;subst hdo;rw[xD h6,zB (by simp),yD,h.rof];simp only[wA];rw[hlive];simp only[wA,decide_true,decide_false,yB,yD];have he:sj c.mode c.X c.T c.R c.l c.Q c.k c.len c.words c.R c.l c.Q c.k (c.X.length:Int) c.T c.fixed c.tp c.sl c.ns s.L s.p s.q r.st r.sl r.sx r.kp r.ax r.th r.ls r.n0 r.n1 r.n2 r.n3 r.pk r.st=_:=bE2 (r:={r with L:=s.L,p:=s.p,q:=s.q}) h wT k1 k4 k3 k6 hcr' (by omega);rw[he];simp only[wA];have hE:=Hs.endd h wT k1 k4;have eW:seg s.W (c.off 1) c.X.length=r.st:=Hs.s;rw[eW]at hinv⊢;exact fin {ar6 c r.st r with L:=s.L} _ (c.fk.n:Int) hinv (S.kept (bM9 h hW k1) rfl rfl rfl) (by omega) (by simp only;omega) rfl H.n0 H.n1 (by show r.n2+1=s.c2+1;rw[H.n2]) (by show r.n3+1=s.c3+1;rw[H.n3]) (Hs.lossV h wT r.st).symm hE epk (by have:=h.pk.n;omega)
 .simp only[aB,reduceIte]at hdo⊢;by_cases h5:s.q≠ -1
  .rw[xB h5]at hdo;subst hdo;rw[xB h5,zD (by simp),yB];exact same
  rw[xD h5]at hdo⊢;by_cases h6:s.p≠s.L-1
  .rw[xB h6]at hdo;subst hdo;rw[xB h6,zD (by simp),yB];exact same
  rw[xD h6]at hdo;subst hdo;rw[xD h6,zB (by simp),yD,h.rof];simp only[wA];rw[hlive];simp only[wA,decide_true,decide_false,yB,yD];obtain⟨v1,v2⟩:=aq1 h wT (t:=s.p) k1 k4;rw[bq5 h wT (by omega) k1 k4];simp only[wA];generalize hx1:aq0 c s.p r.st=x1 at*;obtain⟨q1,q2⟩:=aG6 h wT v1 v2;have he:sj c.mode c.X c.T c.R c.l c.Q c.k c.len c.words c.R c.l c.Q c.k (c.X.length:Int) c.T c.fixed c.tp c.sl c.ns s.L s.p s.q r.st r.sl r.sx r.kp r.ax r.th r.ls r.n0 r.n1 r.n2 r.n3 r.pk x1=C (c.mode,c.X,c.T,c.R,c.l,c.Q,c.k,c.len,c.words,c.R,c.l,c.Q,c.k,(c.X.length:Int),c.T,c.fixed,c.tp,c.sl,c.ns,s.L,s.p,s.q,r.st,r.sl,r.sx,r.kp,(ar6 c x1 r).ax,(ar6 c x1 r).ls,(ar6 c x1 r).n0,(ar6 c x1 r).n1,(ar6 c x1 r).n2,(ar6 c x1 r).n3,r.pk,(ar6 c x1 r).th):=bE2 (r:={r with L:=s.L,p:=s.p,q:=s.q}) h wT v1 v2 k3 k6 hcr' (by omega);rw[he];simp only[wA];have ht:pf c.mode c.X c.T c.R c.l c.Q c.k c.len c.words c.R c.l c.Q c.k (c.X.length:Int) c.T c.fixed c.tp c.sl c.ns s.L s.p s.q r.st r.sl r.sx r.kp (ar6 c x1 r).ax (ar6 c x1 r).th (ar6 c x1 r).ls (ar6 c x1 r).n0 (ar6 c x1 r).n1 (ar6 c x1 r).n2 (ar6 c x1 r).n3 r.pk s.p r.st=_:=bq8 (r:={ar6 c x1 r with L:=s.L,p:=s.p,q:=s.q}) (B:=4611686018427387904) h wT (by omega) k1 k4 (by show((aC2 c x1).take c.X.length).length=_;rw[List.length_take];omega) (q2.take _) (by show(ao5 c.X.length r.th (aC2 c x1)).length=_;rw[zj];exact k3) (di7 _ _ _) (by unfold br9 Cnt at*;show(0<=r.n0/\r.n0<=4611686018427387904)/\(0<=r.n1/\r.n1<=4611686018427387904)/\(0<=r.n2+1/\r.n2+1<=4611686018427387904)/\0<=r.n3+1/\r.n3+1<=4611686018427387904;omega) (by omega)
  have hE:=Hs.both h wT s.p;rw[hx1]at hE
  have eZ:rg (lossR c (put s.W (c.off 2) (stepR c s.W s.p).1) ((stepR c s.W s.p).1.take c.X.length)).1 0=lossV c x1:=by
   rw[(Hs.taped h wT s.p).lossV h wT,Hs.stepR h,(aC9 h wT (t:=s.p) k1 k4).2.2.2.2,hx1]
  rw[eZ]at hinv⊢;unfold Cnt at hc;rw[ht];simp only[wA];show∃r',((jk _ _ _ _ _ _ _ _ _ _ _ _ _ _ _ _ _ _ _ _ _ _ _ _ _ _ _ _ _ _ (wB wC (r.n1+1)) _ _ _).bind λr100=>C (_,_,_,_,_,_,_,_,_,_,_,_,_,_,_,_,_,_,_,_,_,_,_,_,_,_,_,_,_,_,(wB wC (r.n1+1)),_,_,max r.pk (wB wC ((max s.lv r100)+(wB wC ((c.fl.n:Int)+(c.fk.n:Int))))),0))=_/\_
  have hfn:=h.pl.n;have hfk:=h.pk.n;rw[bg (n:=r.n1+1) (by have:=H.n1;omega),bg (n:=(c.fl.n:Int)+(c.fk.n:Int)) (by omega)];exact fin {cl5 c s.p r.st (ar6 c x1 r)with L:=s.L,n1:=r.n1+1} _ ((c.fl.n:Int)+(c.fk.n:Int)) hinv (S.kept (bV0 h hW s.p).1 rfl rfl rfl) (by omega) (by simp only;omega) rfl H.n0 (by show r.n1+1=s.c1+1;rw[H.n1]) (by show r.n2+1=s.c2+1;rw[H.n2]) (by show r.n3+1+1=s.c3+1+1;rw[H.n3]) rfl hE epk (by omega)
 .simp only[aB,reduceIte]at hdo⊢;by_cases h5:s.q<=0
  .rw[xB h5]at hdo;subst hdo;rw[xB h5,zD (by simp),yB];exact same
  rw[xD h5]at hdo⊢;by_cases h6:s.p≠s.q-1
  .rw[xB h6]at hdo;subst hdo;rw[xB h6,zD (by simp),yB];exact same
  rw[xD h6]at hdo;subst hdo;rw[xD h6,zB (by simp),yD,h.rof];simp only[wA];rw[hlive];simp only[wA,decide_true,decide_false,yB,yD];have ht:pf c.mode c.X c.T c.R c.l c.Q c.k c.len c.words c.R c.l c.Q c.k (c.X.length:Int) c.T c.fixed c.tp c.sl c.ns s.L s.p s.q r.st r.sl r.sx r.kp r.ax r.th r.ls r.n0 r.n1 r.n2 r.n3 r.pk s.p r.st=_:=bq8 (r:={r with L:=s.L,p:=s.p,q:=s.q}) h wT (by omega) k1 k4 k2 k5 k3 k6 hcr' (by omega);have hE:=Hs.rev h wT s.p;unfold Cnt at hc;rw[ht];simp only[wA];have hfn:=h.pl.n;rw[bg (n:=r.n1+1) (by have:=H.n1;omega)];exact fin {cl5 c s.p r.st r with L:=s.L,n1:=r.n1+1} _ (c.fl.n:Int) hinv (S.kept (cw7 h hW s.p).1 rfl rfl rfl) (by omega) (by simp only;omega) rfl H.n0 (by show r.n1+1=s.c1+1;rw[H.n1]) H.n2 (by show r.n3+1=s.c3+1;rw[H.n3]) H.ls hE epk (by omega)
end
end
section
section
variable {c:Cx} {r:RS}
structure Bas (c:Cx)(s:Dy)(r:RS):Prop where
 sl:r.sl=[]
 len:(r.kp.length:Int)=je s
 kept: ∀i,∀hi:i<r.kp.length,r.kp[i].length=c.X.length/\cz r.kp[i]/\seg s.W (uw c i) c.sl.toNat=(wj c (i:Int) r.kp[i]).2.1++(wj c (i:Int) r.kp[i]).1
theorem dm1 {s:Dy}(hi:InvB c s):0<=je s/\je s<=s.L:=by
 have:=hi.p;have:=hi.q;unfold je;split<;>omega
theorem bD0 (h:c.Ok)(hm:c.mode=3){s:Dy}(hi:InvB c s)(H:Bas c s r):jk c.mode c.X c.T c.R c.l c.Q c.k c.len c.words c.R c.l c.Q c.k (c.X.length:Int) c.T c.fixed c.tp c.sl c.ns r.L r.p r.q r.st r.sl r.sx r.kp r.ax r.th r.ls r.n0 r.n1 r.n2 r.n3 r.pk=C s.lv:=by
 obtain⟨b1,b2,b3,b4,b5,b6,b7⟩:=bV3 h hm hi;have hh:=dm1 hi;have hf:=wZ h;have hn:=h.ns;have nm:=h.num;have hsl0:0<=c.sl:=by rw[nm.sl];have:=nm.R;split<;>omega
 have hlv:=hi.lv;have h0:0<=c.sl*je s:=Int.mul_nonneg hsl0 hh.1;have e:(((r.sl.countP λx=>Zc (0<=x.1):Nat):Int)+r.kp.length)=je s:=by rw[H.sl,H.len];simp
 have hkl:r.kp.length<=65535:=by have:=H.len;have:=hi.L;have:=nm.len;omega
 rw[bX7 h (by rw[H.sl];simp) (by omega) (by rw[e];omega) (by omega),e,hlv]
theorem cy5 (h:c.Ok)(e:jp c.mode c.X.length c.T.length c.R c.l c.Q c.k c.len c.words=(c.fixed,c.tp,c.sl,c.ns,0)):wK c.mode c.X c.T c.R c.l c.Q c.k c.len c.words=C (0,c.P):=by
 obtain⟨p,p1,p2,_⟩:=df9 (a0:=c.mode) (a1:=c.X) (a2:=c.T) (a3:=c.R) (a5:=c.Q) (a7:=c.len) (a8:=c.words) h.hl h.hk;rw[bW4 h e]at p1;injection p1 with p1
 rw[p2,<-p1]
end
end
section
section
variable {c:Cx} {r:RS}
theorem bX8 {s:Dy}(H:RelD c s r)(hL:0<=s.L/\s.L<=65535):xr c.mode c.X c.T c.R c.l c.Q c.k c.len c.words c.R c.l c.Q c.k (c.X.length:Int) c.T c.fixed c.tp c.sl c.ns r.L r.p r.q r.st r.sl r.sx r.kp r.ax r.th r.ls r.n0 r.n1 r.n2 r.n3 r.pk=C (encR c {r with L:=(og c s).2.L} (og c s).1):=by
 have eL:=H.L;have eq':=H.q;have e0:({r with L:=s.L}:RS)=r:=by rw[<-eL]
 unfold xr og;by_cases h1:c.mode≠2
 .rw[zD h1,yB,xB h1];simp only;rw[e0];rfl
 rw[zB h1,yD,xD h1];by_cases h2:0<=s.q
 .rw[zD (show 0<=r.q by omega),yB,xB h2];simp only;rw[e0];rfl
 rw[zB (show¬0<=r.q by omega),yD,xD h2];by_cases h3:s.L=65535
 .rw[zD (show r.L=65535 by omega),yB,xB h3];simp only;rw[e0];rfl
 rw[zB (show¬r.L=65535 by omega),yD,xD h3,eL,bg (by omega)];rfl
theorem RelD.more {s:Dy}(H:RelD c s r):RelD c (og c s).2 {r with L:=(og c s).2.L}:=by
 rw[aT4];exact⟨rfl,H.p,H.q,H.n0,H.n1,H.n2,H.n3,H.ls,H.pk,H.has⟩
end
end
section
open Int renaming toNat_natCast -> bB, reduceEq -> bD
open List renaming length_append -> aB, length_singleton -> aD, getD_eq_getElem?_getD -> cB, length_take -> cD, take_of_length_le -> dB, getElem?_eq_getElem -> fB
open Nat renaming le_of_eq -> dD, le_refl -> eD
theorem dg6 {l:Zd}{j i:Nat}{v:Int}(h:j≠i):rg (l.set j v) (i:Int)=rg l (i:Int):=by
 unfold rg;rw[bB,cB,cB,List.getElem?_set_ne h]
theorem cJ4 {l:Zd}{j:Nat}{v:Int}(h:j<l.length):rg (l.set j v) (j:Int)=v:=by
 unfold rg;rw[bB,cB,List.getElem?_set_self h];rfl
theorem ch0 (t:Zd): ∀(l:List df) (r a a':Zd) (n:Nat),(bwd (vg t) l (r,a,n)).1=(bwd (vg t) l (r,a',n)).1/\(bwd (vg t) l (r,a,n)).2.2=(bwd (vg t) l (r,a',n)).2.2
 |[],_,_,_,_=>⟨rfl,rfl⟩
 |o::l,r,a,a',n=>by
  obtain⟨h1,h2⟩:=ch0 t l r a a' n;refine⟨?_, ?_⟩
  .show(bwd (vg t) l (r,a,n)).1.set o.2.1.toNat (rg t (((bwd (vg t) l (r,a,n)).2.2-1:Nat):Int))=_;rw[h1,h2];rfl
  .show(bwd (vg t) l (r,a,n)).2.2-1=_;rw[h2];rfl
theorem dk4 (t:Zd)(l:List df)(r a a':Zd)(n:Nat):(bwd (vg t) l (r,a,n)).1=(bwd (vg t) l (r,a',n)).1:=(ch0 t l r a a' n).1
theorem dW4 {a:Zd}: ∀(n:Nat) (l:List df),l.length=n->∀(r t0 t:Zd),(∀o∈l,inR r.length o)->l.length<=t0.length->(∀i,i<l.length->rg t (i:Int)=rg (fwd yp l (r,t0,0)).2.1 (i:Int))->(bwd (vg t) l ((fwd yp l (r,t0,0)).1,a,l.length)).1=r
 |0,l,hl,r,t0,t,_,_,_=>by
  have:=List.length_eq_zero_iff.1 hl;subst this;rfl
 |n+1,l,hl,r,t0,t,hg,h0,ht=>by
  obtain⟨l0,o,rfl⟩: ∃l0 o,l=l0++[o]:=⟨l.take n,l[n]'(by omega),by
   rw[<-List.take_succ_eq_append_getElem (by omega),dB (by omega)]⟩
  rw[aB,aD]at hl h0;have hln:l0.length=n:=by omega
  obtain⟨e1,e2,e3⟩:=bU3 l0 (r,t0,0);rw[cu7];have hf:fwd yp (l0++[o]) (r,t0,0)=yp o (fwd yp l0 (r,t0,0)):=by rw[bM7];rfl
  rw[hf]at ht⊢;have ih:=dW4 (a:=a) n l0 hln r t0 t (λx hx=>hg x (by simp[hx])) (by omega);have ha': ∀a',(bwd (vg t) l0 ((fwd yp l0 (r,t0,0)).1,a',l0.length)).1=(bwd (vg t) l0 ((fwd yp l0 (r,t0,0)).1,a,l0.length)).1:=λa'=>dk4 t l0 _ _ _ _
  have hgo:=hg o (by simp);generalize fwd yp l0 (r,t0,0)=s at*;have e1:s.1.length=r.length:=e1;have e2:s.2.1.length=t0.length:=e2;have e3:s.2.2=l0.length:=by rw[e3];simp
  obtain⟨kd,ka,kb,q1,q2,q3,g1,g2,g3⟩:=aG2 hgo;have hv:=ht l0.length (by rw[aB,aD];omega)
  have ht': ∀i,i<l0.length->rg t (i:Int)=rg s.2.1 (i:Int):=λi hi=>by
   rw[ht i (by rw[aB,aD];omega)];show rg (s.2.1.set s.2.2 (rg s.1 o.2.1)) (i:Int)=_;exact dg6 (by omega)
  have hv':rg t ((l0.length:Nat):Int)=rg s.1 (kd:Int):=by
   rw[hv];show rg (s.2.1.set s.2.2 (rg s.1 o.2.1)) ((l0.length:Nat):Int)=_;rw[e3,q1];exact cJ4 (by omega)
  have hone:(bwd (vg t) [o] ((yp o s).1,a,(l0++[o]).length)).1=s.1/\(bwd (vg t) [o] ((yp o s).1,a,(l0++[o]).length)).2.2=l0.length:=by
   rw[aB,aD];refine⟨?_,by show l0.length+1-1=_;omega⟩;show((s.1.set o.2.1.toNat _).set o.2.1.toNat (rg t ((l0.length+1-1:Nat):Int)))=s.1;rw[q1,bB,List.set_set,Nat.add_sub_cancel,hv',cT5 (by omega)]
  generalize hb:bwd (vg t) [o] ((yp o s).1,a,(l0++[o]).length)=b at*;obtain⟨b1,b2,b3⟩:=b;obtain⟨h1,h2⟩:=hone;simp only at h1 h2;subst h1 h2;rw[ha' b2];exact ih ht'
section
variable {c:Cx} {r:RS}
theorem dC5 (W:Zd)(o n m:Nat):seg W o (n+m)=seg W o n++seg W (o+n) m:=by
 unfold seg;rw[List.take_add,List.drop_drop]
theorem de1 (h:c.Ok)(wT:cz c.T)(hm:c.mode=3){s:Dy}(hi:InvB c s)(S:Bas c s r){i:Nat}(hik:i<r.kp.length)(hin:i<c.ns.toNat):at4 c s.W i=(wj c (i:Int) r.kp[i]).2.1/\aM8 c s.W i=(wj c (i:Int) r.kp[i]).1:=by
 obtain⟨k1,k2,k3⟩:=S.kept i hik;obtain⟨f1,f2,f3,f4,f5⟩:=aC9 h wT (t:=(i:Int)) k1 k2;obtain⟨s1,s2,s3,s4⟩:=aC8 h hm hin;have htk:=hi.w.tk h;rw[s1,dC5]at k3;have hl:(seg s.W (uw c i) c.fl.n).length=c.fl.n:=gy (by omega);exact List.append_inj k3 (hl.trans f4.symm)
theorem dj7 (h:c.Ok)(wT:cz c.T)(hm:c.mode=3){s:Dy}(hi:InvB c s)(H:Has c s.W r.st r.ax r.th)(S:Bas c s r){i:Nat}(hik:i<r.kp.length)(hin:i<c.ns.toNat):
  (bm6 c s.W i).2.1=at3 c (i:Int) r.kp[i] r.ax/\(bm6 c s.W i).1.take c.X.length=r.kp[i]:=by
 obtain⟨⟨l1,l2⟩,hR,hQ,x1,x2,t2⟩:=h.lens;obtain⟨k1,k2,k3⟩:=S.kept i hik;obtain⟨e1,e2⟩:=de1 h wT hm hi S hik hin;have hb:=aA7 (c:=c) (i:Int) k1;have hu:=h.pl.ulen;have hg:=h.pl.goodU;unfold bm6;rw[e1,e2,H.x];refine⟨rfl, ?_⟩;have hfl:(fill c.R (aS3 c (i:Int) r.kp[i])).length=c.R.toNat:=jb (by omega);have:=dW4 (a:=fill c.R r.ax) c.fl.n c.fl.unroll hu.1 (fill c.R (aS3 c (i:Int) r.kp[i])) (du c.fl.n) (wj c (i:Int) r.kp[i]).2.1 (λo ho=>by rw[hfl];exact(hg o ho).1) (by rw[er];omega) (λj hj=>rfl);rw[hu.1]at this;show((bwd (vg (wj c (i:Int) r.kp[i]).2.1) c.fl.unroll ((wj c (i:Int) r.kp[i]).1,fill c.R r.ax,c.fl.n)).1).take c.X.length=_;have e3:(wj c (i:Int) r.kp[i]).1=(fwd yp c.fl.unroll (fill c.R (aS3 c (i:Int) r.kp[i]),du c.fl.n,0)).1:=rfl;rw[e3,this];unfold fill aS3;rw[List.append_assoc,List.take_left' k1]
theorem Bas.kept8 {s s':Dy}{r r':RS}(S:Bas c s r)(hm:c.mode=3)(hK:gu c s.W s'.W)(e1:r'.sl=r.sl)(hl:r'.kp.length<=r.kp.length)(e2:r'.kp=r.kp.take r'.kp.length)(hh:(r'.kp.length:Int)=je s'):Bas c s' r':=by
 refine⟨e1.trans S.sl,hh,λi hi=> ?_⟩;have hi':i<r.kp.length:=by omega
 have e3:r'.kp[i]=r.kp[i]:=by
  have:r'.kp[i]?=r.kp[i]?:=by rw[e2,List.getElem?_take,xB hi]
  rw[fB hi,fB hi']at this;injection this
 rw[e3];obtain⟨k1,k2,k3⟩:=S.kept i hi';refine⟨k1,k2, ?_⟩;rw[hK.seg (by unfold uw;omega)];exact k3
theorem cJ0 (h:c.Ok)(wT:cz c.T)(hm:c.mode=3){s:Dy}(hi:InvB c s)(H:RelD c s r)(S:Bas c s r)(hsx:r.sx=0){B:Int}(hc:Cnt B s)(hB:B<=2305843009213693952)(a n:Int):
  ∃r',al7 c.mode c.X c.T c.R c.l c.Q c.k c.len c.words c.R c.l c.Q c.k (c.X.length:Int) c.T c.fixed c.tp c.sl c.ns r.L r.p r.q r.st r.sl r.sx r.kp r.ax r.th r.ls r.n0 r.n1 r.n2 r.n3 r.pk a n=C (encR c r' (plF c a n s).1)/\RelD c (plF c a n s).2 r'/\Bas c (plF c a n s).2 r'/\r'.sx=0:=by
 have nm:=h.num;have hW:=hi.w;have hL:=hi.L;have hp:=hi.p;have hq:=hi.q;have hqp:=hi.qp;have hpk:=hi.pk;have hns:=h.ns;have hcr:=H.cnt hc;have hcr':br9 4611686018427387904 r:=by unfold br9 at*;omega
 obtain⟨g1,g2,g3,g4,g5,g6,g7⟩:=bV3 h hm hi;obtain⟨k1,k2,k3,k4,k5,k6⟩:=H.has.lens h wT;have hinv:=cZ0 h hm hi a n;have Hs:=H.has;obtain⟨⟨z1,z2⟩,hR,hQ,z3,z4,z5⟩:=h.lens;have eL:=H.L;have ep:=H.p;have eq':=H.q;have epk:=H.pk;have hlen:=nm.len;have hkl:=S.len;have htp:=nm.tp;rw[xB hm]at htp;have hlive:=bD0 h hm hi S;have same: ∃r',C (c.mode,c.X,c.T,c.R,c.l,c.Q,c.k,c.len,c.words,c.R,c.l,c.Q,c.k,(c.X.length:Int),c.T,c.fixed,c.tp,c.sl,c.ns,r.L,r.p,r.q,r.st,r.sl,r.sx,r.kp,r.ax,r.th,r.ls,r.n0,r.n1,r.n2,r.n3,r.pk,(plF c a n s).1)=C (encR c r' (plF c a n s).1)/\RelD c s r'/\Bas c s r'/\r'.sx=0:=⟨r,rfl,H,S,hsx⟩
 unfold al7;rw[bI5];simp only[wA];rw[eL,ep,eq']at same hlive⊢;generalize hdo:plF c a n s=d at hinv same⊢;unfold plF at hdo;by_cases hk: ¬(a=8∨a=5∨a=9)
 .rw[xD (by omega),xD (by omega),xD (by omega)]at hdo;subst hdo;cases hr:my a n with
  |false=>
   simp only[Bool.not_false,yB,wA,dg];exact same
  |true=>
   simp only[Bool.not_true,yD];rw[zD (show a≠5 by omega),yB,zD (show a≠8 by omega),yB,zD (show a≠9 by omega),yB];simp only[wA,dg];exact same
 have hk:a=8∨a=5∨a=9:=by omega
 have hr:my a n=Zc (n=0):=by
  unfold my;rw[xD (by omega),xD (by omega),xD (by omega),xD (by omega)]
 by_cases hn:n≠0
 .have hdo:(2,s)=d:=by
   rw[<-hdo];rcases hk with rfl|rfl|rfl
   .rw[xB rfl,xB hn]
   .rw[xD (by omega),xB rfl,xB hn]
   .rw[xD (by omega),xD (by omega),xB rfl,xB hn]
  subst hdo;rw[hr,zB hn];simp only[Bool.not_false,yB,wA,dg];exact same
 have hn0:n=0:=by omega
 rw[hr,zD hn0];simp only[Bool.not_true,yD];rcases hk with rfl|rfl|rfl
 .
  rw[xB rfl,xD hn]at hdo;simp only[ne_eq,bD,not_false_eq_true,decide_true,yB,not_true_eq_false,decide_false,yD,wA,cq];by_cases h1:0<=s.q
  .rw[xB h1]at hdo;subst hdo;rw[zD h1,yB];exact same
  rw[xD h1]at hdo;rw[zB h1,yD];by_cases h2:s.p=s.L
  .rw[xB h2]at hdo;subst hdo;rw[zD h2,yB];exact same
  rw[xD h2]at hdo;subst hdo;have hheld:je s=s.p:=by unfold je;rw[xB (by omega)]
  have hkp:(r.kp.length:Int)=s.p:=by rw[hkl,hheld]
  have htake:r.kp.take s.p.toNat=r.kp:=dB (by omega);rw[zB h2,yD];simp only[decide_true];rw[fg,i7 (by omega),fg,htake,ej (by omega) (by omega),bq5 h wT (by omega) k1 k4];simp only[wA];rw[bg (n:=s.p+1) (by omega),bg (n:=r.n1+1) (by unfold br9 at hcr';omega)];obtain⟨v1,v2⟩:=aq1 h wT (t:=s.p) k1 k4;obtain⟨f1,f2,f3,f4,f5⟩:=aC9 h wT (t:=s.p) k1 k4;obtain⟨s1,s2,s3,s4⟩:=aC8 h hm (i:=s.p.toNat) (by omega);have htk:=hW.tk h;have hT:=Hs.taped h wT s.p;rw[Hs.stepR h]at hT;have hlen2:((wj c s.p r.st).2.1++(wj c s.p r.st).1).length=c.sl.toNat:=by rw[aB,f3,f4,s1]
  have hT2:=hT.put8 h (o:=uw c s.p.toNat) (w:=(wj c s.p r.st).2.1++(wj c s.p r.st).1) s4 (by rw[hlen2];exact s3) (f2.app f1);have hT3:=hT2.put1 h v1 v2
  have hWe:(put (put (put s.W (c.off 2) (stepR c s.W s.p).1) (uw c s.p.toNat) ((stepR c s.W s.p).2.1++(stepR c s.W s.p).1)) (c.off 1) ((stepR c s.W s.p).1.take c.X.length))=put (put (put s.W (c.off 2) (wj c s.p r.st).1) (uw c s.p.toNat) ((wj c s.p r.st).2.1++(wj c s.p r.st).1)) (c.off 1) (aq0 c s.p r.st):=by
   rw[Hs.stepR h,f5]
  rw[hWe]at hinv⊢;have hK2:gu c s.W (put s.W (c.off 2) (wj c s.p r.st).1):=gu.put h (gu.refl s.W) hW (i:=2) (by omega) (dD f3)
  have hlW:uw c s.p.toNat+((wj c s.p r.st).2.1++(wj c s.p r.st).1).length<=(put s.W (c.off 2) (wj c s.p r.st).1).length:=by
   have:=hT.wd.tk h;rw[hlen2];omega
  have S': ∀r':RS,r'.sl=r.sl->r'.kp=r.kp++[r.st]->∀s':Dy,s'.q=s.q->s'.p=s.p+1->s'.W=put (put (put s.W (c.off 2) (wj c s.p r.st).1) (uw c s.p.toNat) ((wj c s.p r.st).2.1++(wj c s.p r.st).1)) (c.off 1) (aq0 c s.p r.st)->Bas c s' r':=λr' e1 e2 s' e3 e4 e5=>by
   have hK3:gu c (put (put s.W (c.off 2) (wj c s.p r.st).1) (uw c s.p.toNat) ((wj c s.p r.st).2.1++(wj c s.p r.st).1)) s'.W:=by
    rw[e5];exact gu.put h (gu.refl _) hT2.wd (i:=1) (by omega) (dD v1)
   refine⟨e1.trans S.sl,by rw[e2,aB,aD];unfold je;rw[e3,e4,xB (by omega)];omega,λi hi=> ?_⟩;rw[e2,aB,aD]at hi;have e6:r'.kp[i]'(by rw[e2,aB,aD];exact hi)=(r.kp++[r.st])[i]'(by rw[aB,aD];exact hi):=by simp only[e2]
   rw[e6,hK3.seg (by unfold uw;omega)];by_cases hlt:i<r.kp.length
   .rw[List.getElem_append_left hlt];obtain⟨k1',k2',k3'⟩:=S.kept i hlt;refine⟨k1',k2', ?_⟩
    have hd:uw c i+c.sl.toNat<=uw c s.p.toNat:=by
     unfold uw;have:=Nat.mul_le_mul_right c.sl.toNat (show i+1<=s.p.toNat by omega);rw[Nat.succ_mul]at this;omega
    rw[aC6 hlW (.inl hd),hK2.seg (by unfold uw;omega)];exact k3'
   .have hie:i=r.kp.length:=by omega
    subst hie;rw[List.getElem_append_right (eD _)];simp only[Nat.sub_self,List.getElem_singleton];refine⟨k1,k4, ?_⟩;have ek:r.kp.length=s.p.toNat:=by omega
    rw[hkp,ek,<-hlen2];exact ah9 hlW
  have hl2:=bD0 (r:={r with L:=s.L,p:=s.p+1,q:=s.q,st:=aq0 c s.p r.st,kp:=r.kp++[r.st],n1:=r.n1+1}) h hm hinv (by refine S' _ ?_ ?_ _ ?_ ?_ ?_<;>rfl);rw[show jk c.mode c.X c.T c.R c.l c.Q c.k c.len c.words c.R c.l c.Q c.k (c.X.length:Int) c.T c.fixed c.tp c.sl c.ns s.L (s.p+1) s.q (aq0 c s.p r.st) r.sl r.sx (r.kp++[r.st]) r.ax r.th r.ls r.n0 (r.n1+1) r.n2 r.n3 r.pk=_ from hl2];simp only[wA];exact⟨{r with L:=s.L,p:=s.p+1,q:=s.q,st:=aq0 c s.p r.st,kp:=r.kp++[r.st],n1:=r.n1+1,pk:=max r.pk (s.lv+c.sl)},rfl,⟨rfl,rfl,rfl,H.n0,by show r.n1+1=s.c1+1;rw[H.n1],H.n2,H.n3,H.ls,by show max r.pk _=max s.pk _;rw[epk],hT3⟩,(by refine S' _ ?_ ?_ _ ?_ ?_ ?_<;>rfl),hsx⟩
 .
  rw[xD (by omega),xB rfl,xD hn]at hdo;simp only[ne_eq,bD,not_false_eq_true,decide_true,yB,not_true_eq_false,decide_false,yD,wA,cq];by_cases h1:0<=s.q
  .rw[xB h1]at hdo;subst hdo;rw[zD h1,yB];exact same
  rw[xD h1]at hdo;rw[zB h1,yD];by_cases h2:s.p≠s.L
  .rw[xB h2]at hdo;subst hdo;have h2': ¬s.p=s.L:=h2;simp only[h2',not_false_eq_true,decide_true,yB];exact same
  rw[xD h2]at hdo;subst hdo;have h2':s.p=s.L:=by omega
  have hheld:je s=s.p:=by unfold je;rw[xB (by omega)]
  simp only[h2',not_true_eq_false,decide_false,yD];rw[h2']at hlive;rw[h.rof];simp only[wA];rw[hlive];simp only[wA];have hfk:=h.pk.n;rw[bg (n:=s.lv+(c.fk.n:Int)) (by omega)];have hE:=Hs.endd h wT k1 k4;have eW:seg s.W (c.off 1) c.X.length=r.st:=Hs.s;rw[eW]at hinv⊢;have he:sj c.mode c.X c.T c.R c.l c.Q c.k c.len c.words c.R c.l c.Q c.k (c.X.length:Int) c.T c.fixed c.tp c.sl c.ns s.L s.L s.L r.st r.sl r.sx r.kp r.ax r.th r.ls r.n0 r.n1 r.n2 r.n3 (max r.pk (s.lv+(c.fk.n:Int))) r.st=_:=bE2 (r:={r with L:=s.L,p:=s.L,q:=s.L,pk:=max r.pk (s.lv+(c.fk.n:Int))}) h wT k1 k4 k3 k6 hcr' (by omega);rw[he];simp only[wA]
  exact⟨{ar6 c r.st r with L:=s.L,p:=s.L,q:=s.L,pk:=max r.pk (s.lv+(c.fk.n:Int))},rfl,⟨rfl,by first|rfl|exact h2'.symm,rfl,H.n0,H.n1,by show r.n2+1=s.c2+1;rw[H.n2],by show r.n3+1=s.c3+1;rw[H.n3],(Hs.lossV h wT r.st).symm,by show max r.pk _=max s.pk _;rw[epk],hE⟩,S.kept8 hm (bM9 h hW k1) rfl (eD _) (dB (eD _)).symm (by
   show(r.kp.length:Int)=_;rw[hkl,hheld];unfold je;simp only
   rw[xD (by omega),h2']),hsx⟩
 .
  rw[xD (by omega),xD (by omega),xB rfl,xD hn]at hdo;simp only[ne_eq,bD,not_false_eq_true,decide_true,yB,not_true_eq_false,decide_false,yD,wA,cq];by_cases h1:s.q<1
  .rw[xB h1]at hdo;subst hdo;rw[zD h1,yB];exact same
  rw[xD h1]at hdo;subst hdo;have hheld:je s=s.q:=by unfold je;rw[xD (by omega)]
  have hkp:(r.kp.length:Int)=s.q:=by rw[hkl,hheld]
  obtain⟨i,hi1⟩: ∃i:Nat,s.q-1=(i:Int):=⟨(s.q-1).toNat,by omega⟩
  have hik:i<r.kp.length:=by omega
  obtain⟨k1',k2',k3'⟩:=S.kept i hik;obtain⟨b1,b2⟩:=dj7 h wT hm hi Hs S hik (by omega);obtain⟨p1,p2⟩:=aG7 h wT (t:=(i:Int)) k1' k2' k2 k5;rw[zB h1,yD,bg (n:=s.q-1) (by omega),hi1,dh hik];simp only[wA];rw[i7 (by omega),fg];have hcut:bo6 r.kp 0 (i:Int)=r.kp.take i:=by unfold bo6;simp
  rw[hcut];have ht:pf c.mode c.X c.T c.R c.l c.Q c.k c.len c.words c.R c.l c.Q c.k (c.X.length:Int) c.T c.fixed c.tp c.sl c.ns s.L (i:Int) (i:Int) r.kp[i] r.sl r.sx (r.kp.take i) r.ax r.th r.ls r.n0 r.n1 r.n2 r.n3 r.pk (i:Int) r.kp[i]=_:=bq8 (r:={r with L:=s.L,p:=(i:Int),q:=(i:Int),st:=r.kp[i],kp:=r.kp.take i}) h wT (by omega) k1' k2' k2 k5 k3 k6 hcr' (by omega);rw[ht];simp only[wA];have hb:=Hs.back h (a:=at3 c (i:Int) r.kp[i] r.ax) (by omega) (by omega) p2;have hb1:=hb.put1 h k1' k2';rw[hi1,bB,b1,b2]at hinv;rw[bB,b1,b2]
  exact⟨{cl5 c (i:Int) r.kp[i] r with L:=s.L,p:=(i:Int),q:=(i:Int),st:=r.kp[i],kp:=r.kp.take i},rfl,⟨rfl,rfl,rfl,H.n0,H.n1,H.n2,by show r.n3+1=s.c3+1;rw[H.n3],H.ls,epk,hb1⟩,S.kept8 hm ((bU9 h hW (by omega) (by omega)).trans (gu.put h (gu.refl _) hb.wd (i:=1) (by omega) (dD k1'))) rfl (by rw[cD];omega) (by simp only[cD];rw[Nat.min_eq_left (by omega)]) (by
   show((r.kp.take i).length:Int)=_;rw[cD,Nat.min_eq_left (by omega)];unfold je;simp only
   rw[xD (by omega)]),hsx⟩
end
end
section
open Int renaming toNat_natCast -> bB
open List renaming replicate -> aB, drop_replicate -> bD, length_replicate -> cB, replicate_append_replicate -> cD, take_replicate -> dB
open Nat renaming le_refl -> aD
section
variable {c:Cx}
theorem bE5 {N o n:Nat}(h:o+n<=N):seg (du N) o n=du n:=by
 unfold seg du;rw[bD,dB,Nat.min_eq_left (by omega)]
theorem dg2 {N o n:Nat}(h:o+n<=N):put (du N) o (du n)=du N:=by
 unfold put du;rw[dB,bD,cB,cD,cD,Nat.min_eq_left (by omega)]
 congr 1
 omega
theorem cX0 (h:c.Ok)(wT:cz c.T)(wX:cz c.X):Has c (cx0 c (du c.words.toNat)) c.X (du c.X.length) (du c.T.length):=by
 have hz:Wd c (du c.words.toNat):=er _;have htk:=hz.tk h;rw[er]at htk;have o5:=ko (c:=c) (show 5<9 by omega);have o6:=ko (c:=c) (show 6<9 by omega);have o0:=ko (c:=c) (show 0<9 by omega);have s0:c.T.length<=c.sz 0:=aD _;have w0':=hz.put h (o:=c.off 0) (w:=c.T) (by have:c.sz 0=c.T.length:=rfl;omega);unfold cx0
 have H0:Has c (put (du c.words.toNat) (c.off 0) c.T) (seg (put (du c.words.toNat) (c.off 0) c.T) (c.off 1) c.X.length) (du c.X.length) (du c.T.length):=by
  refine⟨w0',(cz.rep _).put wT _, ?_,rfl, ?_, ?_⟩
  .exact ah9 (cl0 h hz (by omega) s0)
  .rw[aC5 h hz (n:=c.X.length) (i:=0) (j:=5) (by omega) (by omega) (by omega) (aD _) s0];exact bE5 (by have:c.sz 5=c.X.length:=rfl;omega)
  .rw[aC5 h hz (n:=c.T.length) (i:=0) (j:=6) (by omega) (by omega) (by omega) (aD _) s0];exact bE5 (by have:c.sz 6=c.T.length:=rfl;omega)
 exact H0.put1 h rfl wX
def do6 (c:Cx):RS:=⟨c.len,0,-1,c.X,[],0,[],du c.X.length,du c.T.length,0,0,0,0,0,c.fixed⟩
def bW0 (c:Cx):RS:=⟨c.len,0,-1,c.X,aB c.ns.toNat (-1,[]),(c.X.length:Int),[],du c.X.length,du c.T.length,0,0,0,0,0,c.fixed⟩
theorem do7 (h:c.Ok)(wT:cz c.T)(wX:cz c.X)(hm:c.mode=3):RelD c (new1 c) (do6 c)/\Bas c (new1 c) (do6 c):=
 ⟨⟨rfl,rfl,rfl,rfl,rfl,rfl,rfl,rfl,rfl,cX0 h wT wX⟩,⟨rfl,rfl,λi hi=>by cases hi⟩⟩
theorem do8 (h:c.Ok)(wT:cz c.T)(wX:cz c.X)(hm:c.mode≠3):RelD c (new2 c) (bW0 c)/\Slo c (new2 c).W (bW0 c):=by
 have hz:Wd c (du c.words.toNat):=er _;have htk:=hz.tk h;rw[er]at htk;have e:put (du c.words.toNat) (c.off 8) (du (c.sl*c.ns).toNat)=du c.words.toNat:=dg2 (by have:=bx2 (c:=c);omega)
 have eW:(new2 c).W=cx0 c (du c.words.toNat):=by
  show cx0 c (put (du c.words.toNat) (c.off 8) (du (c.sl*c.ns).toNat))=_;rw[e]
 refine⟨⟨rfl,rfl,rfl,rfl,rfl,rfl,rfl,rfl,rfl,by rw[eW];exact cX0 h wT wX⟩,⟨rfl,rfl,by simp[bW0],λk hk=> ?_⟩⟩;have hk':k<c.ns.toNat:=by simpa[bW0]using hk
 have e2:(bW0 c).sl[k]=(-1,[]):=by simp[bW0]
 rw[e2];refine⟨bV9 h hm hk', .inr ⟨rfl, ?_⟩⟩;obtain⟨s1,s2,s3⟩:=ai0 h hm hk';rw[eW,(bi1 h hz).2.2.seg (by unfold sp;omega)];exact bE5 (by omega)
theorem dg3 {n:Int}{x:Int}(hn:0<=n/\n<=1048576):aF2 n x=C (x,aB n.toNat (-1,[])):=by
 unfold aF2
 have key:=gl (f:=af7 n) (n:=n.toNat) (λi=>(x,aB i ((-1:Int),([]:Zd)))) (c:=(x,aB n.toNat (-1,[]))) (by omega)
  (λi hi=>by
   unfold af7;simp only;rw[zD (by omega),yB,ej (by rw[cB];omega) (by omega),bg (by omega),List.replicate_succ']
   rfl)
  (by
   unfold af7;simp only
   rw[zB (by omega),yD])
 rw[List.replicate_zero]at key;rw[key];rfl
theorem bq6 (h:c.Ok)(hm:c.mode=3)(e:jp c.mode c.X.length c.T.length c.R c.l c.Q c.k c.len c.words=(c.fixed,c.tp,c.sl,c.ns,0)):
  jt c.mode c.X c.T c.R c.l c.Q c.k c.len c.words=C (c.mode,c.X,c.T,c.R,c.l,c.Q,c.k,c.len,c.words,c.R,c.l,c.Q,c.k,(c.X.length:Int),c.T,c.fixed,c.tp,c.sl,c.ns,c.len,-1,c.X,0,c.fixed,0,[],du c.X.length,du c.T.length):=by
 have x5:=h.lens;unfold jt;rw[aC4 h.hl h.hk,e];simp only[wA];rw[zB (by simp),yD,gdz ⟨by omega,by omega⟩,gdz ⟨by omega,by omega⟩,zB (by simp[hm]),yD];simp only[bB];rfl
theorem bq7 (h:c.Ok)(hm:c.mode≠3)(e:jp c.mode c.X.length c.T.length c.R c.l c.Q c.k c.len c.words=(c.fixed,c.tp,c.sl,c.ns,0)):
  jt c.mode c.X c.T c.R c.l c.Q c.k c.len c.words=C (c.mode,c.X,c.T,c.R,c.l,c.Q,c.k,c.len,c.words,c.R,c.l,c.Q,c.k,(c.X.length:Int),c.T,c.fixed,c.tp,c.sl,c.ns,c.len,-1,c.X,(c.X.length:Int),c.fixed,0,aB c.ns.toNat (-1,[]),du c.X.length,du c.T.length):=by
 have x5:=h.lens;unfold jt;rw[aC4 h.hl h.hk,e];simp only[wA];rw[zB (by simp),yD,gdz ⟨by omega,by omega⟩,gdz ⟨by omega,by omega⟩,zD hm,yB,dg3 h.ns];simp only[bB,wA];rfl
theorem bE1 {a0:Int}{a1 a2:Zd}{a3:Int}{a4:List df}{a5:Int}{a6:List df}{a7 a8:Int}(hl:OpsOk a4)(hk:OpsOk a6)(h:(jp a0 a1.length a2.length a3 a4 a5 a6 a7 a8).2.2.2.2≠0):
  jt a0 a1 a2 a3 a4 a5 a6 a7 a8=C (0,[],[],0,[],0,[],0,0,0,[],0,[],0,[],0,0,0,0,0,0,[],0,0,(jp a0 a1.length a2.length a3 a4 a5 a6 a7 a8).2.2.2.2,[],[],[]):=by
 unfold jt;rw[aC4 hl hk];simp only[wA];rw[zD h,yB]
structure Both1 (c:Cx)(i:Nat)(s:Dy)(r:RS):Prop where
 w:Well1 c i s
 H:RelD c s r
 S:Bas c s r
 sx:r.sx=0
structure Both2 (c:Cx)(i:Nat)(s:Dy)(r:RS):Prop where
 w:Well2 c i s
 H:RelD c s r
 S:Slo c s.W r
theorem Bas.more {s:Dy}{r:RS}(hm:c.mode=3)(S:Bas c s r):Bas c (og c s).2 {r with L:=(og c s).2.L}:=by
 have e:og c s=(19,s):=by unfold og;rw[xB (by omega)]
 rw[e];exact⟨S.sl,S.len,S.kept⟩
theorem Slo.more {s:Dy}{r:RS}(S:Slo c s.W r):Slo c (og c s).2.W {r with L:=(og c s).2.L}:=by
 rw[aT4];exact⟨S.kp,S.sx,S.len,S.slot⟩
theorem cQ4 (h:c.Ok)(wT:cz c.T)(hm:c.mode=3){i:Nat}(hi:i<=100){s:Dy}{r:RS}(b:Both1 c i s r)(x:Int×Int):
  ∃r',Both1 c (i+1) (ad7 c x s).2 r'/\aN4 c.mode c.X c.T c.R c.l c.Q c.k c.len c.words c.R c.l c.Q c.k (c.X.length:Int) c.T c.fixed c.tp c.sl c.ns r.L r.p r.q r.st r.sl r.sx r.kp r.ax r.th r.ls r.n0 r.n1 r.n2 r.n3 r.pk x.1 x.2 c.fixed c.tp c.sl c.ns c.mode c.R c.Q c.len c.words s.L s.p s.q s.c0 s.c1 s.c2 s.c3 s.z c.X c.T c.l c.k c.P c.tk s.lv s.pk c.words s.W=C (Za,c.mode,c.X,c.T,c.R,c.l,c.Q,c.k,c.len,c.words,c.R,c.l,c.Q,c.k,(c.X.length:Int),c.T,c.fixed,c.tp,c.sl,c.ns,r'.L,r'.p,r'.q,r'.st,r'.sl,r'.sx,r'.kp,r'.ax,r'.th,r'.ls,r'.n0,r'.n1,r'.n2,r'.n3,r'.pk,c.fixed,c.tp,c.sl,c.ns,c.mode,c.R,c.Q,c.len,c.words,(ad7 c x s).2.L,(ad7 c x s).2.p,(ad7 c x s).2.q,(ad7 c x s).2.c0,(ad7 c x s).2.c1,(ad7 c x s).2.c2,(ad7 c x s).2.c3,(ad7 c x s).2.z,(ad7 c x s).2.lv,(ad7 c x s).2.pk,c.words,(ad7 c x s).2.W):=by
 have hw:=b.w.act h hm x;have hL:=b.w.L h;unfold aN4;by_cases hx:x.1=0
 .rw[zD hx,yB,bX8 b.H hL];simp only[wA,encR];rw[dR7 hL];simp only[wA,decide_true];have ea:ad7 c x s=og c s:=by unfold ad7;rw[xB hx]
  rw[ea]at hw⊢;refine⟨{r with L:=(og c s).2.L},⟨hw,b.H.more,b.S.more hm,b.sx⟩, ?_⟩;rw[aT4]
 .have ea:ad7 c x s=plF c x.1 x.2 s:=by unfold ad7;rw[xD hx]
  have hcb:Cnt (65536*(i:Int)) s:=b.w.cnt;rw[zB hx,yD];rw[ea]at hw⊢;obtain⟨r',e1,e2,e3,e4⟩:=cJ0 h wT hm b.w.inv b.H b.S b.sx hcb (by omega) x.1 x.2;have e5:wL c.mode c.X c.T c.R c.l c.Q c.k c.len c.words c.R c.l c.Q c.k (c.X.length:Int) c.T c.fixed c.tp c.sl c.ns r.L r.p r.q r.st r.sl r.sx r.kp r.ax r.th r.ls r.n0 r.n1 r.n2 r.n3 r.pk x.1 x.2=C (encR c r' (plF c x.1 x.2 s).1):=by unfold wL;rw[zD hm,yB,e1];rfl
  rw[e5];simp only[wA,encR];rw[do1 h hm b.w.inv hcb (by omega)];simp only[wA,dl3,decide_true];exact⟨r',⟨hw,e2,e3,e4⟩,rfl⟩
theorem cQ5 (h:c.Ok)(wT:cz c.T)(hm:c.mode≠3){i:Nat}(hi:i<=100){s:Dy}{r:RS}(b:Both2 c i s r)(x:Int×Int):
  ∃r',Both2 c (i+1) (ad8 c x s).2 r'/\at8 c.mode c.X c.T c.R c.l c.Q c.k c.len c.words c.R c.l c.Q c.k (c.X.length:Int) c.T c.fixed c.tp c.sl c.ns r.L r.p r.q r.st r.sl r.sx r.kp r.ax r.th r.ls r.n0 r.n1 r.n2 r.n3 r.pk x.1 x.2 c.fixed c.tp c.sl c.ns c.mode c.R c.Q c.len c.words s.L s.p s.q s.c0 s.c1 s.c2 s.c3 s.z c.X c.T c.l c.k c.P c.tk (c.off 8:Int) c.ns (c.X.length:Int) s.lv s.pk c.words s.W=C (Za,c.mode,c.X,c.T,c.R,c.l,c.Q,c.k,c.len,c.words,c.R,c.l,c.Q,c.k,(c.X.length:Int),c.T,c.fixed,c.tp,c.sl,c.ns,r'.L,r'.p,r'.q,r'.st,r'.sl,r'.sx,r'.kp,r'.ax,r'.th,r'.ls,r'.n0,r'.n1,r'.n2,r'.n3,r'.pk,c.fixed,c.tp,c.sl,c.ns,c.mode,c.R,c.Q,c.len,c.words,(ad8 c x s).2.L,(ad8 c x s).2.p,(ad8 c x s).2.q,(ad8 c x s).2.c0,(ad8 c x s).2.c1,(ad8 c x s).2.c2,(ad8 c x s).2.c3,(ad8 c x s).2.z,(ad8 c x s).2.lv,(ad8 c x s).2.pk,c.words,(ad8 c x s).2.W):=by
 have hw:=b.w.act h hm x;have hL:=b.w.inv.L;unfold at8;by_cases hx:x.1=0
 .rw[zD hx,yB,bX8 b.H hL];simp only[wA,encR];rw[dR8 hL];simp only[wA,decide_true];have ea:ad8 c x s=og c s:=by unfold ad8;rw[xB hx]
  rw[ea]at hw⊢;refine⟨{r with L:=(og c s).2.L},⟨hw,b.H.more,b.S.more⟩, ?_⟩;rw[aT4]
 .have ea:ad8 c x s=doF c x.1 x.2 s:=by unfold ad8;rw[xD hx]
  have hcb:Cnt (65536*(i:Int)) s:=b.w.cnt;rw[zB hx,yD];rw[ea]at hw⊢;obtain⟨r',e1,e2,e3⟩:=dg4 h wT hm b.w.inv b.H b.S hcb (by omega) x.1 x.2;have e5:=e1;rw[e5];simp only[wA,encR];rw[do2 h hm b.w.inv hcb (by omega)];simp only[wA,dl3,decide_true];exact⟨r',⟨hw,e2,e3⟩,rfl⟩
end
end
section
section
variable {c:Cx}
end
section
variable {a0:Int} {a1 a2:Zd} {a3:Int} {a4:List df} {a5:Int} {a6:List df} {a7 a8:Int}
end
end
section
open Go.IntKind renaming wrap -> wB, i64 -> wC, u64 -> wD
open List renaming getElem?_eq_getElem -> aD
open Sum renaming inl -> aB
theorem cv1 {l:Zd}{L:Int}(hl:l.length<1000000)(h: ∃t∈l,t< -1∨L<t):fm l L=C Za:=by
 obtain⟨t,ht,hb⟩:=h;obtain⟨j,hj,rfl⟩:=List.getElem_of_mem ht;unfold fm kj
 have key2: ∃i:Nat,cj (dv l L) gi 0=C (.inl (i:Int)):=by
  rcases ak0 (f:=dv l L) (l:=l) (λt=>Zc (t< -1∨L<t)) (λi=> .inl (i:Int)) (.inr ()) (by omega) (λi hi=>by
   unfold dv nu;rw[zD (by omega),yB,dh hi];simp only[wA,cd];by_cases h1:l[i]< -1
   .rw[xB h1,xB (by simp[h1])];rfl
   .rw[xD h1];simp only[wA,cd];by_cases h2:L<l[i]
    .rw[xB h2,xB (by simp[h2])]
    .rw[xD h2,xD (by simp[h1,h2]),bg (by omega)];rfl) (by
   unfold dv
   rw[zB (by omega),yD])with⟨_,i,hi⟩|⟨h1,_⟩
  .exact⟨i,hi⟩
  .have:=List.any_eq_false.1 h1 _ (List.getElem_mem hj);exact(this (by simp[hb])).elim
 obtain⟨i,hi⟩:=key2;rw[hi];simp only[wA,dg];rw[zD (by omega)]
theorem bV6 {L p q:Int}{l:Zd}(hL:0<=L/\L<=65535)(hp:0<=p/\p<=L)(hq: -1<=q/\q<=L)(hl:l.length<1000000)(h: ∃t∈l,t< -1∨L<t):pe L p q l=C (.inl ()):=by
 unfold pe ae9 nu;rw[zD (show 0<=L by omega),zD (show L<65536 by omega)];simp only[yB,wA,Bool.not_true,yD];rw[zB (show¬(1048576<(l.length:Int))by omega),zB (show¬p= -1 by omega),zB (show¬p< -1 by omega),zB (show¬L<p by omega),zB (show¬q< -1 by omega),zB (show¬L<q by omega)];simp only[yD,wA];rw[cv1 hl h];rfl
section
variable {c:Cx} {W:Zd}
theorem dI6 (wW:cz W)(k:Nat):0<=gm c W k:=(aw8 wW _).1
theorem cQ0 (h:c.Ok)(hm:c.mode≠3)(hW:Wd c W)(wW:cz W){z1:Int}(h1:0<=z1/\z1<=65535):
  ((∀k,k<c.ns.toNat->gm c W k<=z1+1)/\cj (kg c.mode W z1 (c.fixed,c.tp,c.sl,c.ns,0) (0,c.P)) gi (0,0)=C (.inr ((jf c W:Nat):Int)))∨((∃k,k<c.ns.toNat/\z1+1<gm c W k)/\cj (kg c.mode W z1 (c.fixed,c.tp,c.sl,c.ns,0) (0,c.P)) gi (0,0)=C (.inl Zb)):=by
 have hns:=h.ns;have nm:=h.num;have hsl:=nm.sl;rw[xD hm]at hsl;have htk:=hW.tk h;have x5:=h.lens
 have key:=cQ7 (f:=kg c.mode W z1 (c.fixed,c.tp,c.sl,c.ns,0) (0,c.P)) (λi=>(((List.range i).countP λ(k:Nat)=>Zc (0<gm c W k):Nat):Int)) c.ns.toNat (by omega) (λi=>z1+1<gm c W i) (λ_=> .inl Zb)
  (λi hi hn _=>by
   obtain⟨s1,s2,s3⟩:=ai0 h hm hi;have hc:(List.range i).countP (λ(k:Nat)=>Zc (0<gm c W k))<=i:=Nat.le_trans List.countP_le_length (by simp);unfold kg;simp only;rw[zD (by omega),yB,zD hm,yB,show ix 8 c.P.length=C 8 from cw (k:=8) (by rw[Cx.P_len];omega)];simp only[wA];rw[Cx.P_get (show 8<10 by omega)];simp only[wA];have e1:(i:Int)*c.sl=((i*(c.X.length+1):Nat):Int):=by rw[hsl,Int.natCast_mul];rfl
   unfold sp at s1;have hlt:sp c i<W.length:=by unfold sp;omega
   rw[e1,bg (n:=((i*(c.X.length+1):Nat):Int)) (by omega),bg (n:=(c.off 8:Int)+_) (by omega),show(c.off 8:Int)+((i*(c.X.length+1):Nat):Int)=((sp c i:Nat):Int)by unfold sp;omega]
   have e2:rd W ((sp c i:Nat):Int)=C (gm c W i):=by
    rw[dh hlt];have:=gg hlt;rw[aD hlt]at this;exact this
   rw[e2];simp only[wA];rw[zr (show vw (z1+1)by unfold vw;omega),zB hn,yD,List.range_succ,List.countP_append,List.countP_singleton,bg (n:=(i:Int)+1) (by omega),bg (by omega)];by_cases ht:0<gm c W i
   .rw[zD ht,yB,xB rfl];rfl
   .rw[zB ht,yD,xD (by simp)];rfl)
  (λi hi hst _=>by
   obtain⟨s1,s2,s3⟩:=ai0 h hm hi;unfold kg;simp only;rw[zD (by omega),yB,zD hm,yB,show ix 8 c.P.length=C 8 from cw (k:=8) (by rw[Cx.P_len];omega)];simp only[wA];rw[Cx.P_get (show 8<10 by omega)];simp only[wA];have e1:(i:Int)*c.sl=((i*(c.X.length+1):Nat):Int):=by rw[hsl,Int.natCast_mul];rfl
   unfold sp at s1;have hlt:sp c i<W.length:=by unfold sp;omega
   rw[e1,bg (n:=((i*(c.X.length+1):Nat):Int)) (by omega),bg (n:=(c.off 8:Int)+_) (by omega),show(c.off 8:Int)+((i*(c.X.length+1):Nat):Int)=((sp c i:Nat):Int)by unfold sp;omega]
   have e2:rd W ((sp c i:Nat):Int)=C (gm c W i):=by
    rw[dh hlt];have:=gg hlt;rw[aD hlt]at this;exact this
   rw[e2];simp only[wA]
   rw[zr (show vw (z1+1)by unfold vw;omega),zD hst,yB])
  (.inr ((jf c W:Nat):Int))
  (λ_=>by
   unfold kg;simp only;rw[zB (by omega),yD]
   rfl)
 rcases key with⟨i,h2,h3,_,h4⟩|⟨h2,h4⟩
 .exact .inr ⟨⟨i,h2,h3⟩,h4⟩
 .exact .inl ⟨λk hk=>by have:=h2 k hk;omega,h4⟩
def Pre (c:Cx)(W:Zd)(z0 z1 z2 z3 z4:Int):Prop:=W.length=c.words.toNat/\z0=wB wD c.mode/\z4=wB wD c.ns/\(z1<=65535/\(c.mode≠2->z1=wB wD c.len))/\z2<=z1/\z3<=z1+1
def qh (c:Cx)(W:Zd)(z2 z3:Int):Int:=if c.mode=3 then(if 0<z3 then z3-1 else z2)else(jf c W:Int)
def cV5 (c:Cx)(W:Zd)(z1:Int):Prop:=c.mode≠3->∀k,k<c.ns.toNat->gm c W k<=z1+1
def Fit (c:Cx)(W:Zd)(z0 z1 z2 z3 z4 z9 z10:Int):Prop:=Pre c W z0 z1 z2 z3 z4/\cV5 c W z1/\z9=c.fixed+qh c W z2 z3*c.sl/\z9<=z10/\z10<=c.words
theorem cw4 (h:c.Ok){z0 z1 z2 z3 z4:Int}(w2:vw z2)(w3:vw z3)(hp:Pre c W z0 z1 z2 z3 z4):0<=qh c W z2 z3/\qh c W z2 z3<=c.ns/\0<=qh c W z2 z3*c.sl/\qh c W z2 z3*c.sl<=c.sl*c.ns/\c.fixed+qh c W z2 z3*c.sl<=c.words/\0<=c.fixed:=by
 have hns:=h.ns;have nm:=h.num;have hf:=wZ h;have hfit:=h.fit;have hul:=cz8 c W;have htp:0<=c.tp:=by have:=nm.tp;split at this<;>omega
 have hsl0:0<=c.sl:=by rw[nm.sl];have:=nm.R;split<;>omega
 unfold vw at w2 w3;obtain⟨_,_,_,⟨p4,p5⟩,p6,p7⟩:=hp
 have hh:0<=qh c W z2 z3/\qh c W z2 z3<=c.ns:=by
  unfold qh;by_cases hm:c.mode=3
  .rw[xB hm];have hb:=h.base hm;have hl:=nm.len;have p5':=p5 (by omega);rw[zr ⟨by omega,by omega⟩]at p5';split<;>omega
  .rw[xD hm];omega
 have h1:0<=qh c W z2 z3*c.sl:=Int.mul_nonneg hh.1 hsl0;have h2:qh c W z2 z3*c.sl<=c.ns*c.sl:=Int.mul_le_mul_of_nonneg_right hh.2 hsl0;rw[Int.mul_comm c.ns]at h2;exact⟨hh.1,hh.2,h1,h2,by omega,by omega⟩
variable (h:c.Ok) (e:jp c.mode c.X.length c.T.length c.R c.l c.Q c.k c.len c.words=(c.fixed,c.tp,c.sl,c.ns,0)) (wW:cz W) (hWl:W.length<=1048576) {z0 z1 z2 z3 z4 z5 z6 z7 z8 z9 z10 z11 z12 z13 z14 z15:Int} (w0:vw z0) (w1:vw z1) (w2:vw z2) (w3:vw z3) (w4:vw z4) (w9:vw z9) (w10:vw z10)
include h e wW hWl w0 w1 w2 w3 w4 w9 w10
theorem cW6 : ∃b,il c.mode c.X c.T c.R c.l c.Q c.k c.len c.words W z0 z1 z2 z3 z4 z5 z6 z7 z8 z9 z10 z11 z12 z13 z14 z15=C b/\(b=Za↔Fit c W z0 z1 z2 z3 z4 z9 z10):=by
 have nm:=h.num;have hw:=nm.words;have hns:=h.ns;have hlen:=nm.len;have v1:=w1;have v2:=w2;have v3:=w3;have v9:=w9;have v10:=w10;unfold vw at v1 v2 v3 v9 v10;have elen:wB wD c.len=c.len:=zr ⟨by omega,by omega⟩;unfold il;rw[aC4 h.hl h.hk,e];simp only[wA];rw[cy5 h e];simp only[wA];have no: ∀{P:Prop},(¬P)->∃b,(C Zb:Option Bool)=C b/\(b=Za↔P):=λhP=>⟨Zb,rfl,by simp[hP]⟩
 by_cases c0:W.length=c.words.toNat
 .by_cases c1:z0=wB wD c.mode
  .by_cases c2:z4=wB wD c.ns
   .by_cases c3:z1<=65535
    .by_cases c4:c.mode≠2->z1=wB wD c.len
     .rw[zB (show¬(((W.length:Nat):Int)≠c.words)by omega),zB (show¬z0≠_ from λk=>k c1),zB (show¬z4≠_ from λk=>k c2),zB (show¬65535<z1 by omega)];simp only[yD];have ew:wB wD (z1+1)=z1+1:=zr ⟨by omega,by omega⟩;rw[ew]
      have hst: ∀{β:Type} (F:Bool⊕Unit->Option β),((cond (Zc (c.mode≠2)) (cond (Zc (z1≠IntKind.u64.wrap c.len)) (C (aB Zb)) (cond (Zc (z1<z2)) (C (aB Zb)) (cond (Zc (z1+1<z3)) (C (aB Zb)) (C (Sum.inr ()))))) (cond (Zc (z1<z2)) (C (aB Zb)) (cond (Zc (z1+1<z3)) (C (aB Zb)) (C (Sum.inr ()))))).bind F)=(if z2<=z1/\z3<=z1+1 then F (.inr ())else F (.inl Zb)):=λF=>by
       have inner:(cond (Zc (z1<z2)) (C (aB Zb)) (cond (Zc (z1+1<z3)) (C (aB Zb)) (C (Sum.inr ()))):Option (Bool⊕Unit))=if z2<=z1/\z3<=z1+1 then C (.inr ())else C (.inl Zb):=by
        simp only[cd];by_cases a1:z1<z2
        .rw[xB a1,xD (by omega)]
        .rw[xD a1];by_cases a2:z1+1<z3
         .rw[xB a2,xD (by omega)]
         .rw[xD a2,xB (by omega)]
       rw[inner];by_cases a0:c.mode≠2
       .rw[zD a0,yB,zB (λk=>k (c4 a0)),yD];split<;>rfl
       .rw[zB a0,yD];split<;>rfl
      rw[hst];by_cases c5:z2<=z1/\z3<=z1+1
      .rw[xB c5];simp only[cq];have hp:Pre c W z0 z1 z2 z3 z4:=⟨c0,c1,c2,⟨c3,c4⟩,c5.1,c5.2⟩;obtain⟨h1,h2,h3,h4,h5,h6⟩:=cw4 h w2 w3 hp
       have fin: ∀(b:Int),b=qh c W z2 z3->cV5 c W z1->∃q,(cond (Zc (z9=(wB wD (wB wC (c.fixed+(wB wC (b*c.sl))))))) (cond (Zc (z9<=z10)) (C (Zc (z10<=(wB wD c.words)))) (C Zb)) (C Zb))=C q/\(q=Za↔Fit c W z0 z1 z2 z3 z4 z9 z10):=λb hb ht=>by
        subst hb;rw[bg (n:=qh c W z2 z3*c.sl) (by omega),bg (by omega),zr ⟨by omega,by omega⟩,zr (n:=c.words) ⟨by omega,by omega⟩];by_cases d1:z9=c.fixed+qh c W z2 z3*c.sl
        .rw[zD d1,yB];by_cases d2:z9<=z10
         .rw[zD d2,yB];exact⟨_,rfl,by rw[decide_eq_true_iff];exact⟨λk=>⟨hp,ht,d1,d2,k⟩,λk=>k.2.2.2.2⟩⟩
         .rw[zB d2,yD];exact no λk=>d2 k.2.2.2.1
        .rw[zB d1,yD];exact no λk=>d1 k.2.2.1
       by_cases hm:c.mode=3
       .have hs:((cond (Zc (c.mode=3)) (cond (Zc (0<z3)) (C (wB wC (wB wC z3-1))) (C (wB wC z2))) (C 0)):Option Int)=C (qh c W z2 z3):=by
         rw[zD hm,yB,cd];unfold qh;rw[xB hm];by_cases k3:0<z3
         .rw[xB k3,xB k3,bg (n:=z3) (by omega),bg (by omega)]
         .rw[xD k3,xD k3,bg (by omega)]
        rw[hs];simp only[wA]
        have hl':cj (kg c.mode W z1 (c.fixed,c.tp,c.sl,c.ns,0) (0,c.P)) gi (0,qh c W z2 z3)=C (.inr (qh c W z2 z3)):=by
         refine iu (Reach.refl) (by omega) ?_;unfold kg;simp only;rw[zB (show¬c.mode≠3 from λk=>k hm),yD];cases Zc (0<c.ns)<;>rfl
        rw[hl'];simp only[wA,cq];exact fin _ rfl λk=>(k hm).elim
       .have hs:((cond (Zc (c.mode=3)) (cond (Zc (0<z3)) (C (wB wC (wB wC z3-1))) (C (wB wC z2))) (C 0)):Option Int)=C 0:=by rw[zB hm,yD]
        rw[hs];simp only[wA];rcases cQ0 h hm c0 wW (z1:=z1) ⟨by omega,c3⟩with⟨ht,hl⟩|⟨⟨k,k1,k2⟩,hl⟩
        .rw[hl];simp only[wA,cq];exact fin _ (by unfold qh;rw[xD hm]) λ_=>ht
        .rw[hl];simp only[wA,dg];exact no λq=>by have:=q.2.1 hm k k1;omega
      .rw[xD c5];simp only[dg];exact no λk=>c5 ⟨k.1.2.2.2.2.1,k.1.2.2.2.2.2⟩
     .have hm2:c.mode≠2:=λk=>c4 λq=>(q k).elim
      have hz:z1≠IntKind.u64.wrap c.len:=λk=>c4 λ_=>k
      rw[zB (show¬(((W.length:Nat):Int)≠c.words)by omega),zB (show¬z0≠_ from λk=>k c1),zB (show¬z4≠_ from λk=>k c2),zB (show¬65535<z1 by omega),zD hm2,zD hz];simp only[yD,yB,wA,dg];exact no λk=>c4 k.1.2.2.2.1.2
    .rw[zB (show¬(((W.length:Nat):Int)≠c.words)by omega),zB (show¬z0≠_ from λk=>k c1),zB (show¬z4≠_ from λk=>k c2),zD (show 65535<z1 by omega)];simp only[yD,yB,wA,dg];exact no λk=>c3 k.1.2.2.2.1.1
   .rw[zB (show¬(((W.length:Nat):Int)≠c.words)by omega),zB (show¬z0≠_ from λk=>k c1),zD (show z4≠_ from c2)];simp only[yD,yB,wA,dg];exact no λk=>c2 k.1.2.2.1
  .rw[zB (show¬(((W.length:Nat):Int)≠c.words)by omega),zD (show z0≠_ from c1)];simp only[yD,yB,wA,dg];exact no λk=>c1 k.1.2.1
 .rw[zD (show((W.length:Nat):Int)≠c.words by omega)];simp only[yB,wA,dg];exact no λk=>c0 k.1.1
end
end
section
open Go.IntKind renaming wrap -> wB, i64 -> wC, u64 -> wD
open Bool renaming not_false -> aB, not_true -> aD
open Int renaming mul_comm -> bD
open Sum renaming inl -> bB
section
variable {c:Cx} {W:Zd}
theorem bM1 (h:c.Ok)(hm:c.mode≠3)(hW:Wd c W)(ht: ∃k,k<c.ns.toNat/\65536<gm c W k):rp (c.off 8:Int) c.ns (c.X.length:Int) c.tk W=C (.inl 2):=by
 have n:=h.num;have nx:=n.x;have nns:=h.ns;have nm:=n.mul;have nw:=n.words;have hsl:=n.sl;rw[xD hm]at hsl;have h9:=h.off9_le;have h89:c.off 9=c.off 8+(c.sl*c.ns).toNat:=bx2;obtain⟨t1,t2⟩:=hW.tk h;unfold rp oe fy;rw[zD (show 0<=c.ns by omega),zD (show c.ns<=1048576 by omega),zD (show 1<=(c.X.length:Int)by omega),zD (show(c.X.length:Int)<=64 by omega)];simp only[yB,yD,aD,wA];rw[bg (n:=(c.X.length:Int)+1) (by omega),<-hsl,bD c.ns,bg (n:=c.sl*c.ns) (by omega)]
 have hrd:fq (c.off 8:Int) (c.sl*c.ns) c.tk W=C (0,seg W (c.off 8) (c.sl*c.ns).toNat):=by
  have:=aj8 (W:=W) (o:=c.off 8) (n:=(c.sl*c.ns).toNat) (tk:=c.off 9) (by omega) t1 t2;rw[Int.toNat_of_nonneg nm]at this;exact this
 rw[hrd];simp only[wA];rw[zB (by simp),yD]
 have key:=bI1 (f:=i8 (c.off 8:Int) c.ns (c.X.length:Int) c.tk W) c.ns.toNat (by omega) (λi=>65536<gm c W i) (.inl ()) (.inr ())
  (λi hi hn=>by
   unfold i8;rw[zD (by omega),yB,ab2 h hm hi];simp only[wA];rw[aU7 h hm hW hi];simp only[wA];rw[zB hn,yD,bg (by omega)]
   rfl)
  (λi hi hs=>by
   unfold i8;rw[zD (by omega),yB,ab2 h hm hi];simp only[wA];rw[aU7 h hm hW hi];simp only[wA]
   rw[zD hs,yB])
  (by
   unfold i8
   rw[zB (by omega),yD])
 rcases key with⟨i,_,_,_,hl⟩|⟨hn,_⟩
 .rw[hl];rfl
 .obtain⟨k,k1,k2⟩:=ht;exact(hn k k1 k2).elim
theorem dD1 (h:c.Ok)(hm:c.mode≠3):(ai6 c W).length<1000000:=by
 have hns:=h.ns;rw[ai1];rcases Nat.eq_zero_or_pos c.ns.toNat with h0|h0
 .omega
 .have:=(ai0 h hm h0).2.2;omega
theorem dt3 {L:Int}(ht: ∃k,k<c.ns.toNat/\L+1<gm c W k): ∃t∈ai6 c W,t< -1∨L<t:=by
 obtain⟨k,k1,k2⟩:=ht;exact⟨gm c W k-1,List.mem_of_getElem? (bZ5 k1), .inr (by omega)⟩
theorem dx5 (hm:c.mode=3){z2 z3:Int}(h3:0<=z3):cond (Zc (z3-1<0)) (C z2) (C (z3-1))=C (qh c W z2 z3):=by
 unfold qh;rw[xB hm,cd];by_cases k:0<z3
 .rw[xB k,xD (by omega)]
 .rw[xD k,xB (by omega)]
def dz (W:Zd)(z1 z2 z3 z5 z6 z7 z8 z9 z10 z11:Int):Dy:=⟨z1,z2,z3-1,wB wC z5,wB wC z6,wB wC z7,wB wC z8,z11,z9,z10,W⟩
variable (h:c.Ok) (e:jp c.mode c.X.length c.T.length c.R c.l c.Q c.k c.len c.words=(c.fixed,c.tp,c.sl,c.ns,0)) (wW:cz W) (hWl:W.length<=1048576) {z0 z1 z2 z3 z4 z5 z6 z7 z8 z9 z10 z11 z12 z13 z14 z15:Int} (w1:vw z1) (w2:vw z2) (w3:vw z3) (w9:vw z9) (w10:vw z10)
include h e wW hWl w1 w2 w3 w9 w10
theorem cg3 (hm:c.mode=3): ∃b,(b=Za↔Fit c W z0 z1 z2 z3 z4 z9 z10)/\ia c.mode c.X c.T c.R c.l c.Q c.k c.len c.words W z0 z1 z2 z3 z4 z5 z6 z7 z8 z9 z10 z11 z12 z13 z14 z15=C (bif b then .inr (.inl (cE7 c (dz W z1 z2 z3 z5 z6 z7 z8 z9 z10 z11)))else .inl 3):=by
 have nm:=h.num;have hw:=nm.words;have hns:=h.ns;have hlen:=nm.len;have nmul:=nm.mul;have v1:=w1;have v2:=w2;have v3:=w3;have v9:=w9;have v10:=w10;unfold vw at v1 v2 v3 v9 v10;have elen:wB wD c.len=c.len:=zr ⟨by omega,by omega⟩;have no: ∀{α:Type} {y:α},(¬Fit c W z0 z1 z2 z3 z4 z9 z10)->∃b,(b=Za↔Fit c W z0 z1 z2 z3 z4 z9 z10)/\C (bB (3:Int))=C (bif b then Sum.inr y else bB 3):=λhP=>⟨Zb,by simp[hP],rfl⟩
 unfold ia;rw[aM7 h e];simp only[wA,cq];rw[zr (n:=((W.length:Nat):Int)) ⟨by omega,by omega⟩,zr (n:=c.words) ⟨by omega,by omega⟩];by_cases c0': ¬(W.length=c.words.toNat)
 .rw[zD (show((W.length:Nat):Int)≠c.words by omega),yB];exact no λk=>c0' k.1.1
 have c0:W.length=c.words.toNat:=Classical.not_not.1 c0';rw[zB (show¬(((W.length:Nat):Int)≠c.words)by omega),yD];by_cases c1': ¬(z0=wB wD c.mode)
 .rw[zD (show z0≠_ from c1'),yB];exact no λk=>c1' k.1.2.1
 have c1:z0=wB wD c.mode:=Classical.not_not.1 c1';rw[zB (show¬z0≠_ from λk=>k c1),yD];by_cases c2': ¬(z4=wB wD c.ns)
 .rw[zD (show z4≠_ from c2'),yB];exact no λk=>c2' k.1.2.2.1
 have c2:z4=wB wD c.ns:=Classical.not_not.1 c2';rw[zB (show¬z4≠_ from λk=>k c2),yD];by_cases c3': ¬(z1<=65535/\(c.mode≠2->z1=wB wD c.len))
 .have hl:ec z1 c.fixed c.tp c.sl c.ns c.mode c.R c.Q c.len c.words c.len 0 (-1) 0 0 0 0 0 c.X c.T c.l c.k c.P=C Zb:=by
   unfold ec;rw[cd];by_cases a0:c.mode=2
   .rw[xB a0,zB (λk=>c3' ⟨by omega,λq=>(q a0).elim⟩)]
   .rw[xD a0,zB (λk=>c3' ⟨by omega,λ_=>k⟩)]
  rw[hl];simp only[wA,aB,yB];exact no λk=>c3' k.1.2.2.2.1
 have c3:z1<=65535/\(c.mode≠2->z1=wB wD c.len):=Classical.not_not.1 c3'
 have hl:ec z1 c.fixed c.tp c.sl c.ns c.mode c.R c.Q c.len c.words c.len 0 (-1) 0 0 0 0 0 c.X c.T c.l c.k c.P=C Za:=by
  unfold ec;rw[cd];by_cases a0:c.mode=2
  .rw[xB a0,zD (by omega)]
  .rw[xD a0,zD (c3.2 a0)]
 rw[hl];simp only[wA,aD,yD];rw[zr (n:=z1+1) ⟨by omega,by omega⟩];by_cases c5': ¬(z2<=z1)
 .rw[zD (show z1<z2 by omega),yB];exact no λk=>c5' k.1.2.2.2.2.1
 have c5:z2<=z1:=Classical.not_not.1 c5';rw[zB (show¬z1<z2 by omega),yD];by_cases c6': ¬(z3<=z1+1)
 .rw[zD (show z1+1<z3 by omega),yB];exact no λk=>c6' k.1.2.2.2.2.2
 have c6:z3<=z1+1:=Classical.not_not.1 c6';rw[zB (show¬z1+1<z3 by omega),yD];have hp:Pre c W z0 z1 z2 z3 z4:=⟨c0,c1,c2,c3,c5,c6⟩;obtain⟨h1,h2,h3,h4,h5,h6⟩:=cw4 h w2 w3 hp;by_cases c7': ¬(z9<=c.words)
 .rw[zD (show c.words<z9 by omega),yB];exact no λk=>by have:=k.2.2.1;omega
 have c7:z9<=c.words:=Classical.not_not.1 c7';rw[zB (show¬c.words<z9 by omega),yD];by_cases c8': ¬(z10<=c.words)
 .rw[zD (show c.words<z10 by omega),yB];exact no λk=>c8' k.2.2.2.2
 have c8:z10<=c.words:=Classical.not_not.1 c8';rw[zB (show¬c.words<z10 by omega),yD,aS2 h c0];simp only[wA,cq];have htk:=Wd.tk h c0;have h89:c.off 9=c.off 8+(c.sl*c.ns).toNat:=bx2;rw[show ix 8 c.P.length=C 8 from cw (k:=8) (by rw[Cx.P_len];omega)];simp only[wA];rw[Cx.P_get (show 8<10 by omega)];simp only[wA]
 have etk:ei (wB wC ((c.off 8:Int)+wB wC (c.ns*c.sl))) 0 W=C (0,0,c.tk):=by
  rw[bD,bg (n:=c.sl*c.ns) (by omega),bg (by omega),show(c.off 8:Int)+c.sl*c.ns=((c.off 9:Nat):Int)by omega];have:=aG9 (o:=0) (n:=c.off 9) (W:=W) (by omega) (by omega);rw[Nat.zero_add]at this;exact this
 rw[etk];simp only[wA];rw[bg (n:=z1) (by omega),bg (n:=z2) (by omega),bg (n:=z3) (by omega),bg (n:=z3-1) (by omega),bg (n:=z9) (by omega),bg (n:=z10) (by omega)];unfold i6 et;simp only[wA];rw[zD hm,yB];simp only[wA,dg,aD,yD];have tagok:cV5 c W z1:=λk=>(k hm).elim
 unfold qw et;simp only[wA];rw[zD hm,aD,yD];have hh:cond (Zc (z3-1<0)) (C z2) (C (z3-1))=C (qh c W z2 z3):=dx5 hm v3.1;rw[hh];simp only[wA];rw[bg (n:=qh c W z2 z3*c.sl) (by omega),bg (n:=c.fixed+qh c W z2 z3*c.sl) (by omega)];by_cases d1': ¬(z9=c.fixed+qh c W z2 z3*c.sl)
 .rw[zD (show z9≠_ from d1'),yB];simp only[wA,dg,cq,aB,yB];exact no λk=>d1' k.2.2.1
 have d1:z9=c.fixed+qh c W z2 z3*c.sl:=Classical.not_not.1 d1';rw[zB (show¬z9≠_ from λk=>k d1),yD];simp only[wA,dg,cq];by_cases d2': ¬(z9<=z10)
 .have hmt:oh c.words z9 z10=C (.inl ()):=by
   unfold oh;rw[zB (show¬z9<0 by omega),yD,zD (show z10<z9 by omega),yB]
  rw[hmt];simp only[wA,dg,cq];exact no λk=>d2' k.2.2.2.1
 have d2:z9<=z10:=Classical.not_not.1 d2';rw[bw8 (by omega) d2 c8];simp only[wA,dg,cq];exact⟨Za,by simp only[true_iff];exact⟨hp,tagok,d1,d2,c8⟩,rfl⟩
theorem cg4 (hm:c.mode≠3): ∃b,(b=Za↔Fit c W z0 z1 z2 z3 z4 z9 z10)/\ia c.mode c.X c.T c.R c.l c.Q c.k c.len c.words W z0 z1 z2 z3 z4 z5 z6 z7 z8 z9 z10 z11 z12 z13 z14 z15=C (bif b then .inr (.inr (cE8 c (dz W z1 z2 z3 z5 z6 z7 z8 z9 z10 z11)))else .inl 3):=by
 have nm:=h.num;have hw:=nm.words;have hns:=h.ns;have hlen:=nm.len;have nmul:=nm.mul;have v1:=w1;have v2:=w2;have v3:=w3;have v9:=w9;have v10:=w10;unfold vw at v1 v2 v3 v9 v10;have elen:wB wD c.len=c.len:=zr ⟨by omega,by omega⟩;have no: ∀{α:Type} {y:α},(¬Fit c W z0 z1 z2 z3 z4 z9 z10)->∃b,(b=Za↔Fit c W z0 z1 z2 z3 z4 z9 z10)/\C (bB (3:Int))=C (bif b then Sum.inr y else bB 3):=λhP=>⟨Zb,by simp[hP],rfl⟩
 unfold ia;rw[aM7 h e];simp only[wA,cq];rw[zr (n:=((W.length:Nat):Int)) ⟨by omega,by omega⟩,zr (n:=c.words) ⟨by omega,by omega⟩];by_cases c0': ¬(W.length=c.words.toNat)
 .rw[zD (show((W.length:Nat):Int)≠c.words by omega),yB];exact no λk=>c0' k.1.1
 have c0:W.length=c.words.toNat:=Classical.not_not.1 c0';rw[zB (show¬(((W.length:Nat):Int)≠c.words)by omega),yD];by_cases c1': ¬(z0=wB wD c.mode)
 .rw[zD (show z0≠_ from c1'),yB];exact no λk=>c1' k.1.2.1
 have c1:z0=wB wD c.mode:=Classical.not_not.1 c1';rw[zB (show¬z0≠_ from λk=>k c1),yD];by_cases c2': ¬(z4=wB wD c.ns)
 .rw[zD (show z4≠_ from c2'),yB];exact no λk=>c2' k.1.2.2.1
 have c2:z4=wB wD c.ns:=Classical.not_not.1 c2';rw[zB (show¬z4≠_ from λk=>k c2),yD];by_cases c3': ¬(z1<=65535/\(c.mode≠2->z1=wB wD c.len))
 .have hl:ec z1 c.fixed c.tp c.sl c.ns c.mode c.R c.Q c.len c.words c.len 0 (-1) 0 0 0 0 0 c.X c.T c.l c.k c.P=C Zb:=by
   unfold ec;rw[cd];by_cases a0:c.mode=2
   .rw[xB a0,zB (λk=>c3' ⟨by omega,λq=>(q a0).elim⟩)]
   .rw[xD a0,zB (λk=>c3' ⟨by omega,λ_=>k⟩)]
  rw[hl];simp only[wA,aB,yB];exact no λk=>c3' k.1.2.2.2.1
 have c3:z1<=65535/\(c.mode≠2->z1=wB wD c.len):=Classical.not_not.1 c3'
 have hl:ec z1 c.fixed c.tp c.sl c.ns c.mode c.R c.Q c.len c.words c.len 0 (-1) 0 0 0 0 0 c.X c.T c.l c.k c.P=C Za:=by
  unfold ec;rw[cd];by_cases a0:c.mode=2
  .rw[xB a0,zD (by omega)]
  .rw[xD a0,zD (c3.2 a0)]
 rw[hl];simp only[wA,aD,yD];rw[zr (n:=z1+1) ⟨by omega,by omega⟩];by_cases c5': ¬(z2<=z1)
 .rw[zD (show z1<z2 by omega),yB];exact no λk=>c5' k.1.2.2.2.2.1
 have c5:z2<=z1:=Classical.not_not.1 c5';rw[zB (show¬z1<z2 by omega),yD];by_cases c6': ¬(z3<=z1+1)
 .rw[zD (show z1+1<z3 by omega),yB];exact no λk=>c6' k.1.2.2.2.2.2
 have c6:z3<=z1+1:=Classical.not_not.1 c6';rw[zB (show¬z1+1<z3 by omega),yD];have hp:Pre c W z0 z1 z2 z3 z4:=⟨c0,c1,c2,c3,c5,c6⟩;obtain⟨h1,h2,h3,h4,h5,h6⟩:=cw4 h w2 w3 hp;by_cases c7': ¬(z9<=c.words)
 .rw[zD (show c.words<z9 by omega),yB];exact no λk=>by have:=k.2.2.1;omega
 have c7:z9<=c.words:=Classical.not_not.1 c7';rw[zB (show¬c.words<z9 by omega),yD];by_cases c8': ¬(z10<=c.words)
 .rw[zD (show c.words<z10 by omega),yB];exact no λk=>c8' k.2.2.2.2
 have c8:z10<=c.words:=Classical.not_not.1 c8';rw[zB (show¬c.words<z10 by omega),yD,aS2 h c0];simp only[wA,cq];have htk:=Wd.tk h c0;have h89:c.off 9=c.off 8+(c.sl*c.ns).toNat:=bx2;rw[show ix 8 c.P.length=C 8 from cw (k:=8) (by rw[Cx.P_len];omega)];simp only[wA];rw[Cx.P_get (show 8<10 by omega)];simp only[wA]
 have etk:ei (wB wC ((c.off 8:Int)+wB wC (c.ns*c.sl))) 0 W=C (0,0,c.tk):=by
  rw[bD,bg (n:=c.sl*c.ns) (by omega),bg (by omega),show(c.off 8:Int)+c.sl*c.ns=((c.off 9:Nat):Int)by omega];have:=aG9 (o:=0) (n:=c.off 9) (W:=W) (by omega) (by omega);rw[Nat.zero_add]at this;exact this
 rw[etk];simp only[wA];rw[bg (n:=z1) (by omega),bg (n:=z2) (by omega),bg (n:=z3) (by omega),bg (n:=z3-1) (by omega),bg (n:=z9) (by omega),bg (n:=z10) (by omega)];unfold i6 et;simp only[wA];rw[zB hm,yD];rw[show ix 8 c.P.length=C 8 from cw (k:=8) (by rw[Cx.P_len];omega)];simp only[wA];rw[Cx.P_get (i:=8) (by omega)];simp only[wA];by_cases t1: ∃k,k<c.ns.toNat/\65536<gm c W k
 .rw[bM1 h hm c0 t1];simp only[wA,dg];exact no λq=>by obtain⟨k,k1,k2⟩:=t1;have:=q.2.1 hm k k1;omega
 have t2: ∀k,k<c.ns.toNat->0<=gm c W k/\gm c W k<=65536:=λk hk=>⟨dI6 wW k,by have: ¬65536<gm c W k:=λq=>t1 ⟨k,hk,q⟩;omega⟩
 rw[by8 h hm c0 t2];simp only[wA,cq];unfold qr;rw[bz2 h hm c0 t2];simp only[wA];have tl:(ai6 c W).length<1000000:=dD1 h hm;by_cases t3: ∃k,k<c.ns.toNat/\z1+1<gm c W k
 .rw[bV6 (by omega) (by omega) (by omega) tl (dt3 t3)];simp only[wA,dg,cq,aB,yB];exact no λq=>by obtain⟨k,k1,k2⟩:=t3;have:=q.2.1 hm k k1;omega
 have tagok:cV5 c W z1:=λ_ k hk=>by have: ¬z1+1<gm c W k:=λq=>t3 ⟨k,hk,q⟩;omega
 rw[bp6 (by omega) (by omega) (by omega) tl (bz3 (λk hk=>⟨dI6 wW k,tagok hm k hk⟩))];simp only[wA,dg,cq,aD,yD];unfold qx mm;simp only[wA];rw[zB hm,aB,yB];have hh:qh c W z2 z3=((jf c W:Nat):Int):=xD hm;unfold sr;rw[bz2 h hm c0 t2];simp only[wA];rw[cl6 tl,cl7,<-hh];simp only[wA];rw[bg (n:=qh c W z2 z3*c.sl) (by omega),bg (n:=c.fixed+qh c W z2 z3*c.sl) (by omega)];by_cases d1': ¬(z9=c.fixed+qh c W z2 z3*c.sl)
 .rw[zD (show z9≠_ from d1'),yB];simp only[wA,dg,cq,aB,yB];exact no λk=>d1' k.2.2.1
 have d1:z9=c.fixed+qh c W z2 z3*c.sl:=Classical.not_not.1 d1';rw[zB (show¬z9≠_ from λk=>k d1),yD];simp only[wA,dg,cq];by_cases d2': ¬(z9<=z10)
 .have hmt:oh c.words z9 z10=C (.inl ()):=by
   unfold oh;rw[zB (show¬z9<0 by omega),yD,zD (show z10<z9 by omega),yB]
  rw[hmt];simp only[wA,dg,cq];exact no λk=>d2' k.2.2.2.1
 have d2:z9<=z10:=Classical.not_not.1 d2';rw[bw8 (by omega) d2 c8];simp only[wA,dg,cq];exact⟨Za,by simp only[true_iff];exact⟨hp,tagok,d1,d2,c8⟩,rfl⟩
end
end
section
section
variable {c:Cx} {r:RS}
theorem bE {α β:Type}{o:Option α}{a:α}{F:α->Option β}{r:Option β}(h:o=C a)(k:F a=r):o.bind F=r:=by
 subst h;exact k
end
end
section
section
variable {z0 z1 z2 z3 z4 z5 z6 z7 z8 z9 z10 z11 y12 y13 y14 y15:Int}
end
theorem cg2 {a0:Int}{a1 a2:Zd}{a3:Int}{a4:List df}{a5:Int}{a6:List df}{a7 a8:Int}(hl:OpsOk a4)(hk:OpsOk a6)(h:(jp a0 a1.length a2.length a3 a4 a5 a6 a7 a8).2.2.2.2≠0){W:Zd}{z0 z1 z2 z3 z4 z5 z6 z7 z8 z9 z10 z11 z12 z13 z14 z15:Int}:
  ia a0 a1 a2 a3 a4 a5 a6 a7 a8 W z0 z1 z2 z3 z4 z5 z6 z7 z8 z9 z10 z11 z12 z13 z14 z15=C (.inl (jp a0 a1.length a2.length a3 a4 a5 a6 a7 a8).2.2.2.2):=by
 unfold ia;rw[ck2 hl hk h];simp only[wA,dg];rw[zD h,yB]
section
variable {c:Cx}
end
end
section
section
variable {c:Cx}
end
section
variable {a0:Int} {a1 a2:Zd} {a3:Int} {a4:List df} {a5:Int} {a6:List df} {a7 a8:Int}
end
end
section
open Go.IntKind renaming wrap -> wB, i64 -> wC, u64 -> wD
open List renaming append_assoc -> aB, getD_eq_getElem?_getD -> aD, getElem?_append_right -> bB
theorem ah7 :ff=C Za:=by kernel_rfl
def dt2 (s x:Int):Int:=(3*s+x) % 18446744073709551616
def S36 (l:Zd):Int:=l.foldl dt2 1
theorem cJ6 (a b:Int):ay6 [a,b]=C (a*b % 18446744073709551616):=by
 unfold ay6;rw[bD3 (l:=[a,b]) (λs x=>s*x % 18446744073709551616) 1 (c:=id) (by simp) ?_ ?_]
 .simp only[wA,List.foldl,id];rw[Int.one_mul,Int.mul_emod,Int.emod_emod_of_dvd _ (Int.dvd_refl _),<-Int.mul_emod]
 .intro i hi s;simp only[aH7,cd];rw[xB (by omega),dh hi];simp only[wA];rw[bg (by simp at hi;omega),da7];rfl
 .intro s;simp only[aH7,cd];rw[xD (by omega)];rfl
theorem cJ5 (a b:Int):ay5 [a,b]=C ((a+b) % 18446744073709551616):=by
 unfold ay5;rw[bD3 (l:=[a,b]) (λs x=>(s+x) % 18446744073709551616) 0 (c:=id) (by simp) ?_ ?_]
 .simp only[wA,List.foldl,id]
  congr 1
  omega
 .intro i hi s;simp only[aH6,cd];rw[xB (by omega),dh hi];simp only[wA];rw[bg (by simp at hi;omega),da7];rfl
 .intro s;simp only[aH6,cd];rw[xD (by omega)];rfl
theorem da2 (s x:Int):(s*3 % 18446744073709551616+x) % 18446744073709551616=dt2 s x:=by
 unfold dt2;omega
theorem cQ1 (l:Zd)(hl:l.length<9223372036854775807):xf l=C (S36 l):=by
 unfold xf;rw[bD3 (l:=l) dt2 1 (c:=id) hl ?_ ?_]
 .rfl
 .intro i hi s;simp only[aq5,cd];rw[xB (by omega),dh hi];simp only[wA,cJ6,cJ5,da2];rw[bg (by omega)];rfl
 .intro s;simp only[aq5,cd];rw[xD (by omega)];rfl
def W36 (h:Zd)(l:Zd):Zd:=h++(l.length:Int)::l++[S36 (h++(l.length:Int)::l)]
theorem bw0 (l:Zd)(a1 a2 a3 a4 a5 a6 a7 a8 a9 a10 a11 a12 a13 a14 a15 a16:Int)(hl:l.length<=1048576):ue l a1 a2 a3 a4 a5 a6 a7 a8 a9 a10 a11 a12 a13 a14 a15 a16=
  C (W36 [a1,a2,a3,a4,a5,a6,a7,a8,a9,a10,a11,a12,a13,a14,a15,a16] l):=by
 unfold ue W36;rw[bg (show-9223372036854775808<=(16+(((l.length:Nat)):Int))/\(16+(((l.length:Nat)):Int))<=9223372036854775807 by omega),bg (by omega),cm2 (by omega)];have hb:aL9 (List.replicate 16 (0:Int)) 0 (List.length (List.replicate 16 (0:Int))) [a1,a2,a3,a4,a5,a6,a7,a8,a9,a10,a11,a12,a13,a14,a15,a16]=[a1,a2,a3,a4,a5,a6,a7,a8,a9,a10,a11,a12,a13,a14,a15,a16]:=rfl;rw[hb];have e1:Zc (16<=16+(l.length:Int)+2)=Za:=zD (by omega);have e2:Zc ((8:Int)*(16+(l.length:Int)+2)<=140737488355328)=Za:=zD (by omega);rw[e1,e2];show gd Za _=_;rw[fg,ej (by simp) (by omega),ej (by simp;omega) (by omega),cQ1 _ (by simp;omega)];simp only[wA];rw[ej (by simp;omega) (by omega)];simp only[aB,List.singleton_append]
def cV9 (e:Int):Int×Int×Int×Int×Int×Int×Int×Int×Int×Int×Int×Int×Int×Int×Int×Int×Int×Zd:=(0,0,0,0,0,0,0,0,0,0,0,0,0,0,0,0,e,[])
def cy1 (w:Zd):Int×Int×Int×Int×Int×Int×Int×Int×Int×Int×Int×Int×Int×Int×Int×Int×Int×Zd:=
 if w.length<18 then cV9 4 else if(w.length:Int)-18<w.getD 16 0 then cV9 4 else if w.getD 16 0<(w.length:Int)-18 then cV9 21
 else if w.getD (w.length-1) 0≠S36 (w.take (w.length-1))then cV9 3 else(w.getD 0 0,w.getD 1 0,w.getD 2 0,w.getD 3 0,w.getD 4 0,w.getD 5 0,w.getD 6 0,w.getD 7 0,w.getD 8 0,w.getD 9 0,w.getD 10 0,w.getD 11 0,w.getD 12 0,w.getD 13 0,w.getD 14 0,w.getD 15 0,0,(w.take (w.length-1)).drop 17)
theorem cF3 (w:Zd)(hl:w.length<=2000000):yv w=C (cy1 w):=by
 unfold yv cy1;rw[cm2 (show w.length<9223372036854775808 by omega)];simp only[cd];by_cases c1:w.length<18
 .rw[xB (by omega),xB c1];rfl
 rw[xD (by omega),xD c1,gq (by omega),bg (show-9223372036854775808<=(w.length:Int)-1/\(w.length:Int)-1<=9223372036854775807 by omega)];rw[show rd w 16=C (w.getD 16 0)from cZ2 (i:=16) (by omega)];simp only[wA,cd];by_cases c2:(w.length:Int)-18<w.getD 16 0
 .rw[xB c2,xB c2];rfl
 rw[xD c2,xD c2];by_cases c3:w.getD 16 0<(w.length:Int)-18
 .rw[xB c3,xB c3];rfl
 rw[xD c3,xD c3]
 have hloop:cj (xe w) gi (0,1)=C (S36 (w.take (w.length-1))):=by
  refine gl (n:=w.length-1) (λi=>(w.take i).foldl dt2 1) (by omega) ?_ ?_
  .intro i hi;have hlt:i<w.length:=by omega
   simp only[xe,cd];rw[xB (by omega),dh hlt,bg (show-9223372036854775808<=(w.length:Int)-1/\(w.length:Int)-1<=9223372036854775807 by omega)];simp only[wA,cJ6,cJ5,da2];rw[xD (by omega),bg (by omega),List.take_succ_eq_append_getElem hlt,List.foldl_append];rfl
  .simp only[xe,cd];rw[xB (by omega),dh (by omega),bg (show-9223372036854775808<=(w.length:Int)-1/\(w.length:Int)-1<=9223372036854775807 by omega)];simp only[wA];rw[xB (by omega)];rfl
 rw[hloop,show rd w ((w.length:Int)-1)=C (w.getD (w.length-1) 0)from by rw[<-cZ2 (by omega)];congr 1;omega];simp only[wA,cd];by_cases c4:w.getD (w.length-1) 0≠S36 (w.take (w.length-1))
 .rw[xB c4,xB c4];rfl
 rw[xD c4,xD c4];unfold md cm bo6;rw[zD (show(0:Int)<=17 by omega),zD (show(17:Int)<=(w.length:Int)-1 by omega),zD (show(w.length:Int)-1<=(w.length:Int)by omega)];show gd Za _=_;rw[fg,ej (by simp;omega) (by omega)];simp only[wA];rw[show((w.length:Int)-1).toNat=w.length-1 by omega];rfl
theorem cV7 {h l:Zd}(hh:h.length=16):(W36 h l).length=l.length+18:=by
 simp[W36,hh];omega
theorem di6 {h l:Zd}(hh:h.length=16):(W36 h l).take (l.length+17)=h++(l.length:Int)::l:=by
 unfold W36;rw[List.take_append_of_le_length (by simp[hh];omega),List.take_of_length_le (by simp[hh];omega)]
theorem di5 {h l:Zd}(hh:h.length=16):(W36 h l).getD (l.length+17) 0=S36 (h++(l.length:Int)::l):=by
 unfold W36;rw[aD,bB (by simp[hh];omega)];simp[hh];rw[show l.length+17-(16+(l.length+1))=0 by omega];rfl
theorem dJ3 {h l:Zd}(hh:h.length=16):(W36 h l).getD 16 0=l.length:=by
 unfold W36;rw[aD,aB,bB (by simp[hh])];simp[hh]
theorem dN1 (l:Zd)(a1 a2 a3 a4 a5 a6 a7 a8 a9 a10 a11 a12 a13 a14 a15 a16:Int):cy1 (W36 [a1,a2,a3,a4,a5,a6,a7,a8,a9,a10,a11,a12,a13,a14,a15,a16] l)=(a1,a2,a3,a4,a5,a6,a7,a8,a9,a10,a11,a12,a13,a14,a15,a16,0,l):=by
 have hh:[a1,a2,a3,a4,a5,a6,a7,a8,a9,a10,a11,a12,a13,a14,a15,a16].length=16:=rfl;unfold cy1;rw[cV7 hh,dJ3 hh,xD (by omega),xD (by omega),xD (by omega),show l.length+18-1=l.length+17 by omega,di5 hh,di6 hh,xD (by simp)];have hd:([a1,a2,a3,a4,a5,a6,a7,a8,a9,a10,a11,a12,a13,a14,a15,a16]++(l.length:Int)::l).drop 17=l:=rfl;rw[hd];rfl
theorem aF9 {a0:Int}{a1 a2:Zd}{a3:Int}{a4:List df}{a5:Int}{a6:List df}{a7 a8:Int}{l:Zd}{z0 z1 z2 z3 z4 z5 z6 z7 z8 z9 z10 z11 z12 z13 z14 z15:Int}(hl:l.length<=1048576):
  lh a0 a1 a2 a3 a4 a5 a6 a7 a8 (W36 [z0,z1,z2,z3,z4,z5,z6,z7,z8,z9,z10,z11,z12,z13,z14,z15] l)=ia a0 a1 a2 a3 a4 a5 a6 a7 a8 l z0 z1 z2 z3 z4 z5 z6 z7 z8 z9 z10 z11 z12 z13 z14 z15:=by
 unfold lh;rw[cF3 _ (by rw[cV7 rfl];omega),dN1];simp only[wA];rw[zB (by simp),yD];cases ia a0 a1 a2 a3 a4 a5 a6 a7 a8 l z0 z1 z2 z3 z4 z5 z6 z7 z8 z9 z10 z11 z12 z13 z14 z15 with
 |none=>rfl
 |some x=>
  cases x with
  |inl u=>rfl
  |inr w=>cases w with
   |inl u=>rfl
   |inr v=>rfl
section
variable {c:Cx}
theorem di1 (h:c.Ok){s:Dy}(hW:Wd c s.W):wn c.fixed c.tp c.sl c.ns c.mode c.R c.Q c.len c.words s.L s.p s.q s.c0 s.c1 s.c2 s.c3 s.z c.X c.T c.l c.k c.P c.tk s.lv s.pk c.words s.W=C (W36 [wB wD c.mode,wB wD s.L,wB wD s.p,wB wD (wB wC (s.q+1)),wB wD c.ns,wB wD s.c0,wB wD s.c1,wB wD s.c2,wB wD s.c3,wB wD s.lv,wB wD s.pk,s.z,0,0,0,0] s.W):=by
 have hw:=h.num.words;have hWl:s.W.length=c.words.toNat:=hW;unfold wn;refine bE (dm2 h hW) ?_;refine bE (aL6 s) ?_;refine bE (bw0 _ _ _ _ _ _ _ _ _ _ _ _ _ _ _ _ _ (by omega)) ?_;rfl
theorem di2 (h:c.Ok){s:Dy}(hW:Wd c s.W):wo c.fixed c.tp c.sl c.ns c.mode c.R c.Q c.len c.words s.L s.p s.q s.c0 s.c1 s.c2 s.c3 s.z c.X c.T c.l c.k c.P c.tk (c.off 8:Int) c.ns (c.X.length:Int) s.lv s.pk c.words s.W=C (W36 [wB wD c.mode,wB wD s.L,wB wD s.p,wB wD (wB wC (s.q+1)),wB wD c.ns,wB wD s.c0,wB wD s.c1,wB wD s.c2,wB wD s.c3,wB wD s.lv,wB wD s.pk,s.z,0,0,0,0] s.W):=by
 have hw:=h.num.words;have hWl:s.W.length=c.words.toNat:=hW;unfold wo;refine bE (dm3 h hW) ?_;refine bE (aL7 s) ?_;refine bE (bw0 _ _ _ _ _ _ _ _ _ _ _ _ _ _ _ _ _ (by omega)) ?_;rfl
end
end
section
open Go.IntKind renaming wrap -> wB, i64 -> wC, u64 -> wD
section
variable {c:Cx} {o0:Int} {o1 o2:Zd} {o3:Int} {o4:List df} {o5:Int} {o6:List df} {o7 o8:Int}
theorem dC1 (h:c.Ok)(hm:c.mode=3){i:Nat}{s:Dy}{r:RS}(b:Both1 c i s r):ki c.mode c.X c.T c.R c.l c.Q c.k c.len c.words c.R c.l c.Q c.k (c.X.length:Int) c.T c.fixed c.tp c.sl c.ns r.L r.p r.q r.st r.sl r.sx r.kp r.ax r.th r.ls r.n0 r.n1 r.n2 r.n3 r.pk=C (wB wD c.mode,wB wD s.L,wB wD s.p,wB wD (wB wC (s.q+1)),wB wD c.ns,wB wD s.c0,wB wD s.c1,wB wD s.c2,wB wD s.c3,wB wD s.lv,wB wD s.pk,s.z):=by
 have hlv:=bD0 h hm b.w.inv b.S;have H:=b.H;unfold ki;rw[hlv];rw[H.L,H.p,H.q,H.n0,H.n1,H.n2,H.n3,H.ls,H.pk];rfl
theorem dC2 (h:c.Ok)(hm:c.mode≠3){i:Nat}{s:Dy}{r:RS}(b:Both2 c i s r):ki c.mode c.X c.T c.R c.l c.Q c.k c.len c.words c.R c.l c.Q c.k (c.X.length:Int) c.T c.fixed c.tp c.sl c.ns r.L r.p r.q r.st r.sl r.sx r.kp r.ax r.th r.ls r.n0 r.n1 r.n2 r.n3 r.pk=C (wB wD c.mode,wB wD s.L,wB wD s.p,wB wD (wB wC (s.q+1)),wB wD c.ns,wB wD s.c0,wB wD s.c1,wB wD s.c2,wB wD s.c3,wB wD s.lv,wB wD s.pk,s.z):=by
 have hlv:=bp5 h b.w.inv b.S;have H:=b.H;unfold ki;rw[hlv];rw[H.L,H.p,H.q,H.n0,H.n1,H.n2,H.n3,H.ls,H.pk];rfl
theorem cU6 (h:c.Ok)(wT:cz c.T)(hm:c.mode=3){l:List (Int×Int)}(hl:l.length<=80){s:Dy}{r:RS}(b:Both1 c 0 s r):
  ∃s' r',Both1 c l.length s' r'/\cj (lu l c.X c.T c.l c.k c.P c.tk) gi (0,c.mode,c.X,c.T,c.R,c.l,c.Q,c.k,c.len,c.words,o0,o1,o2,o3,o4,o5,o6,o7,o8,c.fixed,c.tp,c.sl,c.ns,c.mode,c.R,c.Q,c.len,c.words,s.L,s.p,s.q,s.c0,s.c1,s.c2,s.c3,s.z,s.lv,s.pk,c.words,s.W,c.mode,c.X,c.T,c.R,c.l,c.Q,c.k,c.len,c.words,c.R,c.l,c.Q,c.k,(c.X.length:Int),c.T,c.fixed,c.tp,c.sl,c.ns,r.L,r.p,r.q,r.st,r.sl,r.sx,r.kp,r.ax,r.th,r.ls,r.n0,r.n1,r.n2,r.n3,r.pk)=C (c.mode,c.X,c.T,c.R,c.l,c.Q,c.k,c.len,c.words,o0,o1,o2,o3,o4,o5,o6,o7,o8,c.fixed,c.tp,c.sl,c.ns,c.mode,c.R,c.Q,c.len,c.words,s'.L,s'.p,s'.q,s'.c0,s'.c1,s'.c2,s'.c3,s'.z,s'.lv,s'.pk,c.words,s'.W,c.mode,c.X,c.T,c.R,c.l,c.Q,c.k,c.len,c.words,c.R,c.l,c.Q,c.k,(c.X.length:Int),c.T,c.fixed,c.tp,c.sl,c.ns,r'.L,r'.p,r'.q,r'.st,r'.sl,r'.sx,r'.kp,r'.ax,r'.th,r'.ls,r'.n0,r'.n1,r'.n2,r'.n3,r'.pk):=by
 obtain⟨y,h1,s',r',h2,h3⟩:=ap4 (f:=lu l c.X c.T c.l c.k c.P c.tk) (a:=(0,c.mode,c.X,c.T,c.R,c.l,c.Q,c.k,c.len,c.words,o0,o1,o2,o3,o4,o5,o6,o7,o8,c.fixed,c.tp,c.sl,c.ns,c.mode,c.R,c.Q,c.len,c.words,s.L,s.p,s.q,s.c0,s.c1,s.c2,s.c3,s.z,s.lv,s.pk,c.words,s.W,c.mode,c.X,c.T,c.R,c.l,c.Q,c.k,c.len,c.words,c.R,c.l,c.Q,c.k,(c.X.length:Int),c.T,c.fixed,c.tp,c.sl,c.ns,r.L,r.p,r.q,r.st,r.sl,r.sx,r.kp,r.ax,r.th,r.ls,r.n0,r.n1,r.n2,r.n3,r.pk)) (λa=> ∃(i:Nat) (s:Dy) (r:RS),a=((i:Int),c.mode,c.X,c.T,c.R,c.l,c.Q,c.k,c.len,c.words,o0,o1,o2,o3,o4,o5,o6,o7,o8,c.fixed,c.tp,c.sl,c.ns,c.mode,c.R,c.Q,c.len,c.words,s.L,s.p,s.q,s.c0,s.c1,s.c2,s.c3,s.z,s.lv,s.pk,c.words,s.W,c.mode,c.X,c.T,c.R,c.l,c.Q,c.k,c.len,c.words,c.R,c.l,c.Q,c.k,(c.X.length:Int),c.T,c.fixed,c.tp,c.sl,c.ns,r.L,r.p,r.q,r.st,r.sl,r.sx,r.kp,r.ax,r.th,r.ls,r.n0,r.n1,r.n2,r.n3,r.pk)/\i<=l.length/\Both1 c i s r) (λa=>((l.length:Int)-a.1).toNat) (λy=> ∃s' r',y=(c.mode,c.X,c.T,c.R,c.l,c.Q,c.k,c.len,c.words,o0,o1,o2,o3,o4,o5,o6,o7,o8,c.fixed,c.tp,c.sl,c.ns,c.mode,c.R,c.Q,c.len,c.words,s'.L,s'.p,s'.q,s'.c0,s'.c1,s'.c2,s'.c3,s'.z,s'.lv,s'.pk,c.words,s'.W,c.mode,c.X,c.T,c.R,c.l,c.Q,c.k,c.len,c.words,c.R,c.l,c.Q,c.k,(c.X.length:Int),c.T,c.fixed,c.tp,c.sl,c.ns,r'.L,r'.p,r'.q,r'.st,r'.sl,r'.sx,r'.kp,r'.ax,r'.th,r'.ls,r'.n0,r'.n1,r'.n2,r'.n3,r'.pk)/\Both1 c l.length s' r') ⟨0,s,r,rfl,Nat.zero_le _,b⟩ (by simp only;omega) (λa ha=>by
  obtain⟨i,s,r,rfl,hi,b⟩:=ha;by_cases hlt:i<l.length
  .left;obtain⟨r',b',h3⟩:=cQ4 h wT hm (i:=i) (by omega) b l[i];refine⟨(((i+1:Nat):Int),c.mode,c.X,c.T,c.R,c.l,c.Q,c.k,c.len,c.words,o0,o1,o2,o3,o4,o5,o6,o7,o8,c.fixed,c.tp,c.sl,c.ns,c.mode,c.R,c.Q,c.len,c.words,(ad7 c l[i] s).2.L,(ad7 c l[i] s).2.p,(ad7 c l[i] s).2.q,(ad7 c l[i] s).2.c0,(ad7 c l[i] s).2.c1,(ad7 c l[i] s).2.c2,(ad7 c l[i] s).2.c3,(ad7 c l[i] s).2.z,(ad7 c l[i] s).2.lv,(ad7 c l[i] s).2.pk,c.words,(ad7 c l[i] s).2.W,c.mode,c.X,c.T,c.R,c.l,c.Q,c.k,c.len,c.words,c.R,c.l,c.Q,c.k,(c.X.length:Int),c.T,c.fixed,c.tp,c.sl,c.ns,r'.L,r'.p,r'.q,r'.st,r'.sl,r'.sx,r'.kp,r'.ax,r'.th,r'.ls,r'.n0,r'.n1,r'.n2,r'.n3,r'.pk), ?_,⟨i+1,_,r',rfl,hlt,b'⟩,by simp only;omega⟩;simp only[lu];rw[zD (by omega),yB,dh hlt];simp only[wA];rw[h3];simp only[wA];rw[bg (by omega),show(i:Int)+1=((i+1:Nat):Int)by omega]
  .right;have hie:i=l.length:=by omega
   subst hie;refine⟨_, ?_,s,r,rfl,b⟩;simp only[lu]
   rw[zB (by omega),yD])
 exact⟨s',r',h3,by rw[h1,h2]⟩
theorem cU7 (h:c.Ok)(wT:cz c.T)(hm:c.mode≠3){l:List (Int×Int)}(hl:l.length<=80){s:Dy}{r:RS}(b:Both2 c 0 s r):
  ∃s' r',Both2 c l.length s' r'/\cj (lw l c.X c.T c.l c.k c.P c.tk (c.off 8:Int) c.ns (c.X.length:Int)) gi (0,c.mode,c.X,c.T,c.R,c.l,c.Q,c.k,c.len,c.words,o0,o1,o2,o3,o4,o5,o6,o7,o8,c.fixed,c.tp,c.sl,c.ns,c.mode,c.R,c.Q,c.len,c.words,s.L,s.p,s.q,s.c0,s.c1,s.c2,s.c3,s.z,s.lv,s.pk,c.words,s.W,c.mode,c.X,c.T,c.R,c.l,c.Q,c.k,c.len,c.words,c.R,c.l,c.Q,c.k,(c.X.length:Int),c.T,c.fixed,c.tp,c.sl,c.ns,r.L,r.p,r.q,r.st,r.sl,r.sx,r.kp,r.ax,r.th,r.ls,r.n0,r.n1,r.n2,r.n3,r.pk)=C (c.mode,c.X,c.T,c.R,c.l,c.Q,c.k,c.len,c.words,o0,o1,o2,o3,o4,o5,o6,o7,o8,c.fixed,c.tp,c.sl,c.ns,c.mode,c.R,c.Q,c.len,c.words,s'.L,s'.p,s'.q,s'.c0,s'.c1,s'.c2,s'.c3,s'.z,s'.lv,s'.pk,c.words,s'.W,c.mode,c.X,c.T,c.R,c.l,c.Q,c.k,c.len,c.words,c.R,c.l,c.Q,c.k,(c.X.length:Int),c.T,c.fixed,c.tp,c.sl,c.ns,r'.L,r'.p,r'.q,r'.st,r'.sl,r'.sx,r'.kp,r'.ax,r'.th,r'.ls,r'.n0,r'.n1,r'.n2,r'.n3,r'.pk):=by
 obtain⟨y,h1,s',r',h2,h3⟩:=ap4 (f:=lw l c.X c.T c.l c.k c.P c.tk (c.off 8:Int) c.ns (c.X.length:Int)) (a:=(0,c.mode,c.X,c.T,c.R,c.l,c.Q,c.k,c.len,c.words,o0,o1,o2,o3,o4,o5,o6,o7,o8,c.fixed,c.tp,c.sl,c.ns,c.mode,c.R,c.Q,c.len,c.words,s.L,s.p,s.q,s.c0,s.c1,s.c2,s.c3,s.z,s.lv,s.pk,c.words,s.W,c.mode,c.X,c.T,c.R,c.l,c.Q,c.k,c.len,c.words,c.R,c.l,c.Q,c.k,(c.X.length:Int),c.T,c.fixed,c.tp,c.sl,c.ns,r.L,r.p,r.q,r.st,r.sl,r.sx,r.kp,r.ax,r.th,r.ls,r.n0,r.n1,r.n2,r.n3,r.pk)) (λa=> ∃(i:Nat) (s:Dy) (r:RS),a=((i:Int),c.mode,c.X,c.T,c.R,c.l,c.Q,c.k,c.len,c.words,o0,o1,o2,o3,o4,o5,o6,o7,o8,c.fixed,c.tp,c.sl,c.ns,c.mode,c.R,c.Q,c.len,c.words,s.L,s.p,s.q,s.c0,s.c1,s.c2,s.c3,s.z,s.lv,s.pk,c.words,s.W,c.mode,c.X,c.T,c.R,c.l,c.Q,c.k,c.len,c.words,c.R,c.l,c.Q,c.k,(c.X.length:Int),c.T,c.fixed,c.tp,c.sl,c.ns,r.L,r.p,r.q,r.st,r.sl,r.sx,r.kp,r.ax,r.th,r.ls,r.n0,r.n1,r.n2,r.n3,r.pk)/\i<=l.length/\Both2 c i s r) (λa=>((l.length:Int)-a.1).toNat) (λy=> ∃s' r',y=(c.mode,c.X,c.T,c.R,c.l,c.Q,c.k,c.len,c.words,o0,o1,o2,o3,o4,o5,o6,o7,o8,c.fixed,c.tp,c.sl,c.ns,c.mode,c.R,c.Q,c.len,c.words,s'.L,s'.p,s'.q,s'.c0,s'.c1,s'.c2,s'.c3,s'.z,s'.lv,s'.pk,c.words,s'.W,c.mode,c.X,c.T,c.R,c.l,c.Q,c.k,c.len,c.words,c.R,c.l,c.Q,c.k,(c.X.length:Int),c.T,c.fixed,c.tp,c.sl,c.ns,r'.L,r'.p,r'.q,r'.st,r'.sl,r'.sx,r'.kp,r'.ax,r'.th,r'.ls,r'.n0,r'.n1,r'.n2,r'.n3,r'.pk)/\Both2 c l.length s' r') ⟨0,s,r,rfl,Nat.zero_le _,b⟩ (by simp only;omega) (λa ha=>by
  obtain⟨i,s,r,rfl,hi,b⟩:=ha;by_cases hlt:i<l.length
  .left;obtain⟨r',b',h3⟩:=cQ5 h wT hm (i:=i) (by omega) b l[i];refine⟨(((i+1:Nat):Int),c.mode,c.X,c.T,c.R,c.l,c.Q,c.k,c.len,c.words,o0,o1,o2,o3,o4,o5,o6,o7,o8,c.fixed,c.tp,c.sl,c.ns,c.mode,c.R,c.Q,c.len,c.words,(ad8 c l[i] s).2.L,(ad8 c l[i] s).2.p,(ad8 c l[i] s).2.q,(ad8 c l[i] s).2.c0,(ad8 c l[i] s).2.c1,(ad8 c l[i] s).2.c2,(ad8 c l[i] s).2.c3,(ad8 c l[i] s).2.z,(ad8 c l[i] s).2.lv,(ad8 c l[i] s).2.pk,c.words,(ad8 c l[i] s).2.W,c.mode,c.X,c.T,c.R,c.l,c.Q,c.k,c.len,c.words,c.R,c.l,c.Q,c.k,(c.X.length:Int),c.T,c.fixed,c.tp,c.sl,c.ns,r'.L,r'.p,r'.q,r'.st,r'.sl,r'.sx,r'.kp,r'.ax,r'.th,r'.ls,r'.n0,r'.n1,r'.n2,r'.n3,r'.pk), ?_,⟨i+1,_,r',rfl,hlt,b'⟩,by simp only;omega⟩;simp only[lw];rw[zD (by omega),yB,dh hlt];simp only[wA];rw[h3];simp only[wA];rw[bg (by omega),show(i:Int)+1=((i+1:Nat):Int)by omega]
  .right;have hie:i=l.length:=by omega
   subst hie;refine⟨_, ?_,s,r,rfl,b⟩;simp only[lw]
   rw[zB (by omega),yD])
 exact⟨s',r',h3,by rw[h1,h2]⟩
end
end
section
open Go.IntKind renaming wrap -> wB, i64 -> wC, u64 -> wD
open Bool renaming not_true -> aB, not_false -> aD
section
variable {c:Cx}
theorem dy0 (h:c.Ok)(wT:cz c.T)(wX:cz c.X)(hm:c.mode=3)(e:jp c.mode c.X.length c.T.length c.R c.l c.Q c.k c.len c.words=(c.fixed,c.tp,c.sl,c.ns,0))(hs:li c.mode c.X c.T c.R c.l c.Q c.k c.len c.words=C Za){o0:Int}{o1 o2:Zd}{o3:Int}{o4:List df}{o5:Int}{o6:List df}{o7 o8:Int}(hs':li o0 o1 o2 o3 o4 o5 o6 o7 o8=C Za)(k4:OpsOk o4)(k6:OpsOk o6){l:List (Int×Int)}(hl:l.length<=60):gh c.mode c.X c.T c.R c.l c.Q c.k c.len c.words o0 o1 o2 o3 o4 o5 o6 o7 o8 l=C Za:=by
 have nm:=h.num;have hwd:=nm.words;obtain⟨q1,q2⟩:=do7 h wT wX hm;have b:Both1 c 0 (new1 c) (do6 c):=⟨cl9 h hm l 0,q1,q2,rfl⟩;obtain⟨s,r,b',hloop⟩:=cU6 (o0:=o0) (o1:=o1) (o2:=o2) (o3:=o3) (o4:=o4) (o5:=o5) (o6:=o6) (o7:=o7) (o8:=o8) h wT hm (l:=l) (by omega) b;have hW:Wd c s.W:=b'.w.inv.w;have wW:cz s.W:=b'.H.has.w;have hWl:s.W.length=c.words.toNat:=hW;have hW1:s.W.length<=1048576:=by omega
 have hfz:=di1 h hW;have himg:=dm2 h (s:=s) hW;unfold gh;rw[hs,hs'];simp only[wA,aB,yD];rw[zB (show¬(60<((l.length:Nat):Int))by omega)];simp only[yD];rw[dX7 h hm e];simp only[wA,cq,dg];rw[show mf=C ()from rfl];simp only[wA];rw[bq6 h hm e];simp only[wA];rw[zB (by simp),yD];simp only[wA,yD];refine bE hloop ?_;refine bE hfz ?_;refine bE ((aF9 hW1).trans (dJ5 h hm e b'.w.inv b'.w.cnt (by omega))) ?_;simp only[cq,dg,cE7];refine bE (aL6 s) ?_;refine bE (dC1 h hm b') ?_;simp only[dC3,decide_true,Bool.and_self,aB,yD];refine bE himg ?_;refine bE himg ?_;refine bE (dr8 (by omega)) ?_;simp only[aB,yD];by_cases hp:(jp o0 o1.length o2.length o3 o4 o5 o6 o7 o8).2.2.2.2≠0
 .refine bE (bE1 k4 k6 hp) ?_;refine bE ((aF9 hW1).trans (cg2 k4 k6 hp)) ?_;simp only[dg];rw[zD hp,yB,decide_true,yB,ah7];rfl
 obtain⟨d,hd,e0,e1,e2,e3,e4,e5,e6,e7,e8,e9⟩:=dM2 k4 k6 (show(jp o0 o1.length o2.length o3 o4 o5 o6 o7 o8).2.2.2.2=0 by omega);subst e0 e1 e2 e3 e4 e5 e6 e7 e8;obtain⟨bf,hf1,hf2⟩:=cW6 (c:=d) (z0:=wB wD c.mode) (z1:=wB wD s.L) (z2:=wB wD s.p) (z3:=wB wD (wB wC (s.q+1))) (z4:=wB wD c.ns) (z5:=wB wD s.c0) (z6:=wB wD s.c1) (z7:=wB wD s.c2) (z8:=wB wD s.c3) (z9:=wB wD s.lv) (z10:=wB wD s.pk) (z11:=s.z) (z12:=0) (z13:=0) (z14:=0) (z15:=0) hd e9 wW hW1 (tw _) (tw _) (tw _) (tw _) (tw _) (tw _) (tw _);by_cases hm':d.mode=3
 .obtain⟨bb,hb1,hb2⟩:=cg3 (c:=d) (z0:=wB wD c.mode) (z1:=wB wD s.L) (z2:=wB wD s.p) (z3:=wB wD (wB wC (s.q+1))) (z4:=wB wD c.ns) (z5:=wB wD s.c0) (z6:=wB wD s.c1) (z7:=wB wD s.c2) (z8:=wB wD s.c3) (z9:=wB wD s.lv) (z10:=wB wD s.pk) (z11:=s.z) (z12:=0) (z13:=0) (z14:=0) (z15:=0) hd e9 wW hW1 (tw _) (tw _) (tw _) (tw _) (tw _) hm'
  have hbf:bf=bb:=by
   cases bb with
   |true=>exact hf2.2 (hb1.1 rfl)
   |false=>cases bf with
    |false=>rfl
    |true=>exact absurd (hb1.2 (hf2.1 rfl)) (by simp)
  refine bE (bq6 hd hm' e9) ?_;refine bE ((aF9 hW1).trans hb2) ?_;cases bb with
  |false=>
   simp only[yD,dg];rw[zB (show¬((0:Int)≠0)by simp),yD];refine bE himg ?_;refine bE (aL6 s) ?_;refine bE hf1 ?_;rw[hbf];simp only[aD,yB,decide_true];rw[ah7];rfl
  |true=>
   simp only[yB,cq,dg,cE7];rw[zB (show¬((0:Int)≠0)by simp),yD];refine bE himg ?_;refine bE (aL6 s) ?_;refine bE hf1 ?_;rw[hbf];simp only[aB,yD];rw[ah7];rfl
 .obtain⟨bb,hb1,hb2⟩:=cg4 (c:=d) (z0:=wB wD c.mode) (z1:=wB wD s.L) (z2:=wB wD s.p) (z3:=wB wD (wB wC (s.q+1))) (z4:=wB wD c.ns) (z5:=wB wD s.c0) (z6:=wB wD s.c1) (z7:=wB wD s.c2) (z8:=wB wD s.c3) (z9:=wB wD s.lv) (z10:=wB wD s.pk) (z11:=s.z) (z12:=0) (z13:=0) (z14:=0) (z15:=0) hd e9 wW hW1 (tw _) (tw _) (tw _) (tw _) (tw _) hm'
  have hbf:bf=bb:=by
   cases bb with
   |true=>exact hf2.2 (hb1.1 rfl)
   |false=>cases bf with
    |false=>rfl
    |true=>exact absurd (hb1.2 (hf2.1 rfl)) (by simp)
  refine bE (bq7 hd hm' e9) ?_;refine bE ((aF9 hW1).trans hb2) ?_;cases bb with
  |false=>
   simp only[yD,dg];rw[zB (show¬((0:Int)≠0)by simp),yD];refine bE himg ?_;refine bE (aL6 s) ?_;refine bE hf1 ?_;rw[hbf];simp only[aD,yB,decide_true];rw[ah7];rfl
  |true=>
   simp only[yB,cq,dg,cE8];rw[zB (show¬((0:Int)≠0)by simp),yD];refine bE himg ?_;refine bE (aL6 s) ?_;refine bE hf1 ?_;rw[hbf];simp only[aB,yD];rw[ah7];rfl
theorem dy1 (h:c.Ok)(wT:cz c.T)(wX:cz c.X)(hm:c.mode≠3)(e:jp c.mode c.X.length c.T.length c.R c.l c.Q c.k c.len c.words=(c.fixed,c.tp,c.sl,c.ns,0))(hs:li c.mode c.X c.T c.R c.l c.Q c.k c.len c.words=C Za){o0:Int}{o1 o2:Zd}{o3:Int}{o4:List df}{o5:Int}{o6:List df}{o7 o8:Int}(hs':li o0 o1 o2 o3 o4 o5 o6 o7 o8=C Za)(k4:OpsOk o4)(k6:OpsOk o6){l:List (Int×Int)}(hl:l.length<=60):gh c.mode c.X c.T c.R c.l c.Q c.k c.len c.words o0 o1 o2 o3 o4 o5 o6 o7 o8 l=C Za:=by
 have nm:=h.num;have hwd:=nm.words;obtain⟨q1,q2⟩:=do8 h wT wX hm;have b:Both2 c 0 (new2 c) (bW0 c):=⟨cm0 h hm l 0,q1,q2⟩;obtain⟨s,r,b',hloop⟩:=cU7 (o0:=o0) (o1:=o1) (o2:=o2) (o3:=o3) (o4:=o4) (o5:=o5) (o6:=o6) (o7:=o7) (o8:=o8) h wT hm (l:=l) (by omega) b;have hW:Wd c s.W:=b'.w.inv.w;have wW:cz s.W:=b'.H.has.w;have hWl:s.W.length=c.words.toNat:=hW;have hW1:s.W.length<=1048576:=by omega
 have hfz:=di2 h hW;have himg:=dm3 h (s:=s) hW;unfold gh;rw[hs,hs'];simp only[wA,aB,yD];rw[zB (show¬(60<((l.length:Nat):Int))by omega)];simp only[yD];rw[dX8 h hm e];simp only[wA,cq,dg];rw[show mf=C ()from rfl];simp only[wA];rw[bq7 h hm e];simp only[wA];rw[zB (by simp),yD];simp only[wA,yD];refine bE hloop ?_;refine bE hfz ?_;refine bE ((aF9 hW1).trans (dJ6 h hm e b'.w.inv b'.w.len b'.w.cnt (by omega))) ?_;simp only[cq,dg,cE8];refine bE (aL7 s) ?_;refine bE (dC2 h hm b') ?_;simp only[dC3,decide_true,Bool.and_self,aB,yD];refine bE himg ?_;refine bE himg ?_;refine bE (dr8 (by omega)) ?_;simp only[aB,yD];by_cases hp:(jp o0 o1.length o2.length o3 o4 o5 o6 o7 o8).2.2.2.2≠0
 .refine bE (bE1 k4 k6 hp) ?_;refine bE ((aF9 hW1).trans (cg2 k4 k6 hp)) ?_;simp only[dg];rw[zD hp,yB,decide_true,yB,ah7];rfl
 obtain⟨d,hd,e0,e1,e2,e3,e4,e5,e6,e7,e8,e9⟩:=dM2 k4 k6 (show(jp o0 o1.length o2.length o3 o4 o5 o6 o7 o8).2.2.2.2=0 by omega);subst e0 e1 e2 e3 e4 e5 e6 e7 e8;obtain⟨bf,hf1,hf2⟩:=cW6 (c:=d) (z0:=wB wD c.mode) (z1:=wB wD s.L) (z2:=wB wD s.p) (z3:=wB wD (wB wC (s.q+1))) (z4:=wB wD c.ns) (z5:=wB wD s.c0) (z6:=wB wD s.c1) (z7:=wB wD s.c2) (z8:=wB wD s.c3) (z9:=wB wD s.lv) (z10:=wB wD s.pk) (z11:=s.z) (z12:=0) (z13:=0) (z14:=0) (z15:=0) hd e9 wW hW1 (tw _) (tw _) (tw _) (tw _) (tw _) (tw _) (tw _);by_cases hm':d.mode=3
 .obtain⟨bb,hb1,hb2⟩:=cg3 (c:=d) (z0:=wB wD c.mode) (z1:=wB wD s.L) (z2:=wB wD s.p) (z3:=wB wD (wB wC (s.q+1))) (z4:=wB wD c.ns) (z5:=wB wD s.c0) (z6:=wB wD s.c1) (z7:=wB wD s.c2) (z8:=wB wD s.c3) (z9:=wB wD s.lv) (z10:=wB wD s.pk) (z11:=s.z) (z12:=0) (z13:=0) (z14:=0) (z15:=0) hd e9 wW hW1 (tw _) (tw _) (tw _) (tw _) (tw _) hm'
  have hbf:bf=bb:=by
   cases bb with
   |true=>exact hf2.2 (hb1.1 rfl)
   |false=>cases bf with
    |false=>rfl
    |true=>exact absurd (hb1.2 (hf2.1 rfl)) (by simp)
  refine bE (bq6 hd hm' e9) ?_;refine bE ((aF9 hW1).trans hb2) ?_;cases bb with
  |false=>
   simp only[yD,dg];rw[zB (show¬((0:Int)≠0)by simp),yD];refine bE himg ?_;refine bE (aL7 s) ?_;refine bE hf1 ?_;rw[hbf];simp only[aD,yB,decide_true];rw[ah7];rfl
  |true=>
   simp only[yB,cq,dg,cE7];rw[zB (show¬((0:Int)≠0)by simp),yD];refine bE himg ?_;refine bE (aL7 s) ?_;refine bE hf1 ?_;rw[hbf];simp only[aB,yD];rw[ah7];rfl
 .obtain⟨bb,hb1,hb2⟩:=cg4 (c:=d) (z0:=wB wD c.mode) (z1:=wB wD s.L) (z2:=wB wD s.p) (z3:=wB wD (wB wC (s.q+1))) (z4:=wB wD c.ns) (z5:=wB wD s.c0) (z6:=wB wD s.c1) (z7:=wB wD s.c2) (z8:=wB wD s.c3) (z9:=wB wD s.lv) (z10:=wB wD s.pk) (z11:=s.z) (z12:=0) (z13:=0) (z14:=0) (z15:=0) hd e9 wW hW1 (tw _) (tw _) (tw _) (tw _) (tw _) hm'
  have hbf:bf=bb:=by
   cases bb with
   |true=>exact hf2.2 (hb1.1 rfl)
   |false=>cases bf with
    |false=>rfl
    |true=>exact absurd (hb1.2 (hf2.1 rfl)) (by simp)
  refine bE (bq7 hd hm' e9) ?_;refine bE ((aF9 hW1).trans hb2) ?_;cases bb with
  |false=>
   simp only[yD,dg];rw[zB (show¬((0:Int)≠0)by simp),yD];refine bE himg ?_;refine bE (aL7 s) ?_;refine bE hf1 ?_;rw[hbf];simp only[aD,yB,decide_true];rw[ah7];rfl
  |true=>
   simp only[yB,cq,dg,cE8];rw[zB (show¬((0:Int)≠0)by simp),yD];refine bE himg ?_;refine bE (aL7 s) ?_;refine bE hf1 ?_;rw[hbf];simp only[aB,yD];rw[ah7];rfl
end
section
variable {a0:Int} {a1 a2:Zd} {a3:Int} {a4:List df} {a5:Int} {a6:List df} {a7 a8 a9:Int} {a10 a11:Zd} {a12:Int} {a13:List df} {a14:Int} {a15:List df} {a16 a17:Int}
theorem cG3 {a18:List (Int×Int)}(h1:cz a1)(h2:cz a2)(h4: ∀o∈a4,okV o)(h6: ∀o∈a6,okV o)(h13: ∀o∈a13,okV o)(h15: ∀o∈a15,okV o):gh a0 a1 a2 a3 a4 a5 a6 a7 a8 a9 a10 a11 a12 a13 a14 a15 a16 a17 a18=C Za:=by
 rcases da0 (a0:=a0) (a1:=a1) (a2:=a2) (a3:=a3) (a5:=a5) (a7:=a7) (a8:=a8) h4 h6 with hs|⟨hs,o4,o6,x1,x2⟩
 .unfold gh;rw[hs,ah7];rfl
 rcases da0 (a0:=a9) (a1:=a10) (a2:=a11) (a3:=a12) (a5:=a14) (a7:=a16) (a8:=a17) h13 h15 with hs'|⟨hs',o13,o15,x1',x2'⟩
 .unfold gh;rw[hs,hs',ah7];rfl
 by_cases c1:(60:Int)<((a18.length:Nat):Int)
 .unfold gh;rw[hs,hs'];simp only[wA,aB,yD];rw[zD c1,ah7];rfl
 by_cases hp:(jp a0 a1.length a2.length a3 a4 a5 a6 a7 a8).2.2.2.2≠0
 .unfold gh;rw[hs,hs'];simp only[wA,aB,yD];rw[zB c1];simp only[yD];rw[du2 o4 o6 hp];simp only[wA,dg];rw[show mf=C ()from rfl];simp only[wA];rw[bE1 o4 o6 hp];simp only[wA];rw[zD hp,yB];simp only[wA,yB];rw[ah7];rfl
 obtain⟨c,hc,e0,e1,e2,e3,e4,e5,e6,e7,e8,e9⟩:=dM2 o4 o6 (show(jp a0 a1.length a2.length a3 a4 a5 a6 a7 a8).2.2.2.2=0 by omega);subst e0 e1 e2 e3 e4 e5 e6 e7 e8;by_cases hm:c.mode=3
 .exact dy0 hc h2 h1 hm e9 hs hs' o13 o15 (by omega)
 .exact dy1 hc h2 h1 hm e9 hs hs' o13 o15 (by omega)
end
end
end Go.V
