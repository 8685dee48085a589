/- A part of the proofs of this claim: what functions of the program answer on an abstract machine, and plain laws. No condition. -/
import Derived.Test.YtbocegmeciaanaaGreatL3
set_option linter.unusedVariables false
set_option linter.unusedSimpArgs false
set_option linter.unusedSectionVars false
namespace Go.V
open Go.Ab
section
open Go.IntKind renaming wrap → zH, i64 → zI, u64 → zJ
open Int renaming reduceEq → aB
set_option maxRecDepth 100000
section
variable {c:Cx} {r:RS}
def encR (c:Cx)(r:RS)(e:Int):=(c.mode,c.X,c.T,c.R,c.l,c.Q,c.k,c.len,c.words,c.R,c.l,c.Q,c.k,(c.X.length:Int),c.T,c.fixed,c.tp,c.sl,c.ns,r.L,r.p,r.q,r.st,r.sl,r.sx,r.kp,r.ax,r.th,r.ls,r.n0,r.n1,r.n2,r.n3,r.pk,e)
theorem Cx.Ok.rof (h:c.Ok):nX c.mode c.X c.T c.R c.l c.Q c.k c.len c.words=some ((c.fl.n:Int),(c.fk.n:Int)):=by
 rw[aG6 h.hl h.hk,zF (by rw[h.hc];simp),h.pl.w,h.pk.w]
def qu (r:RS)(p q pk:Int):RS:={r with p:=p,q:=q,pk:=pk}
def lF (c:Cx)(r:RS)(i:Nat):RS:={r with st:=aA0 c r.p r.st i,n0:=r.n0+(i:Int)}
theorem cp6 (h:c.Ok)(wT:ci c.T)(hst:r.st.length=c.X.length)(wst:ci r.st){m:Nat}{a n:Int}{x0:List Int}{x1 x2 x3 x4 x5 x6:Int}{x7:List Int}{x8:Int}(hn:n=(m:Int))(hp:0≤r.p∧r.p+m≤65535){B:Int}(hc:aA9 B r)(hB:B≤4611686018427387904):
  bw qj fa (0,c.mode,c.X,c.T,c.R,c.l,c.Q,c.k,c.len,c.words,c.R,c.l,c.Q,c.k,(c.X.length:Int),c.T,c.fixed,c.tp,c.sl,c.ns,r.L,r.p,r.q,r.st,r.sl,r.sx,r.kp,r.ax,r.th,r.ls,r.n0,r.n1,r.n2,r.n3,r.pk,a,n,x0,x1,x2,x3,x4,x5,x6,x7,x8)=some (c.mode,c.X,c.T,c.R,c.l,c.Q,c.k,c.len,c.words,c.R,c.l,c.Q,c.k,(c.X.length:Int),c.T,c.fixed,c.tp,c.sl,c.ns,(lF c r m).L,(lF c r m).p,(lF c r m).q,(lF c r m).st,(lF c r m).sl,(lF c r m).sx,(lF c r m).kp,(lF c r m).ax,(lF c r m).th,(lF c r m).ls,(lF c r m).n0,(lF c r m).n1,(lF c r m).n2,(lF c r m).n3,(lF c r m).pk,a,n,x0,x1,x2,x3,x4,x5,x6,x7,x8):=by
 subst hn;unfold aA9 at hc
 have key:=wV (f:=qj) (n:=m) (fun i=>((i:Int),c.mode,c.X,c.T,c.R,c.l,c.Q,c.k,c.len,c.words,c.R,c.l,c.Q,c.k,(c.X.length:Int),c.T,c.fixed,c.tp,c.sl,c.ns,(lF c r i).L,(lF c r i).p,(lF c r i).q,(lF c r i).st,(lF c r i).sl,(lF c r i).sx,(lF c r i).kp,(lF c r i).ax,(lF c r i).th,(lF c r i).ls,(lF c r i).n0,(lF c r i).n1,(lF c r i).n2,(lF c r i).n3,(lF c r i).pk,a,(m:Int),x0,x1,x2,x3,x4,x5,x6,x7,x8)) (c:=(c.mode,c.X,c.T,c.R,c.l,c.Q,c.k,c.len,c.words,c.R,c.l,c.Q,c.k,(c.X.length:Int),c.T,c.fixed,c.tp,c.sl,c.ns,(lF c r m).L,(lF c r m).p,(lF c r m).q,(lF c r m).st,(lF c r m).sl,(lF c r m).sx,(lF c r m).kp,(lF c r m).ax,(lF c r m).th,(lF c r m).ls,(lF c r m).n0,(lF c r m).n1,(lF c r m).n2,(lF c r m).n3,(lF c r m).pk,a,(m:Int),x0,x1,x2,x3,x4,x5,x6,x7,x8)) (by omega)
  (fun i hi=>by
   obtain⟨s1,s2⟩:=ae3 h wT (t:=r.p) hst wst i;simp only[qj];rw[zB (by omega),zC];show((nV c.R c.l c.Q c.k (c.X.length:Int) c.T (zH zI (r.p+(i:Int))) (aA0 c r.p r.st i)).bind _)=_;rw[bm (n:=r.p+(i:Int)) (by omega),az6 h wT (by omega) s1 s2];simp only[zG];show some (Sum.inl (zH zI ((i:Int)+1),_,_,_,_,_,_,_,_,_,_,_,_,_,_,_,_,_,_,_,_,_,_,_,_,_,_,_,_,_,zH zI (r.n0+(i:Int)+1),_))=_;rw[bm (n:=(i:Int)+1) (by omega),bm (n:=r.n0+(i:Int)+1) (by omega)];have e1:(i:Int)+1=((i+1:Nat):Int):=by omega
   have e2:r.n0+(i:Int)+1=r.n0+((i+1:Nat):Int):=by omega
   rw[e1,e2]
   rfl)
  (by
   simp only[qj]
   rw[zA (by omega),zD])
 rw[←key];show bw _ _ _=bw _ _ ((0:Int),_,_,_,_,_,_,_,_,_,_,_,_,_,_,_,_,_,_,_,_,_,_,_,_,_,_,_,_,_,r.n0+((0:Nat):Int),_);rw[show r.n0+((0:Nat):Int)=r.n0 by omega];rfl
theorem bQ2 {l:List (Int×List Int)}{sx:Int}{k:Nat}{t:Int}{x:List Int}(hl:l.length≤1048576)(hk:k<l.length)(ht:0≤t∧t≤65535)(hx:(x.length:Int)=sx)(hf:l[k].1<0):tt l sx (k:Int) t x=some (l.set k (t,x),sx,0):=by
 unfold tt;rw[zA (by omega),zD,zA (by omega),zD,zA (by omega),zD,zA (by omega),zD,zA (by omega),zD,cq hk];simp only[zG];rw[zA (by omega),zD,bf4 hl hk];rfl
theorem bn4 {l:List (Int×List Int)}{sx:Int}{k:Nat}(hk:k<l.length)(hf: ¬l[k].1<0):qB l sx (k:Int)=some (l[k].1,l[k].2,0):=by
 unfold qB;rw[zA (by omega),zD,zA (by omega),zD,cq hk];simp only[zG];rw[zA hf,zD]
theorem ca0 {l:List (Int×List Int)}{sx:Int}{k:Nat}(hl:l.length≤1048576)(hk:k<l.length)(hf: ¬l[k].1<0):vl l sx (k:Int)=some (l.set k (-1,[]),sx,0):=by
 unfold vl;rw[zA (by omega),zD,zA (by omega),zD,cq hk];simp only[zG];rw[zA hf,zD,bf4 hl hk];rfl
theorem cn1 (h:c.Ok)(wT:ci c.T)(hm:c.mode≠3){s:Dy}(hi:Inv c s)(H:RelD c s r)(S:Slo c s.W r){B:Int}(hc:Cnt B s)(hB:B≤2305843009213693952)(a n:Int):
  ∃r',qN c.mode c.X c.T c.R c.l c.Q c.k c.len c.words c.R c.l c.Q c.k (c.X.length:Int) c.T c.fixed c.tp c.sl c.ns r.L r.p r.q r.st r.sl r.sx r.kp r.ax r.th r.ls r.n0 r.n1 r.n2 r.n3 r.pk a n=some (encR c r' (doF c a n s).1)∧RelD c (doF c a n s).2 r'∧Slo c (doF c a n s).2.W r':=by
 have nm:=h.num;have hW:=hi.w;have hL:=hi.L;have hp:=hi.p;have hq:=hi.q;have hpk:=hi.pk;have hns:=h.ns;have hcr:=H.cnt hc;have hcr':aA9 4611686018427387904 r:=by unfold aA9 at*;omega
 obtain⟨g1,g2,g3,g4⟩:=ac9 h hi;obtain⟨k1,k2,k3,k4,k5,k6⟩:=H.has.lens h wT;have htp:=nm.tp;rw[zF hm]at htp;have hsl0:0≤c.sl:=by rw[nm.sl];have:=nm.R;split<;>omega
 have hlen:(vN c s.W).length≤1048576:=by rw[ut];omega
 have htm:=bS6 hi.tag;have hinv:=cd5 h hm hi a n;have Hs:=H.has;obtain⟨⟨z1,z2⟩,hR,hQ,z3,z4,z5⟩:=h.lens;have eL:=H.L;have ep:=H.p;have eq':=H.q;have epk:=H.pk;unfold qN;rw[zA hm,zD]
 have hspot:kf c.mode c.X c.T c.R c.l c.Q c.k c.len c.words c.R c.l c.Q c.k (c.X.length:Int) c.T c.fixed c.tp c.sl c.ns r.L r.p r.q r.st r.sl r.sx r.kp r.ax r.th r.ls r.n0 r.n1 r.n2 r.n3 r.pk=some (r.p,r.q,vN c s.W):=by
  unfold kf;rw[zB hm,zC,bf3 S h];rfl
 have hlive:=ay7 h hi S;rw[hspot];simp only[zG];rw[eL,ep,eq',cx4 hL hp hq hlen htm];simp only[zG];rw[cx5 hL hp hq (by omega) hlen htm];simp only[zG];have same: ∃r',some (c.mode,c.X,c.T,c.R,c.l,c.Q,c.k,c.len,c.words,c.R,c.l,c.Q,c.k,(c.X.length:Int),c.T,c.fixed,c.tp,c.sl,c.ns,r.L,r.p,r.q,r.st,r.sl,r.sx,r.kp,r.ax,r.th,r.ls,r.n0,r.n1,r.n2,r.n3,r.pk,(doF c a n s).1)=some (encR c r' (doF c a n s).1)∧RelD c s r'∧Slo c s.W r':=⟨r,rfl,H,S⟩
 rw[eL,ep,eq']at same;rw[eL,ep,eq']at hlive;unfold bn1;generalize hdo:doF c a n s=d at hinv same⊢;unfold doF at hdo;by_cases h1:jW a n=false∨7<a
 ·rw[zE h1]at hdo;subst hdo;rw[zE h1,zB (by simp),zC];exact same
 rw[zF h1]at hdo⊢;obtain⟨h2,hk⟩:=tf h1;rw[ut,Int.toNat_of_nonneg hns.1];by_cases h4:(2≤a∧a≤4)∧c.ns≤n
 ·rw[zE h4]at hdo;subst hdo;rw[zE h4,zB (by simp),zC];exact same
 rw[zF h4]at hdo⊢
 have slot:(2≤a∧a≤4)→n=((n.toNat:Nat):Int)∧n.toNat<c.ns.toNat∧rg (vN c s.W) n=ib c s.W n.toNat-1:=fun hs=>by
  have hn:=pT h2 ⟨by omega,hs.2⟩
  have hlt:n.toNat<c.ns.toNat:=by
   have: ¬c.ns≤n:=fun h7=>h4 ⟨hs,h7⟩
   omega
  exact⟨by omega,hlt,cg2 hn.1 hlt⟩
 have hsz:=S.len
 have fin: ∀(r1:RS) (s':Dy) (tp:Int),Inv c s'→Slo c s'.W r1→0≤tp→max s.pk (max s.lv s'.lv+tp)=s'.pk→r1.L=s'.L→r1.n0=s'.c0→r1.n1=s'.c1→r1.n2=s'.c2→r1.n3=s'.c3→r1.ls=s'.z→Has c s'.W r1.st r1.ax r1.th→r1.pk=s.pk→tp≤1000000→
   ∃r',((ga c.mode c.X c.T c.R c.l c.Q c.k c.len c.words c.R c.l c.Q c.k (c.X.length:Int) c.T c.fixed c.tp c.sl c.ns (qu r1 s'.p s'.q r1.pk).L (qu r1 s'.p s'.q r1.pk).p (qu r1 s'.p s'.q r1.pk).q (qu r1 s'.p s'.q r1.pk).st (qu r1 s'.p s'.q r1.pk).sl (qu r1 s'.p s'.q r1.pk).sx (qu r1 s'.p s'.q r1.pk).kp (qu r1 s'.p s'.q r1.pk).ax (qu r1 s'.p s'.q r1.pk).th (qu r1 s'.p s'.q r1.pk).ls (qu r1 s'.p s'.q r1.pk).n0 (qu r1 s'.p s'.q r1.pk).n1 (qu r1 s'.p s'.q r1.pk).n2 (qu r1 s'.p s'.q r1.pk).n3 (qu r1 s'.p s'.q r1.pk).pk).bind fun r100=>some (c.mode,c.X,c.T,c.R,c.l,c.Q,c.k,c.len,c.words,c.R,c.l,c.Q,c.k,(c.X.length:Int),c.T,c.fixed,c.tp,c.sl,c.ns,(qu r1 s'.p s'.q (max r1.pk (zH zI ((max s.lv r100)+tp)))).L,(qu r1 s'.p s'.q (max r1.pk (zH zI ((max s.lv r100)+tp)))).p,(qu r1 s'.p s'.q (max r1.pk (zH zI ((max s.lv r100)+tp)))).q,(qu r1 s'.p s'.q (max r1.pk (zH zI ((max s.lv r100)+tp)))).st,(qu r1 s'.p s'.q (max r1.pk (zH zI ((max s.lv r100)+tp)))).sl,(qu r1 s'.p s'.q (max r1.pk (zH zI ((max s.lv r100)+tp)))).sx,(qu r1 s'.p s'.q (max r1.pk (zH zI ((max s.lv r100)+tp)))).kp,(qu r1 s'.p s'.q (max r1.pk (zH zI ((max s.lv r100)+tp)))).ax,(qu r1 s'.p s'.q (max r1.pk (zH zI ((max s.lv r100)+tp)))).th,(qu r1 s'.p s'.q (max r1.pk (zH zI ((max s.lv r100)+tp)))).ls,(qu r1 s'.p s'.q (max r1.pk (zH zI ((max s.lv r100)+tp)))).n0,(qu r1 s'.p s'.q (max r1.pk (zH zI ((max s.lv r100)+tp)))).n1,(qu r1 s'.p s'.q (max r1.pk (zH zI ((max s.lv r100)+tp)))).n2,(qu r1 s'.p s'.q (max r1.pk (zH zI ((max s.lv r100)+tp)))).n3,(qu r1 s'.p s'.q (max r1.pk (zH zI ((max s.lv r100)+tp)))).pk,(0:Int)))=some (encR c r' 0)∧RelD c s' r'∧Slo c s'.W r':=fun r1 s' tp hi' S' ht hpk' a1 a2 a3 a4 a5 a6 a7 a8 a9=>by
  have S2:Slo c s'.W (qu r1 s'.p s'.q r1.pk):=⟨S'.kp,S'.sx,S'.len,S'.slot⟩;have hl:=ay7 h hi' S2;have hin:=ac9 h hi';rw[hl];simp only[zG];rw[bm (by omega),a8,hpk'];exact⟨qu r1 s'.p s'.q s'.pk,rfl,⟨a1,rfl,rfl,a2,a3,a4,a5,a6,rfl,a7⟩,⟨S'.kp,S'.sx,S'.len,S'.slot⟩⟩
 rcases hk with rfl|rfl|rfl|rfl|rfl|rfl|rfl
 ·have hn:=pT h2 (by omega);simp only[aB,reduceIte]at hdo⊢;by_cases h5:s.L-s.p<n
  ·rw[zE h5]at hdo;subst hdo;rw[zE h5,zB (by simp),zC];exact same
  rw[zF h5]at hdo;subst hdo;rw[zF h5,zA (by simp),zD,h.rof];simp only[zG];rw[hlive];simp only[zG];simp only[decide_true,decide_false,zC,zD];have hadv:=Hs.advW h wT s.p n.toNat;have hl:=cp6 (r:=r) h wT k1 k4 (m:=n.toNat) (a:=1) (n:=n) (x0:=vN c s.W) (x1:=s.L) (x2:=s.p) (x3:=s.q) (x4:=s.L) (x5:=s.p+n) (x6:=s.q) (x7:=vN c s.W) (x8:=0+n) (by omega) (by rw[ep];omega) hcr' (by omega);rw[eL,ep,eq']at hl;rw[hl];simp only[zG];have:=fin (lF c r n.toNat) _ 0 hinv (S.kept (r':=lF c r n.toNat) (bD6 h hW s.p n.toNat) rfl rfl rfl) (by omega) (by simp only;omega) eL (by show r.n0+((n.toNat:Nat):Int)=s.c0+n;rw[H.n0];omega) H.n1 H.n2 H.n3 H.ls (by show Has c (advW c s.W s.p n.toNat) (aA0 c r.p r.st n.toNat) r.ax r.th;rw[ep];exact hadv) epk (by omega);exact this
 ·obtain⟨en,hlt,ht⟩:=slot (by omega);simp only[aB,reduceIte]at hdo⊢;rw[ht];have hks:n.toNat<r.sl.length:=by omega
  have hsl:=S.slot n.toNat hks;have hst:=yZ S hks;by_cases h5:0≤ib c s.W n.toNat-1
  ·rw[zE h5]at hdo;subst hdo;rw[zE h5,zB (by simp),zC];exact same
  rw[zF h5]at hdo;subst hdo;rw[zF h5,zA (by simp),zD,h.rof];simp only[zG];rw[hlive];simp only[zG,decide_true,decide_false,zC,zD];have hS:=bQ2 (l:=r.sl) (sx:=r.sx) (k:=n.toNat) (t:=s.p) (x:=r.st) (by omega) hks (by omega) (by rw[S.sx,k1]) (by omega);rw[←en]at hS;rw[hS];simp only[zG]
  have eW:zH zJ (zH zI (s.p+1))::seg s.W (c.off 1) c.X.length=(s.p+1)::r.st:=by
   rw[bm (by omega),bi1 ⟨by omega,by omega⟩,Hs.s]
  have hsp:=uo h hm hlt;have hx1:((s.p+1)::r.st).length=c.X.length+1:=by rw[List.length_cons,k1]
  have wx1:ci ((s.p+1)::r.st):=fun v hv=>by
   rcases List.mem_cons.1 hv with rfl|hv
   ·unfold sX;omega
   ·exact k4 v hv
  rw[eW]at hinv⊢;exact fin {r with L:=s.L,sl:=r.sl.set n.toNat (s.p,r.st)} _ 0 hinv (S.put h hm hW hlt k1 (.inl ⟨hp.1,rfl⟩) rfl rfl rfl) (by omega) (by simp only;omega) rfl H.n0 H.n1 H.n2 H.n3 H.ls (Hs.put8 h (by unfold sp;omega) (by rw[hx1];omega) wx1) epk (by omega)
 ·obtain⟨en,hlt,ht⟩:=slot (by omega);simp only[aB,reduceIte]at hdo⊢;rw[ht];have hks:n.toNat<r.sl.length:=by omega
  have hsl:=S.slot n.toNat hks;have hst:=yZ S hks;by_cases h5:ib c s.W n.toNat-1<0
  ·rw[zE h5]at hdo;subst hdo;rw[zE h5,zB (by simp),zC];exact same
  rw[zF h5]at hdo;subst hdo;rw[zF h5,zA (by simp),zD,h.rof];simp only[zG];rw[hlive];simp only[zG,decide_true,decide_false,zC,zD];have hS:=bn4 (l:=r.sl) (sx:=r.sx) (k:=n.toNat) hks (by omega);rw[←en]at hS;rw[hS];simp only[zG]
  have hx:r.sl[n.toNat].2=seg s.W (sp c n.toNat+1) c.X.length:=by
   rcases hsl.2 with⟨_,q⟩|⟨q,_⟩
   ·exact q
   ·omega
  have hsp:=uo h hm hlt;have htk:=hW.tk h;have hl2:(seg s.W (sp c n.toNat+1) c.X.length).length=c.X.length:=dz (by omega)
  exact fin {r with L:=s.L,st:=r.sl[n.toNat].2} _ 0 hinv (S.kept (fc.put h (fc.refl s.W) hW (i:=1) (by omega) (by rw[hl2];exact Nat.le_refl _)) rfl rfl rfl) (by omega) (by simp only;omega) rfl H.n0 H.n1 H.n2 H.n3 H.ls (by
   show Has c (put s.W (c.off 1) (seg s.W (sp c n.toNat+1) c.X.length)) r.sl[n.toNat].2 r.ax r.th;rw[hx]
   exact Hs.put1 h hl2 (Hs.w.seg _ _)) epk (by omega)
 ·obtain⟨en,hlt,ht⟩:=slot (by omega);simp only[aB,reduceIte]at hdo⊢;rw[ht];have hks:n.toNat<r.sl.length:=by omega
  have hsl:=S.slot n.toNat hks;have hst:=yZ S hks;by_cases h5:ib c s.W n.toNat-1<0
  ·rw[zE h5]at hdo;subst hdo;rw[zE h5,zB (by simp),zC];exact same
  rw[zF h5]at hdo;subst hdo;rw[zF h5,zA (by simp),zD,h.rof];simp only[zG];rw[hlive];simp only[zG,decide_true,decide_false,zC,zD];have hS:=ca0 (l:=r.sl) (sx:=r.sx) (k:=n.toNat) (by omega) hks (by omega);rw[←en]at hS;rw[hS];simp only[zG];have hsp:=uo h hm hlt;have eW:cg (c.X.length+1)=(-1+1)::cg c.X.length:=rfl;have hlh:=bN2 h hi (bT4 hlt (by omega))
  exact fin {r with L:=s.L,sl:=r.sl.set n.toNat (-1,[])} _ 0 hinv (by
   show Slo c (put s.W (sp c n.toNat) (cg (c.X.length+1))) _;rw[eW]
   exact S.put h hm hW hlt (da _) (.inr ⟨rfl,rfl⟩) rfl rfl rfl) (by omega) (by simp only;omega) rfl H.n0 H.n1 H.n2 H.n3 H.ls (Hs.put8 h (by unfold sp;omega) (by rw[da];omega) (ci.rep _)) epk (by omega)
 ·simp only[aB,reduceIte]at hdo⊢;by_cases h5:s.q≠ -1
  ·rw[zE h5]at hdo;subst hdo;rw[zE h5,zB (by simp),zC];exact same
  rw[zF h5]at hdo⊢;by_cases h6:s.p≠s.L
  ·rw[zE h6]at hdo;subst hdo;rw[zE h6,zB (by simp),zC];exact same
  rw[zF h6]at hdo;subst hdo;rw[zF h6,zA (by simp),zD,h.rof];simp only[zG];rw[hlive];simp only[zG,decide_true,decide_false,zC,zD];have he:mA c.mode c.X c.T c.R c.l c.Q c.k c.len c.words c.R c.l c.Q c.k (c.X.length:Int) c.T c.fixed c.tp c.sl c.ns s.L s.p s.q r.st r.sl r.sx r.kp r.ax r.th r.ls r.n0 r.n1 r.n2 r.n3 r.pk r.st=_:=aM3 (r:={r with L:=s.L,p:=s.p,q:=s.q}) h wT k1 k4 k3 k6 hcr' (by omega);rw[he];simp only[zG];have hE:=Hs.endd h wT k1 k4;have eW:seg s.W (c.off 1) c.X.length=r.st:=Hs.s;rw[eW]at hinv⊢;exact fin {uI c r.st r with L:=s.L} _ (c.fk.n:Int) hinv (S.kept (aU7 h hW k1) rfl rfl rfl) (by omega) (by simp only;omega) rfl H.n0 H.n1 (by show r.n2+1=s.c2+1;rw[H.n2]) (by show r.n3+1=s.c3+1;rw[H.n3]) (Hs.lossV h wT r.st).symm hE epk (by have:=h.pk.n;omega)
 ·simp only[aB,reduceIte]at hdo⊢;by_cases h5:s.q≠ -1
  ·rw[zE h5]at hdo;subst hdo;rw[zE h5,zB (by simp),zC];exact same
  rw[zF h5]at hdo⊢;by_cases h6:s.p≠s.L-1
  ·rw[zE h6]at hdo;subst hdo;rw[zE h6,zB (by simp),zC];exact same
  rw[zF h6]at hdo;subst hdo;rw[zF h6,zA (by simp),zD,h.rof];simp only[zG];rw[hlive];simp only[zG,decide_true,decide_false,zC,zD];obtain⟨v1,v2⟩:=ur h wT (t:=s.p) k1 k4;rw[az6 h wT (by omega) k1 k4];simp only[zG];generalize hx1:uq c s.p r.st=x1 at*;obtain⟨q1,q2⟩:=xL h wT v1 v2;have he:mA c.mode c.X c.T c.R c.l c.Q c.k c.len c.words c.R c.l c.Q c.k (c.X.length:Int) c.T c.fixed c.tp c.sl c.ns s.L s.p s.q r.st r.sl r.sx r.kp r.ax r.th r.ls r.n0 r.n1 r.n2 r.n3 r.pk x1=some (c.mode,c.X,c.T,c.R,c.l,c.Q,c.k,c.len,c.words,c.R,c.l,c.Q,c.k,(c.X.length:Int),c.T,c.fixed,c.tp,c.sl,c.ns,s.L,s.p,s.q,r.st,r.sl,r.sx,r.kp,(uI c x1 r).ax,(uI c x1 r).ls,(uI c x1 r).n0,(uI c x1 r).n1,(uI c x1 r).n2,(uI c x1 r).n3,r.pk,(uI c x1 r).th):=aM3 (r:={r with L:=s.L,p:=s.p,q:=s.q}) h wT v1 v2 k3 k6 hcr' (by omega);rw[he];simp only[zG];have ht:lb c.mode c.X c.T c.R c.l c.Q c.k c.len c.words c.R c.l c.Q c.k (c.X.length:Int) c.T c.fixed c.tp c.sl c.ns s.L s.p s.q r.st r.sl r.sx r.kp (uI c x1 r).ax (uI c x1 r).th (uI c x1 r).ls (uI c x1 r).n0 (uI c x1 r).n1 (uI c x1 r).n2 (uI c x1 r).n3 r.pk s.p r.st=_:=az7 (r:={uI c x1 r with L:=s.L,p:=s.p,q:=s.q}) (B:=4611686018427387904) h wT (by omega) k1 k4 (by show((w7 c x1).take c.X.length).length=_;rw[List.length_take];omega) (q2.take _) (by show(tY c.X.length r.th (w7 c x1)).length=_;rw[qr];exact k3) (cp4 _ _ _) (by unfold aA9 Cnt at*;show(0≤r.n0∧r.n0≤4611686018427387904)∧(0≤r.n1∧r.n1≤4611686018427387904)∧(0≤r.n2+1∧r.n2+1≤4611686018427387904)∧0≤r.n3+1∧r.n3+1≤4611686018427387904;omega) (by omega)
  have hE:=Hs.both h wT s.p;rw[hx1]at hE
  have eZ:rg (lossR c (put s.W (c.off 2) (stepR c s.W s.p).1) ((stepR c s.W s.p).1.take c.X.length)).1 0=lossV c x1:=by
   rw[(Hs.taped h wT s.p).lossV h wT,Hs.stepR h,(qT h wT (t:=s.p) k1 k4).2.2.2.2,hx1]
  rw[eZ]at hinv⊢;unfold Cnt at hc;rw[ht];simp only[zG];show∃r',((ga _ _ _ _ _ _ _ _ _ _ _ _ _ _ _ _ _ _ _ _ _ _ _ _ _ _ _ _ _ _ (zH zI (r.n1+1)) _ _ _).bind fun r100=>some (_,_,_,_,_,_,_,_,_,_,_,_,_,_,_,_,_,_,_,_,_,_,_,_,_,_,_,_,_,_,(zH zI (r.n1+1)),_,_,max r.pk (zH zI ((max s.lv r100)+(zH zI ((c.fl.n:Int)+(c.fk.n:Int))))),0))=_∧_
  have hfn:=h.pl.n;have hfk:=h.pk.n;rw[bm (n:=r.n1+1) (by have:=H.n1;omega),bm (n:=(c.fl.n:Int)+(c.fk.n:Int)) (by omega)];exact fin {bt1 c s.p r.st (uI c x1 r)with L:=s.L,n1:=r.n1+1} _ ((c.fl.n:Int)+(c.fk.n:Int)) hinv (S.kept (bd0 h hW s.p).1 rfl rfl rfl) (by omega) (by simp only;omega) rfl H.n0 (by show r.n1+1=s.c1+1;rw[H.n1]) (by show r.n2+1=s.c2+1;rw[H.n2]) (by show r.n3+1+1=s.c3+1+1;rw[H.n3]) rfl hE epk (by omega)
 ·simp only[aB,reduceIte]at hdo⊢;by_cases h5:s.q≤0
  ·rw[zE h5]at hdo;subst hdo;rw[zE h5,zB (by simp),zC];exact same
  rw[zF h5]at hdo⊢;by_cases h6:s.p≠s.q-1
  ·rw[zE h6]at hdo;subst hdo;rw[zE h6,zB (by simp),zC];exact same
  rw[zF h6]at hdo;subst hdo;rw[zF h6,zA (by simp),zD,h.rof];simp only[zG];rw[hlive];simp only[zG,decide_true,decide_false,zC,zD];have ht:lb c.mode c.X c.T c.R c.l c.Q c.k c.len c.words c.R c.l c.Q c.k (c.X.length:Int) c.T c.fixed c.tp c.sl c.ns s.L s.p s.q r.st r.sl r.sx r.kp r.ax r.th r.ls r.n0 r.n1 r.n2 r.n3 r.pk s.p r.st=_:=az7 (r:={r with L:=s.L,p:=s.p,q:=s.q}) h wT (by omega) k1 k4 k2 k5 k3 k6 hcr' (by omega);have hE:=Hs.rev h wT s.p;unfold Cnt at hc;rw[ht];simp only[zG];have hfn:=h.pl.n;rw[bm (n:=r.n1+1) (by have:=H.n1;omega)];exact fin {bt1 c s.p r.st r with L:=s.L,n1:=r.n1+1} _ (c.fl.n:Int) hinv (S.kept (bD7 h hW s.p).1 rfl rfl rfl) (by omega) (by simp only;omega) rfl H.n0 (by show r.n1+1=s.c1+1;rw[H.n1]) H.n2 (by show r.n3+1=s.c3+1;rw[H.n3]) H.ls hE epk (by omega)
end
end
section
open Bool renaming not_true → aB
open List renaming length_take → bB, take_succ_eq_append_getElem → bD
open Nat renaming le_refl → aD
section
variable {c:Cx} {r:RS}
structure Bas (c:Cx)(s:Dy)(r:RS):Prop where
 sl:r.sl=[]
 len:(r.kp.length:Int)=kw s
 kept: ∀i,∀hi:i<r.kp.length,r.kp[i].length=c.X.length∧ci r.kp[i]∧seg s.W (lM c i) c.sl.toNat=(mX c (i:Int) r.kp[i]).2.1++(mX c (i:Int) r.kp[i]).1
theorem bM5 {s:Dy}(hi:InvB c s):0≤kw s∧kw s≤s.L:=by
 have:=hi.p;have:=hi.q;unfold kw;split<;>omega
theorem aL3 (h:c.Ok)(hm:c.mode=3){s:Dy}(hi:InvB c s)(H:Bas c s r):ga c.mode c.X c.T c.R c.l c.Q c.k c.len c.words c.R c.l c.Q c.k (c.X.length:Int) c.T c.fixed c.tp c.sl c.ns r.L r.p r.q r.st r.sl r.sx r.kp r.ax r.th r.ls r.n0 r.n1 r.n2 r.n3 r.pk=some s.lv:=by
 obtain⟨b1,b2,b3,b4,b5,b6,b7⟩:=bd3 h hm hi;have hh:=bM5 hi;have hf:=wM h;have hn:=h.ns;have nm:=h.num;have hsl0:0≤c.sl:=by rw[nm.sl];have:=nm.R;split<;>omega
 have hlv:=hi.lv;have h0:0≤c.sl*kw s:=Int.mul_nonneg hsl0 hh.1;have e:(((r.sl.countP fun x=>decide (0≤x.1):Nat):Int)+r.kp.length)=kw s:=by rw[H.sl,H.len];simp
 have hkl:r.kp.length≤65535:=by have:=H.len;have:=hi.L;have:=nm.len;omega
 rw[bf5 h (by rw[H.sl];simp) (by omega) (by rw[e];omega) (by omega),e,hlv]
theorem bF5 (h:c.Ok)(e:jm c.mode c.X.length c.T.length c.R c.l c.Q c.k c.len c.words=(c.fixed,c.tp,c.sl,c.ns,0)):pf c.mode c.X c.T c.R c.l c.Q c.k c.len c.words=some (0,c.P):=by
 obtain⟨p,p1,p2,_⟩:=cm5 (a0:=c.mode) (a1:=c.X) (a2:=c.T) (a3:=c.R) (a5:=c.Q) (a7:=c.len) (a8:=c.words) h.hl h.hk;rw[be2 h e]at p1;injection p1 with p1
 rw[p2,←p1]
theorem ca6 (h:c.Ok)(wT:ci c.T){i:Nat}(hi:i<r.kp.length)(hi2:i<65536)(hx:r.kp[i].length=c.X.length)(wx:ci r.kp[i]):vt c.mode c.X c.T c.R c.l c.Q c.k c.len c.words c.R c.l c.Q c.k (c.X.length:Int) c.T c.fixed c.tp c.sl c.ns r.L r.p r.q r.st r.sl r.sx r.kp r.ax r.th r.ls r.n0 r.n1 r.n2 r.n3 r.pk (i:Int)=some ((mX c (i:Int) r.kp[i]).2.1++(mX c (i:Int) r.kp[i]).1):=by
 obtain⟨⟨l1,l2⟩,hR,hQ,x1,x2,t2⟩:=h.lens;obtain⟨f1,f2,f3,f4,f5⟩:=qT h wT (t:=(i:Int)) hx wx;have hb:=tZ (c:=c) (i:Int) hx;have hu:=h.pl.ulen;have hg:=h.pl.goodU;have wb:=am7 (t:=(i:Int)) wx wT;unfold vt mM;rw[sH h.pl];simp only[zG];rw[cq hi];simp only[zG];rw[pS (by omega) (by omega) (by simp)];simp only[zG];have e:r.kp[i]++(c.T++[IntKind.u64.wrap (i:Int)])=vC c (i:Int) r.kp[i]:=rfl;rw[e,ui ⟨by omega,by omega⟩ (by omega)];simp only[zG];have hfl:(fill c.R (vC c (i:Int) r.kp[i])).length=c.R.toNat:=gp (by omega);have e1:mX c (i:Int) r.kp[i]=uv mI c.fl.unroll (fill c.R (vC c (i:Int) r.kp[i]),cg c.fl.n,0):=rfl;have wr0:ci (fill c.R (vC c (i:Int) r.kp[i])):=wb.fill;rw[e1]at f1 f2 f3 f4⊢;generalize fill c.R (vC c (i:Int) r.kp[i])=r0 at*
 have key:=fh (f:=qG (c.fl.unroll,0)) (n:=c.fl.unroll.length) (fun k=>((uv mI (c.fl.unroll.take k) (r0,cg c.fl.n,0)).2.1.take k,(uv mI (c.fl.unroll.take k) (r0,cg c.fl.n,0)).1)) (c:=((uv mI c.fl.unroll (r0,cg c.fl.n,0)).2.1,(uv mI c.fl.unroll (r0,cg c.fl.n,0)).1)) (by omega)
  (fun k hk=>by
   rw[bh3 hk];obtain⟨e3,e4,e5⟩:=aE6 (c.fl.unroll.take k) (r0,cg c.fl.n,0);obtain⟨e6,e7⟩:=bX5 (c.fl.unroll.take k) (r0,cg c.fl.n,0) wr0 (ci.rep _) (fun o ho=>(hg o (List.mem_of_mem_take ho)).2);rw[bB,Nat.min_eq_left (by omega)]at e5;generalize uv mI (c.fl.unroll.take k) (r0,cg c.fl.n,0)=s at*;have hgi:=hg _ (List.getElem_mem hk)
   have hcut:au6 c.fl.unroll (k:Int) ((k+1:Nat):Int)=[c.fl.unroll[k]]:=by
    unfold au6;simp only[Int.toNat_natCast];rw[bD hk,List.drop_left' (by rw[bB];omega)]
   generalize hx:c.fl.unroll[k]=x at*;obtain⟨kd,ka,kb,q1,q2,q3,g1,g2,g3⟩:=vH hgi.1;have e3:s.1.length=r0.length:=e3;have e4:s.2.1.length=(cg c.fl.n).length:=e4;rw[da]at e4;have e5:s.2.2=k:=by rw[e5];simp
   unfold qG;simp only;rw[zB (by omega),zC,cq hk,hx];simp only[zG];rw[q1,ce (by omega:kd<s.1.length)];simp only[zG];rw[ec (by omega:kd<s.1.length)];simp only[zG];rw[df (by rw[bB];omega) (by omega),bm (n:=(k:Int)+1) (by omega),show(k:Int)+1=((k+1:Nat):Int)by omega,gm (by omega),du,hcut];rw[ao7 (l:=[x]) (r:=s.1) (by simp) (by omega) (fun o ho=>by rw[List.mem_singleton.1 ho,e3,hfl];exact hgi) e6 0];simp only[zG]
   have e8:(mI x s).2.1.take (k+1)=s.2.1.take k++[rg s.1 (kd:Int)]:=by
    unfold mI;simp only;rw[e5,q1,bD (by rw[List.length_set];omega),List.getElem_set_self,List.take_set_of_le (aD _)]
   rw[e8];unfold mI;rw[q1];show some (Sum.inl (_,_,(uv ae5 [x] (s.1,0)).1))=_
   have e9:(uv ae5 [x] (s.1,0)).1=s.1.set kd (app x (rg s.1 x.2.2.1) (rg s.1 x.2.2.2.1)):=by
    show s.1.set x.2.1.toNat _=_;rw[q1];rfl
   rw[e9]
   rfl)
  (by
   unfold qG;rw[zA (by simp),zD,List.take_length,hu.1];simp only
   rw[List.take_of_length_le (by omega)])
 rw[show((0:Int),([]:List Int),r0)=((0:Int),(uv mI (c.fl.unroll.take 0) (r0,cg c.fl.n,0)).2.1.take 0,(uv mI (c.fl.unroll.take 0) (r0,cg c.fl.n,0)).1)from rfl,key];simp only[zG];rw[pS (by omega) (by omega) (by simp)];simp only[zG,List.append_nil]
theorem bQ6 (h:c.Ok)(wT:ci c.T)(hm:c.mode=3){s:Dy}(hi:InvB c s)(H:Bas c s r):qk c.mode c.X c.T c.R c.l c.Q c.k c.len c.words c.R c.l c.Q c.k (c.X.length:Int) c.T c.fixed c.tp c.sl c.ns r.L r.p r.q r.st r.sl r.sx r.kp r.ax r.th r.ls r.n0 r.n1 r.n2 r.n3 r.pk s.W (c.off 8:Int)=some true:=by
 obtain⟨b1,b2,b3,b4,b5,b6,b7⟩:=bd3 h hm hi;have hh:=bM5 hi;have htk:=hi.w.tk h;have hlen:=h.num.len;have hL:=hi.L;unfold qk;have hkl:r.kp.length≤c.ns.toNat:=by have:=H.len;omega
 have key:=pQ (f:=pK c.mode c.X c.T c.R c.l c.Q c.k c.len c.words c.R c.l c.Q c.k (c.X.length:Int) c.T c.fixed c.tp c.sl c.ns r.L r.p r.q r.st r.sl r.sx r.kp r.ax r.th r.ls r.n0 r.n1 r.n2 r.n3 r.pk s.W (c.off 8:Int)) (n:=r.kp.length) (c:= .inr ()) (by omega)
  (fun i hik=>by
   obtain⟨k1,k2,k3⟩:=H.kept i hik;obtain⟨s1,s2,s3,s4⟩:=ul h hm (i:=i) (by omega);obtain⟨f1,f2,f3,f4,f5⟩:=qT h wT (t:=(i:Int)) k1 k2;have hl:((mX c (i:Int) r.kp[i]).2.1++(mX c (i:Int) r.kp[i]).1).length=c.sl.toNat:=by rw[List.length_append,f3,f4,s1]
   unfold pK;rw[zB (by omega),zC,ca6 h wT hik (by omega) k1 k2];simp only[zG];have esl:c.sl=((c.sl.toNat:Nat):Int):=by have:=h.num.R;omega
   have e1:(i:Int)*c.sl=((i*c.sl.toNat:Nat):Int):=by rw[Int.natCast_mul,←esl]
   have e2:(c.off 8:Int)+((i*c.sl.toNat:Nat):Int)=(lM c i:Int):=by unfold lM;omega
   have e3:((i*c.sl.toNat:Nat):Int)≤1048576:=by unfold lM at s3;omega
   rw[e1,bm (n:=((i*c.sl.toNat:Nat):Int)) (by omega),e2,bm (n:=(lM c i:Int)) (by omega)];rw[ad9 (by rw[hl];omega) (by omega) (by rw[hl];exact k3)];simp only[zG];rw[aB,zD,bm (by omega)]
   rfl)
  (by
   unfold pK
   rw[zA (by omega),zD])
 rw[key];rfl
theorem bs4 (h:c.Ok)(e:jm c.mode c.X.length c.T.length c.R c.l c.Q c.k c.len c.words=(c.fixed,c.tp,c.sl,c.ns,0)){W:List Int}(H:Has c W r.st r.ax r.th){x:Option Bool}(hx:(cond (decide (c.mode=3))
    ((qk c.mode c.X c.T c.R c.l c.Q c.k c.len c.words c.R c.l c.Q c.k (c.X.length:Int) c.T c.fixed c.tp c.sl c.ns r.L r.p r.q r.st r.sl r.sx r.kp r.ax r.th r.ls r.n0 r.n1 r.n2 r.n3 r.pk W (c.off 8:Int)).bind fun r50=>some r50)
    ((qg r.sl r.sx).bind fun r53=>(gw W (c.off 8:Int) r53).bind fun r54=>some r54))=x):mN c.mode c.X c.T c.R c.l c.Q c.k c.len c.words c.R c.l c.Q c.k (c.X.length:Int) c.T c.fixed c.tp c.sl c.ns r.L r.p r.q r.st r.sl r.sx r.kp r.ax r.th r.ls r.n0 r.n1 r.n2 r.n3 r.pk W=x:=by
 have hl:c.P.length=10:=Cx.P_len;have htk:=H.wd.tk h;have hw:=H.wd;unfold Wd at hw;have hwo:0≤c.words:=by have:=h.off9_le;omega
 unfold mN;rw[bF5 h e];simp only[zG];rw[zA (by omega),zD];have h0:ix 0 c.P.length=some 0:=ce (k:=0) (by omega);have h1:ix 1 c.P.length=some 1:=ce (k:=1) (by omega);have h5:ix 5 c.P.length=some 5:=ce (k:=5) (by omega);have h6:ix 6 c.P.length=some 6:=ce (k:=6) (by omega);have h8:ix 8 c.P.length=some 8:=ce (k:=8) (by omega);have g0:=xP h H.wd (i:=0) (by omega) (aD _) H.t;have g1:=xP h H.wd (i:=1) (by omega) (aD _) H.s;have g5:=xP h H.wd (i:=5) (by omega) (aD _) H.x;have g6:=xP h H.wd (i:=6) (by omega) (aD _) H.a;rw[h0];simp only[zG];rw[Cx.P_get (i:=0) (by omega)];simp only[zG];rw[g0];simp only[zG];rw[aB,zD,h1];simp only[zG];rw[Cx.P_get (i:=1) (by omega)];simp only[zG];rw[g1];simp only[zG];rw[aB,zD,h5];simp only[zG];rw[Cx.P_get (i:=5) (by omega)]
 simp only[zG];rw[g5];simp only[zG];rw[aB,zD,h6];simp only[zG];rw[Cx.P_get (i:=6) (by omega)];simp only[zG];rw[g6];simp only[zG];rw[aB,zD,h8];simp only[zG];rw[Cx.P_get (i:=8) (by omega)];exact hx
theorem cS5 (h:c.Ok)(wT:ci c.T)(hm:c.mode=3)(e:jm c.mode c.X.length c.T.length c.R c.l c.Q c.k c.len c.words=(c.fixed,c.tp,c.sl,c.ns,0)){s:Dy}(hi:InvB c s)(H:Has c s.W r.st r.ax r.th)(S:Bas c s r):mN c.mode c.X c.T c.R c.l c.Q c.k c.len c.words c.R c.l c.Q c.k (c.X.length:Int) c.T c.fixed c.tp c.sl c.ns r.L r.p r.q r.st r.sl r.sx r.kp r.ax r.th r.ls r.n0 r.n1 r.n2 r.n3 r.pk s.W=some true:=by
 refine bs4 h e H ?_;rw[zB hm,zC,bQ6 h wT hm hi S];rfl
theorem cS6 (h:c.Ok)(hm:c.mode≠3)(e:jm c.mode c.X.length c.T.length c.R c.l c.Q c.k c.len c.words=(c.fixed,c.tp,c.sl,c.ns,0)){s:Dy}(hi:Inv c s)(H:Has c s.W r.st r.ax r.th)(S:Slo c s.W r):mN c.mode c.X c.T c.R c.l c.Q c.k c.len c.words c.R c.l c.Q c.k (c.X.length:Int) c.T c.fixed c.tp c.sl c.ns r.L r.p r.q r.st r.sl r.sx r.kp r.ax r.th r.ls r.n0 r.n1 r.n2 r.n3 r.pk s.W=some true:=by
 refine bs4 h e H ?_;have hL:=hi.L;have htk:=hi.w.tk h;rw[zA hm,zD,bQ3 h hm hi.w H.w S (fun k hk=>by have:=hi.tag k hk;omega)];simp only[zG]
 have hlen:c.off 8+c.ns.toNat*(c.X.length+1)≤s.W.length:=by
  rcases Nat.eq_zero_or_pos c.ns.toNat with h0|h0
  ·rw[h0,Nat.zero_mul];have:=cv6 (c:=c) (show 8≤9 by omega);omega
  ·have:=(uo h hm h0).2.1;omega
 have hl:=dz hlen;rw[ad9 (by rw[hl];exact hlen) (by omega) (by rw[hl])];rfl
end
end
section
open Go.IntKind renaming wrap → zH, i64 → zI, u64 → zJ
open Bool renaming not_true → aB, and_self → aD
section
variable {c:Cx} {r:RS}
theorem cI4 (s:Dy):mZ c.fixed c.tp c.sl c.ns c.mode c.R c.Q c.len c.words s.L s.p s.q s.c0 s.c1 s.c2 s.c3 s.z c.X c.T c.l c.k c.P c.tk s.lv s.pk c.words s.W=some (s.p,s.q):=rfl
theorem cI5 (h:c.Ok)(hm:c.mode≠3){s:Dy}(hi:Inv c s):iz c.fixed c.tp c.sl c.ns c.mode c.R c.Q c.len c.words s.L s.p s.q s.c0 s.c1 s.c2 s.c3 s.z c.X c.T c.l c.k c.P c.tk (c.off 8:Int) c.ns (c.X.length:Int) s.lv s.pk c.words s.W=some (s.p,s.q,vN c s.W):=by
 have hL:=hi.L;unfold iz;rw[ch0 h hm hi.w (fun k hk=>by have:=hi.tag k hk;omega)];rfl
theorem aF3 (h:c.Ok)(wT:ci c.T)(hm:c.mode=3)(e:jm c.mode c.X.length c.T.length c.R c.l c.Q c.k c.len c.words=(c.fixed,c.tp,c.sl,c.ns,0)){s:Dy}(hi:InvB c s)(H:RelD c s r)(S:Bas c s r):rL c.mode c.X c.T c.R c.l c.Q c.k c.len c.words c.R c.l c.Q c.k (c.X.length:Int) c.T c.fixed c.tp c.sl c.ns r.L r.p r.q r.st r.sl r.sx r.kp r.ax r.th r.ls r.n0 r.n1 r.n2 r.n3 r.pk c.fixed c.tp c.sl c.ns c.mode c.R c.Q c.len c.words s.L s.p s.q s.c0 s.c1 s.c2 s.c3 s.z c.X c.T c.l c.k c.P c.tk s.lv s.pk c.words s.W=some true:=by
 have hW:=hi.w;have hL:=hi.L;obtain⟨k1,k2,k3,_,_,_⟩:=H.has.lens h wT;have x5:=h.lens
 have hsp:kf c.mode c.X c.T c.R c.l c.Q c.k c.len c.words c.R c.l c.Q c.k (c.X.length:Int) c.T c.fixed c.tp c.sl c.ns r.L r.p r.q r.st r.sl r.sx r.kp r.ax r.th r.ls r.n0 r.n1 r.n2 r.n3 r.pk=some (r.p,r.q,[]):=by
  unfold kf;rw[zA (by simp[hm]),zD]
  skip
 have hlv:=aL3 h hm hi S
 have hsc:kI c.mode c.X c.T c.R c.l c.Q c.k c.len c.words c.R c.l c.Q c.k (c.X.length:Int) c.T c.fixed c.tp c.sl c.ns r.L r.p r.q r.st r.sl r.sx r.kp r.ax r.th r.ls r.n0 r.n1 r.n2 r.n3 r.pk=some (zH zJ c.mode,zH zJ r.L,zH zJ r.p,zH zJ (zH zI (r.q+1)),zH zJ c.ns,zH zJ r.n0,zH zJ r.n1,zH zJ r.n2,zH zJ r.n3,zH zJ s.lv,zH zJ r.pk,r.ls):=by
  unfold kI;rw[hlv];rfl
 have hrs:lz c.mode c.X c.T c.R c.l c.Q c.k c.len c.words c.R c.l c.Q c.k (c.X.length:Int) c.T c.fixed c.tp c.sl c.ns r.L r.p r.q r.st r.sl r.sx r.kp r.ax r.th r.ls r.n0 r.n1 r.n2 r.n3 r.pk=some (if r.q≠0 then(0,[],[],19)else(r.ls,r.ax,r.th,0)):=by
  unfold lz;by_cases hq:r.q≠0
  ·rw[zB hq,zC,zE hq]
  ·rw[zA hq,zD,zF hq]
 have hsh:=cS5 h wT hm e hi H.has S;rw[H.L,H.p,H.q,H.n0,H.n1,H.n2,H.n3,H.ls,H.pk]at hsp hlv hsc hrs hsh⊢;have dsp:=cI4 (c:=c) s;unfold rL;rw[dsp,hsp];simp only[zG];rw[cy4 (by simp)];simp only[zG];rw[aB,zD,show qL c.fixed c.tp c.sl c.ns c.mode c.R c.Q c.len c.words s.L s.p s.q s.c0 s.c1 s.c2 s.c3 s.z c.X c.T c.l c.k c.P c.tk s.lv s.pk c.words s.W=some s.L from rfl];simp only[zG];rw[dne,zD,cT0 h hW];simp only[zG];rw[H.has.s,cy3 (by omega)];simp only[zG];rw[aB,zD,show mh c.fixed c.tp c.sl c.ns c.mode c.R c.Q c.len c.words s.L s.p s.q s.c0 s.c1 s.c2 s.c3 s.z c.X c.T c.l c.k c.P c.tk s.lv s.pk c.words s.W=some (s.c0,s.c1,s.c2,s.c3)from rfl];simp only[zG,decide_true,aD,aB,zD];rw[show kO c.fixed c.tp c.sl c.ns c.mode c.R c.Q c.len c.words s.L s.p s.q s.c0 s.c1 s.c2 s.c3 s.z c.X c.T c.l c.k c.P c.tk s.lv s.pk c.words s.W=some s.lv from rfl,hlv]
 simp only[zG];rw[dne,zD,show kP c.fixed c.tp c.sl c.ns c.mode c.R c.Q c.len c.words s.L s.p s.q s.c0 s.c1 s.c2 s.c3 s.z c.X c.T c.l c.k c.P c.tk s.lv s.pk c.words s.W=some s.pk from rfl];simp only[zG];rw[dne,zD,cp0,hsc];simp only[zG,cH8,decide_true,aD,aB,zD];rw[cH5 h hW,hrs];simp only[zG];unfold aG8;by_cases hq:s.q≠0
 ·rw[zE hq,zE hq];simp only;rw[bG0 (by simp) (by simp)];simp only[zG];simp only[zC,decide_true];rw[cs7 h hW];simp only[zG];rw[hsh];rfl
 ·rw[zF hq,zF hq];simp only;rw[H.has.x,H.has.a,bG0 (by omega) (by omega)];simp only[zG];simp only[zC,decide_true];rw[cs7 h hW];simp only[zG];rw[hsh];rfl
theorem aF4 (h:c.Ok)(wT:ci c.T)(hm:c.mode≠3)(e:jm c.mode c.X.length c.T.length c.R c.l c.Q c.k c.len c.words=(c.fixed,c.tp,c.sl,c.ns,0)){s:Dy}(hi:Inv c s)(H:RelD c s r)(S:Slo c s.W r):pc c.mode c.X c.T c.R c.l c.Q c.k c.len c.words c.R c.l c.Q c.k (c.X.length:Int) c.T c.fixed c.tp c.sl c.ns r.L r.p r.q r.st r.sl r.sx r.kp r.ax r.th r.ls r.n0 r.n1 r.n2 r.n3 r.pk c.fixed c.tp c.sl c.ns c.mode c.R c.Q c.len c.words s.L s.p s.q s.c0 s.c1 s.c2 s.c3 s.z c.X c.T c.l c.k c.P c.tk (c.off 8:Int) c.ns (c.X.length:Int) s.lv s.pk c.words s.W=some true:=by
 have hW:=hi.w;have hL:=hi.L;obtain⟨k1,k2,k3,_,_,_⟩:=H.has.lens h wT;have x5:=h.lens
 have hsp:kf c.mode c.X c.T c.R c.l c.Q c.k c.len c.words c.R c.l c.Q c.k (c.X.length:Int) c.T c.fixed c.tp c.sl c.ns r.L r.p r.q r.st r.sl r.sx r.kp r.ax r.th r.ls r.n0 r.n1 r.n2 r.n3 r.pk=some (r.p,r.q,vN c s.W):=by
  unfold kf;rw[zB hm,zC,bf3 S h];rfl
 have hlv:=ay7 h hi S
 have hsc:kI c.mode c.X c.T c.R c.l c.Q c.k c.len c.words c.R c.l c.Q c.k (c.X.length:Int) c.T c.fixed c.tp c.sl c.ns r.L r.p r.q r.st r.sl r.sx r.kp r.ax r.th r.ls r.n0 r.n1 r.n2 r.n3 r.pk=some (zH zJ c.mode,zH zJ r.L,zH zJ r.p,zH zJ (zH zI (r.q+1)),zH zJ c.ns,zH zJ r.n0,zH zJ r.n1,zH zJ r.n2,zH zJ r.n3,zH zJ s.lv,zH zJ r.pk,r.ls):=by
  unfold kI;rw[hlv];rfl
 have hrs:lz c.mode c.X c.T c.R c.l c.Q c.k c.len c.words c.R c.l c.Q c.k (c.X.length:Int) c.T c.fixed c.tp c.sl c.ns r.L r.p r.q r.st r.sl r.sx r.kp r.ax r.th r.ls r.n0 r.n1 r.n2 r.n3 r.pk=some (if r.q≠0 then(0,[],[],19)else(r.ls,r.ax,r.th,0)):=by
  unfold lz;by_cases hq:r.q≠0
  ·rw[zB hq,zC,zE hq]
  ·rw[zA hq,zD,zF hq]
 have hsh:=cS6 h hm e hi H.has S;rw[H.L,H.p,H.q,H.n0,H.n1,H.n2,H.n3,H.ls,H.pk]at hsp hlv hsc hrs hsh⊢;have dsp:=cI5 h hm hi;unfold pc;rw[dsp,hsp];simp only[zG];rw[cy4 (by rw[ut];have:=h.ns;omega)];simp only[zG];rw[aB,zD,show oY c.fixed c.tp c.sl c.ns c.mode c.R c.Q c.len c.words s.L s.p s.q s.c0 s.c1 s.c2 s.c3 s.z c.X c.T c.l c.k c.P c.tk (c.off 8:Int) c.ns (c.X.length:Int) s.lv s.pk c.words s.W=some s.L from rfl];simp only[zG];rw[dne,zD,cT1 h hW];simp only[zG];rw[H.has.s,cy3 (by omega)];simp only[zG];rw[aB,zD,show kV c.fixed c.tp c.sl c.ns c.mode c.R c.Q c.len c.words s.L s.p s.q s.c0 s.c1 s.c2 s.c3 s.z c.X c.T c.l c.k c.P c.tk (c.off 8:Int) c.ns (c.X.length:Int) s.lv s.pk c.words s.W=some (s.c0,s.c1,s.c2,s.c3)from rfl];simp only[zG,decide_true,aD,aB,zD];rw[show jL c.fixed c.tp c.sl c.ns c.mode c.R c.Q c.len c.words s.L s.p s.q s.c0 s.c1 s.c2 s.c3 s.z c.X c.T c.l c.k c.P c.tk (c.off 8:Int) c.ns (c.X.length:Int) s.lv s.pk c.words s.W=some s.lv from rfl,hlv]
 simp only[zG];rw[dne,zD,show jM c.fixed c.tp c.sl c.ns c.mode c.R c.Q c.len c.words s.L s.p s.q s.c0 s.c1 s.c2 s.c3 s.z c.X c.T c.l c.k c.P c.tk (c.off 8:Int) c.ns (c.X.length:Int) s.lv s.pk c.words s.W=some s.pk from rfl];simp only[zG];rw[dne,zD,cp1,hsc];simp only[zG,cH8,decide_true,aD,aB,zD];rw[cH6 h hW,hrs];simp only[zG];unfold aG8;by_cases hq:s.q≠0
 ·rw[zE hq,zE hq];simp only;rw[bG0 (by simp) (by simp)];simp only[zG];simp only[zC,decide_true];rw[cs8 h hW];simp only[zG];rw[hsh];rfl
 ·rw[zF hq,zF hq];simp only;rw[H.has.x,H.has.a,bG0 (by omega) (by omega)];simp only[zG];simp only[zC,decide_true];rw[cs8 h hW];simp only[zG];rw[hsh];rfl
theorem bf6 {s:Dy}(H:RelD c s r)(hL:0≤s.L∧s.L≤65535):sa c.mode c.X c.T c.R c.l c.Q c.k c.len c.words c.R c.l c.Q c.k (c.X.length:Int) c.T c.fixed c.tp c.sl c.ns r.L r.p r.q r.st r.sl r.sx r.kp r.ax r.th r.ls r.n0 r.n1 r.n2 r.n3 r.pk=some (encR c {r with L:=(kE c s).2.L} (kE c s).1):=by
 have eL:=H.L;have eq':=H.q;have e0:({r with L:=s.L}:RS)=r:=by rw[←eL]
 unfold sa kE;by_cases h1:c.mode≠2
 ·rw[zB h1,zC,zE h1];simp only;rw[e0];rfl
 rw[zA h1,zD,zF h1];by_cases h2:0≤s.q
 ·rw[zB (show 0≤r.q by omega),zC,zE h2];simp only;rw[e0];rfl
 rw[zA (show¬0≤r.q by omega),zD,zF h2];by_cases h3:s.L=65535
 ·rw[zB (show r.L=65535 by omega),zC,zE h3];simp only;rw[e0];rfl
 rw[zA (show¬r.L=65535 by omega),zD,zF h3,eL,bm (by omega)];rfl
theorem RelD.more {s:Dy}(H:RelD c s r):RelD c (kE c s).2 {r with L:=(kE c s).2.L}:=by
 rw[ad0];exact⟨rfl,H.p,H.q,H.n0,H.n1,H.n2,H.n3,H.ls,H.pk,H.has⟩
end
end
section
open Int renaming toNat_natCast → bB, reduceEq → bD
open List renaming length_append → aB, length_singleton → aD, getD_eq_getElem?_getD → cB, length_take → cD, take_of_length_le → dB, getElem?_eq_getElem → fB
open Nat renaming le_of_eq → dD, le_refl → eD
theorem cn4 {l:List Int}{j i:Nat}{v:Int}(h:j≠i):rg (l.set j v) (i:Int)=rg l (i:Int):=by
 unfold rg;rw[bB,cB,cB,List.getElem?_set_ne h]
theorem bQ9 {l:List Int}{j:Nat}{v:Int}(h:j<l.length):rg (l.set j v) (j:Int)=v:=by
 unfold rg;rw[bB,cB,List.getElem?_set_self h];rfl
theorem bo4 (t:List Int): ∀(l:List cv) (r a a':List Int) (n:Nat),(xq (om t) l (r,a,n)).1=(xq (om t) l (r,a',n)).1∧(xq (om t) l (r,a,n)).2.2=(xq (om t) l (r,a',n)).2.2
 |[],_,_,_,_=>⟨rfl,rfl⟩
 |o::l,r,a,a',n=>by
  obtain⟨h1,h2⟩:=bo4 t l r a a' n;refine⟨?_, ?_⟩
  ·show(xq (om t) l (r,a,n)).1.set o.2.1.toNat (rg t (((xq (om t) l (r,a,n)).2.2-1:Nat):Int))=_;rw[h1,h2];rfl
  ·show(xq (om t) l (r,a,n)).2.2-1=_;rw[h2];rfl
theorem cr1 (t:List Int)(l:List cv)(r a a':List Int)(n:Nat):(xq (om t) l (r,a,n)).1=(xq (om t) l (r,a',n)).1:=(bo4 t l r a a' n).1
theorem db4 {a:List Int}: ∀(n:Nat) (l:List cv),l.length=n→∀(r t0 t:List Int),(∀o∈l,inR r.length o)→l.length≤t0.length→(∀i,i<l.length→rg t (i:Int)=rg (uv mI l (r,t0,0)).2.1 (i:Int))→(xq (om t) l ((uv mI l (r,t0,0)).1,a,l.length)).1=r
 |0,l,hl,r,t0,t,_,_,_=>by
  have:=List.length_eq_zero_iff.1 hl;subst this;rfl
 |n+1,l,hl,r,t0,t,hg,h0,ht=>by
  obtain⟨l0,o,rfl⟩: ∃l0 o,l=l0++[o]:=⟨l.take n,l[n]'(by omega),by
   rw[←List.take_succ_eq_append_getElem (by omega),dB (by omega)]⟩
  rw[aB,aD]at hl h0;have hln:l0.length=n:=by omega
  obtain⟨e1,e2,e3⟩:=aE6 l0 (r,t0,0);rw[bB8];have hf:uv mI (l0++[o]) (r,t0,0)=mI o (uv mI l0 (r,t0,0)):=by rw[aU5];rfl
  rw[hf]at ht⊢;have ih:=db4 (a:=a) n l0 hln r t0 t (fun x hx=>hg x (by simp[hx])) (by omega);have ha': ∀a',(xq (om t) l0 ((uv mI l0 (r,t0,0)).1,a',l0.length)).1=(xq (om t) l0 ((uv mI l0 (r,t0,0)).1,a,l0.length)).1:=fun a'=>cr1 t l0 _ _ _ _
  have hgo:=hg o (by simp);generalize uv mI l0 (r,t0,0)=s at*;have e1:s.1.length=r.length:=e1;have e2:s.2.1.length=t0.length:=e2;have e3:s.2.2=l0.length:=by rw[e3];simp
  obtain⟨kd,ka,kb,q1,q2,q3,g1,g2,g3⟩:=vH hgo;have hv:=ht l0.length (by rw[aB,aD];omega)
  have ht': ∀i,i<l0.length→rg t (i:Int)=rg s.2.1 (i:Int):=fun i hi=>by
   rw[ht i (by rw[aB,aD];omega)];show rg (s.2.1.set s.2.2 (rg s.1 o.2.1)) (i:Int)=_;exact cn4 (by omega)
  have hv':rg t ((l0.length:Nat):Int)=rg s.1 (kd:Int):=by
   rw[hv];show rg (s.2.1.set s.2.2 (rg s.1 o.2.1)) ((l0.length:Nat):Int)=_;rw[e3,q1];exact bQ9 (by omega)
  have hone:(xq (om t) [o] ((mI o s).1,a,(l0++[o]).length)).1=s.1∧(xq (om t) [o] ((mI o s).1,a,(l0++[o]).length)).2.2=l0.length:=by
   rw[aB,aD];refine⟨?_,by show l0.length+1-1=_;omega⟩;show((s.1.set o.2.1.toNat _).set o.2.1.toNat (rg t ((l0.length+1-1:Nat):Int)))=s.1;rw[q1,bB,List.set_set,Nat.add_sub_cancel,hv',cb1 (by omega)]
  generalize hb:xq (om t) [o] ((mI o s).1,a,(l0++[o]).length)=b at*;obtain⟨b1,b2,b3⟩:=b;obtain⟨h1,h2⟩:=hone;simp only at h1 h2;subst h1 h2;rw[ha' b2];exact ih ht'
section
variable {c:Cx} {r:RS}
theorem cI0 (W:List Int)(o n m:Nat):seg W o (n+m)=seg W o n++seg W (o+n) m:=by
 unfold seg;rw[List.take_add,List.drop_drop]
theorem ck7 (h:c.Ok)(wT:ci c.T)(hm:c.mode=3){s:Dy}(hi:InvB c s)(S:Bas c s r){i:Nat}(hik:i<r.kp.length)(hin:i<c.ns.toNat):uZ c s.W i=(mX c (i:Int) r.kp[i]).2.1∧yV c s.W i=(mX c (i:Int) r.kp[i]).1:=by
 obtain⟨k1,k2,k3⟩:=S.kept i hik;obtain⟨f1,f2,f3,f4,f5⟩:=qT h wT (t:=(i:Int)) k1 k2;obtain⟨s1,s2,s3,s4⟩:=ul h hm hin;have htk:=hi.w.tk h;rw[s1,cI0]at k3;have hl:(seg s.W (lM c i) c.fl.n).length=c.fl.n:=dz (by omega);exact List.append_inj k3 (hl.trans f4.symm)
theorem cq4 (h:c.Ok)(wT:ci c.T)(hm:c.mode=3){s:Dy}(hi:InvB c s)(H:Has c s.W r.st r.ax r.th)(S:Bas c s r){i:Nat}(hik:i<r.kp.length)(hin:i<c.ns.toNat):
  (av6 c s.W i).2.1=uY c (i:Int) r.kp[i] r.ax∧(av6 c s.W i).1.take c.X.length=r.kp[i]:=by
 obtain⟨⟨l1,l2⟩,hR,hQ,x1,x2,t2⟩:=h.lens;obtain⟨k1,k2,k3⟩:=S.kept i hik;obtain⟨e1,e2⟩:=ck7 h wT hm hi S hik hin;have hb:=tZ (c:=c) (i:Int) k1;have hu:=h.pl.ulen;have hg:=h.pl.goodU;unfold av6;rw[e1,e2,H.x];refine⟨rfl, ?_⟩;have hfl:(fill c.R (vC c (i:Int) r.kp[i])).length=c.R.toNat:=gp (by omega);have:=db4 (a:=fill c.R r.ax) c.fl.n c.fl.unroll hu.1 (fill c.R (vC c (i:Int) r.kp[i])) (cg c.fl.n) (mX c (i:Int) r.kp[i]).2.1 (fun o ho=>by rw[hfl];exact(hg o ho).1) (by rw[da];omega) (fun j hj=>rfl);rw[hu.1]at this;show((xq (om (mX c (i:Int) r.kp[i]).2.1) c.fl.unroll ((mX c (i:Int) r.kp[i]).1,fill c.R r.ax,c.fl.n)).1).take c.X.length=_;have e3:(mX c (i:Int) r.kp[i]).1=(uv mI c.fl.unroll (fill c.R (vC c (i:Int) r.kp[i]),cg c.fl.n,0)).1:=rfl;rw[e3,this];unfold fill vC;rw[List.append_assoc,List.take_left' k1]
theorem Bas.kept8 {s s':Dy}{r r':RS}(S:Bas c s r)(hm:c.mode=3)(hK:fc c s.W s'.W)(e1:r'.sl=r.sl)(hl:r'.kp.length≤r.kp.length)(e2:r'.kp=r.kp.take r'.kp.length)(hh:(r'.kp.length:Int)=kw s'):Bas c s' r':=by
 refine⟨e1.trans S.sl,hh,fun i hi=> ?_⟩;have hi':i<r.kp.length:=by omega
 have e3:r'.kp[i]=r.kp[i]:=by
  have:r'.kp[i]?=r.kp[i]?:=by rw[e2,List.getElem?_take,zE hi]
  rw[fB hi,fB hi']at this;injection this
 rw[e3];obtain⟨k1,k2,k3⟩:=S.kept i hi';refine⟨k1,k2, ?_⟩;rw[hK.seg (by unfold lM;omega)];exact k3
theorem bQ5 (h:c.Ok)(wT:ci c.T)(hm:c.mode=3){s:Dy}(hi:InvB c s)(H:RelD c s r)(S:Bas c s r)(hsx:r.sx=0){B:Int}(hc:Cnt B s)(hB:B≤2305843009213693952)(a n:Int):
  ∃r',tw c.mode c.X c.T c.R c.l c.Q c.k c.len c.words c.R c.l c.Q c.k (c.X.length:Int) c.T c.fixed c.tp c.sl c.ns r.L r.p r.q r.st r.sl r.sx r.kp r.ax r.th r.ls r.n0 r.n1 r.n2 r.n3 r.pk a n=some (encR c r' (plF c a n s).1)∧RelD c (plF c a n s).2 r'∧Bas c (plF c a n s).2 r'∧r'.sx=0:=by
 have nm:=h.num;have hW:=hi.w;have hL:=hi.L;have hp:=hi.p;have hq:=hi.q;have hqp:=hi.qp;have hpk:=hi.pk;have hns:=h.ns;have hcr:=H.cnt hc;have hcr':aA9 4611686018427387904 r:=by unfold aA9 at*;omega
 obtain⟨g1,g2,g3,g4,g5,g6,g7⟩:=bd3 h hm hi;obtain⟨k1,k2,k3,k4,k5,k6⟩:=H.has.lens h wT;have hinv:=cf9 h hm hi a n;have Hs:=H.has;obtain⟨⟨z1,z2⟩,hR,hQ,z3,z4,z5⟩:=h.lens;have eL:=H.L;have ep:=H.p;have eq':=H.q;have epk:=H.pk;have hlen:=nm.len;have hkl:=S.len;have htp:=nm.tp;rw[zE hm]at htp;have hlive:=aL3 h hm hi S;have same: ∃r',some (c.mode,c.X,c.T,c.R,c.l,c.Q,c.k,c.len,c.words,c.R,c.l,c.Q,c.k,(c.X.length:Int),c.T,c.fixed,c.tp,c.sl,c.ns,r.L,r.p,r.q,r.st,r.sl,r.sx,r.kp,r.ax,r.th,r.ls,r.n0,r.n1,r.n2,r.n3,r.pk,(plF c a n s).1)=some (encR c r' (plF c a n s).1)∧RelD c s r'∧Bas c s r'∧r'.sx=0:=⟨r,rfl,H,S,hsx⟩
 unfold tw;rw[aQ6];simp only[zG];rw[eL,ep,eq']at same hlive⊢;generalize hdo:plF c a n s=d at hinv same⊢;unfold plF at hdo;by_cases hk: ¬(a=8∨a=5∨a=9)
 ·rw[zF (by omega),zF (by omega),zF (by omega)]at hdo;subst hdo;cases hr:jW a n with
  |false=>
   simp only[Bool.not_false,zC,zG,kg];exact same
  |true=>
   simp only[Bool.not_true,zD];rw[zB (show a≠5 by omega),zC,zB (show a≠8 by omega),zC,zB (show a≠9 by omega),zC];simp only[zG,kg];exact same
 have hk:a=8∨a=5∨a=9:=by omega
 have hr:jW a n=decide (n=0):=by
  unfold jW;rw[zF (by omega),zF (by omega),zF (by omega),zF (by omega)]
 by_cases hn:n≠0
 ·have hdo:(2,s)=d:=by
   rw[←hdo];rcases hk with rfl|rfl|rfl
   ·rw[zE rfl,zE hn]
   ·rw[zF (by omega),zE rfl,zE hn]
   ·rw[zF (by omega),zF (by omega),zE rfl,zE hn]
  subst hdo;rw[hr,zA hn];simp only[Bool.not_false,zC,zG,kg];exact same
 have hn0:n=0:=by omega
 rw[hr,zB hn0];simp only[Bool.not_true,zD];rcases hk with rfl|rfl|rfl
 ·
  rw[zE rfl,zF hn]at hdo;simp only[ne_eq,bD,not_false_eq_true,decide_true,zC,not_true_eq_false,decide_false,zD,zG,dp];by_cases h1:0≤s.q
  ·rw[zE h1]at hdo;subst hdo;rw[zB h1,zC];exact same
  rw[zF h1]at hdo;rw[zA h1,zD];by_cases h2:s.p=s.L
  ·rw[zE h2]at hdo;subst hdo;rw[zB h2,zC];exact same
  rw[zF h2]at hdo;subst hdo;have hheld:kw s=s.p:=by unfold kw;rw[zE (by omega)]
  have hkp:(r.kp.length:Int)=s.p:=by rw[hkl,hheld]
  have htake:r.kp.take s.p.toNat=r.kp:=dB (by omega);rw[zA h2,zD];simp only[decide_true];rw[du,gm (by omega),du,htake,df (by omega) (by omega),az6 h wT (by omega) k1 k4];simp only[zG];rw[bm (n:=s.p+1) (by omega),bm (n:=r.n1+1) (by unfold aA9 at hcr';omega)];obtain⟨v1,v2⟩:=ur h wT (t:=s.p) k1 k4;obtain⟨f1,f2,f3,f4,f5⟩:=qT h wT (t:=s.p) k1 k4;obtain⟨s1,s2,s3,s4⟩:=ul h hm (i:=s.p.toNat) (by omega);have htk:=hW.tk h;have hT:=Hs.taped h wT s.p;rw[Hs.stepR h]at hT;have hlen2:((mX c s.p r.st).2.1++(mX c s.p r.st).1).length=c.sl.toNat:=by rw[aB,f3,f4,s1]
  have hT2:=hT.put8 h (o:=lM c s.p.toNat) (w:=(mX c s.p r.st).2.1++(mX c s.p r.st).1) s4 (by rw[hlen2];exact s3) (f2.app f1);have hT3:=hT2.put1 h v1 v2
  have hWe:(put (put (put s.W (c.off 2) (stepR c s.W s.p).1) (lM c s.p.toNat) ((stepR c s.W s.p).2.1++(stepR c s.W s.p).1)) (c.off 1) ((stepR c s.W s.p).1.take c.X.length))=put (put (put s.W (c.off 2) (mX c s.p r.st).1) (lM c s.p.toNat) ((mX c s.p r.st).2.1++(mX c s.p r.st).1)) (c.off 1) (uq c s.p r.st):=by
   rw[Hs.stepR h,f5]
  rw[hWe]at hinv⊢;have hK2:fc c s.W (put s.W (c.off 2) (mX c s.p r.st).1):=fc.put h (fc.refl s.W) hW (i:=2) (by omega) (dD f3)
  have hlW:lM c s.p.toNat+((mX c s.p r.st).2.1++(mX c s.p r.st).1).length≤(put s.W (c.off 2) (mX c s.p r.st).1).length:=by
   have:=hT.wd.tk h;rw[hlen2];omega
  have S': ∀r':RS,r'.sl=r.sl→r'.kp=r.kp++[r.st]→∀s':Dy,s'.q=s.q→s'.p=s.p+1→s'.W=put (put (put s.W (c.off 2) (mX c s.p r.st).1) (lM c s.p.toNat) ((mX c s.p r.st).2.1++(mX c s.p r.st).1)) (c.off 1) (uq c s.p r.st)→Bas c s' r':=fun r' e1 e2 s' e3 e4 e5=>by
   have hK3:fc c (put (put s.W (c.off 2) (mX c s.p r.st).1) (lM c s.p.toNat) ((mX c s.p r.st).2.1++(mX c s.p r.st).1)) s'.W:=by
    rw[e5];exact fc.put h (fc.refl _) hT2.wd (i:=1) (by omega) (dD v1)
   refine⟨e1.trans S.sl,by rw[e2,aB,aD];unfold kw;rw[e3,e4,zE (by omega)];omega,fun i hi=> ?_⟩;rw[e2,aB,aD]at hi;have e6:r'.kp[i]'(by rw[e2,aB,aD];exact hi)=(r.kp++[r.st])[i]'(by rw[aB,aD];exact hi):=by simp only[e2]
   rw[e6,hK3.seg (by unfold lM;omega)];by_cases hlt:i<r.kp.length
   ·rw[List.getElem_append_left hlt];obtain⟨k1',k2',k3'⟩:=S.kept i hlt;refine⟨k1',k2', ?_⟩
    have hd:lM c i+c.sl.toNat≤lM c s.p.toNat:=by
     unfold lM;have:=Nat.mul_le_mul_right c.sl.toNat (show i+1≤s.p.toNat by omega);rw[Nat.succ_mul]at this;omega
    rw[xc hlW (.inl hd),hK2.seg (by unfold lM;omega)];exact k3'
   ·have hie:i=r.kp.length:=by omega
    subst hie;rw[List.getElem_append_right (eD _)];simp only[Nat.sub_self,List.getElem_singleton];refine⟨k1,k4, ?_⟩;have ek:r.kp.length=s.p.toNat:=by omega
    rw[hkp,ek,←hlen2];exact sJ hlW
  have hl2:=aL3 (r:={r with L:=s.L,p:=s.p+1,q:=s.q,st:=uq c s.p r.st,kp:=r.kp++[r.st],n1:=r.n1+1}) h hm hinv (by refine S' _ ?_ ?_ _ ?_ ?_ ?_<;>rfl);rw[show ga c.mode c.X c.T c.R c.l c.Q c.k c.len c.words c.R c.l c.Q c.k (c.X.length:Int) c.T c.fixed c.tp c.sl c.ns s.L (s.p+1) s.q (uq c s.p r.st) r.sl r.sx (r.kp++[r.st]) r.ax r.th r.ls r.n0 (r.n1+1) r.n2 r.n3 r.pk=_ from hl2];simp only[zG];exact⟨{r with L:=s.L,p:=s.p+1,q:=s.q,st:=uq c s.p r.st,kp:=r.kp++[r.st],n1:=r.n1+1,pk:=max r.pk (s.lv+c.sl)},rfl,⟨rfl,rfl,rfl,H.n0,by show r.n1+1=s.c1+1;rw[H.n1],H.n2,H.n3,H.ls,by show max r.pk _=max s.pk _;rw[epk],hT3⟩,(by refine S' _ ?_ ?_ _ ?_ ?_ ?_<;>rfl),hsx⟩
 ·
  rw[zF (by omega),zE rfl,zF hn]at hdo;simp only[ne_eq,bD,not_false_eq_true,decide_true,zC,not_true_eq_false,decide_false,zD,zG,dp];by_cases h1:0≤s.q
  ·rw[zE h1]at hdo;subst hdo;rw[zB h1,zC];exact same
  rw[zF h1]at hdo;rw[zA h1,zD];by_cases h2:s.p≠s.L
  ·rw[zE h2]at hdo;subst hdo;have h2': ¬s.p=s.L:=h2;simp only[h2',not_false_eq_true,decide_true,zC];exact same
  rw[zF h2]at hdo;subst hdo;have h2':s.p=s.L:=by omega
  have hheld:kw s=s.p:=by unfold kw;rw[zE (by omega)]
  simp only[h2',not_true_eq_false,decide_false,zD];rw[h2']at hlive;rw[h.rof];simp only[zG];rw[hlive];simp only[zG];have hfk:=h.pk.n;rw[bm (n:=s.lv+(c.fk.n:Int)) (by omega)];have hE:=Hs.endd h wT k1 k4;have eW:seg s.W (c.off 1) c.X.length=r.st:=Hs.s;rw[eW]at hinv⊢;have he:mA c.mode c.X c.T c.R c.l c.Q c.k c.len c.words c.R c.l c.Q c.k (c.X.length:Int) c.T c.fixed c.tp c.sl c.ns s.L s.L s.L r.st r.sl r.sx r.kp r.ax r.th r.ls r.n0 r.n1 r.n2 r.n3 (max r.pk (s.lv+(c.fk.n:Int))) r.st=_:=aM3 (r:={r with L:=s.L,p:=s.L,q:=s.L,pk:=max r.pk (s.lv+(c.fk.n:Int))}) h wT k1 k4 k3 k6 hcr' (by omega);rw[he];simp only[zG]
  exact⟨{uI c r.st r with L:=s.L,p:=s.L,q:=s.L,pk:=max r.pk (s.lv+(c.fk.n:Int))},rfl,⟨rfl,by first|rfl|exact h2'.symm,rfl,H.n0,H.n1,by show r.n2+1=s.c2+1;rw[H.n2],by show r.n3+1=s.c3+1;rw[H.n3],(Hs.lossV h wT r.st).symm,by show max r.pk _=max s.pk _;rw[epk],hE⟩,S.kept8 hm (aU7 h hW k1) rfl (eD _) (dB (eD _)).symm (by
   show(r.kp.length:Int)=_;rw[hkl,hheld];unfold kw;simp only
   rw[zF (by omega),h2']),hsx⟩
 ·
  rw[zF (by omega),zF (by omega),zE rfl,zF hn]at hdo;simp only[ne_eq,bD,not_false_eq_true,decide_true,zC,not_true_eq_false,decide_false,zD,zG,dp];by_cases h1:s.q<1
  ·rw[zE h1]at hdo;subst hdo;rw[zB h1,zC];exact same
  rw[zF h1]at hdo;subst hdo;have hheld:kw s=s.q:=by unfold kw;rw[zF (by omega)]
  have hkp:(r.kp.length:Int)=s.q:=by rw[hkl,hheld]
  obtain⟨i,hi1⟩: ∃i:Nat,s.q-1=(i:Int):=⟨(s.q-1).toNat,by omega⟩
  have hik:i<r.kp.length:=by omega
  obtain⟨k1',k2',k3'⟩:=S.kept i hik;obtain⟨b1,b2⟩:=cq4 h wT hm hi Hs S hik (by omega);obtain⟨p1,p2⟩:=xM h wT (t:=(i:Int)) k1' k2' k2 k5;rw[zA h1,zD,bm (n:=s.q-1) (by omega),hi1,cq hik];simp only[zG];rw[gm (by omega),du];have hcut:au6 r.kp 0 (i:Int)=r.kp.take i:=by unfold au6;simp
  rw[hcut];have ht:lb c.mode c.X c.T c.R c.l c.Q c.k c.len c.words c.R c.l c.Q c.k (c.X.length:Int) c.T c.fixed c.tp c.sl c.ns s.L (i:Int) (i:Int) r.kp[i] r.sl r.sx (r.kp.take i) r.ax r.th r.ls r.n0 r.n1 r.n2 r.n3 r.pk (i:Int) r.kp[i]=_:=az7 (r:={r with L:=s.L,p:=(i:Int),q:=(i:Int),st:=r.kp[i],kp:=r.kp.take i}) h wT (by omega) k1' k2' k2 k5 k3 k6 hcr' (by omega);rw[ht];simp only[zG];have hb:=Hs.back h (a:=uY c (i:Int) r.kp[i] r.ax) (by omega) (by omega) p2;have hb1:=hb.put1 h k1' k2';rw[hi1,bB,b1,b2]at hinv;rw[bB,b1,b2]
  exact⟨{bt1 c (i:Int) r.kp[i] r with L:=s.L,p:=(i:Int),q:=(i:Int),st:=r.kp[i],kp:=r.kp.take i},rfl,⟨rfl,rfl,rfl,H.n0,H.n1,H.n2,by show r.n3+1=s.c3+1;rw[H.n3],H.ls,epk,hb1⟩,S.kept8 hm ((bc9 h hW (by omega) (by omega)).trans (fc.put h (fc.refl _) hb.wd (i:=1) (by omega) (dD k1'))) rfl (by rw[cD];omega) (by simp only[cD];rw[Nat.min_eq_left (by omega)]) (by
   show((r.kp.take i).length:Int)=_;rw[cD,Nat.min_eq_left (by omega)];unfold kw;simp only
   rw[zF (by omega)]),hsx⟩
end
end
section
open Int renaming toNat_natCast → bB
open List renaming replicate → aB, drop_replicate → bD, length_replicate → cB, replicate_append_replicate → cD, take_replicate → dB
open Nat renaming le_refl → aD
section
variable {c:Cx}
theorem aM6 {N o n:Nat}(h:o+n≤N):seg (cg N) o n=cg n:=by
 unfold seg cg;rw[bD,dB,Nat.min_eq_left (by omega)]
theorem cm9 {N o n:Nat}(h:o+n≤N):put (cg N) o (cg n)=cg N:=by
 unfold put cg;rw[dB,bD,cB,cD,cD,Nat.min_eq_left (by omega)]
 congr 1
 omega
theorem cd9 (h:c.Ok)(wT:ci c.T)(wX:ci c.X):Has c (bE0 c (cg c.words.toNat)) c.X (cg c.X.length) (cg c.T.length):=by
 have hz:Wd c (cg c.words.toNat):=da _;have htk:=hz.tk h;rw[da]at htk;have o5:=jc (c:=c) (show 5<9 by omega);have o6:=jc (c:=c) (show 6<9 by omega);have o0:=jc (c:=c) (show 0<9 by omega);have s0:c.T.length≤c.sz 0:=aD _;have w0':=hz.put h (o:=c.off 0) (w:=c.T) (by have:c.sz 0=c.T.length:=rfl;omega);unfold bE0
 have H0:Has c (put (cg c.words.toNat) (c.off 0) c.T) (seg (put (cg c.words.toNat) (c.off 0) c.T) (c.off 1) c.X.length) (cg c.X.length) (cg c.T.length):=by
  refine⟨w0',(ci.rep _).put wT _, ?_,rfl, ?_, ?_⟩
  ·exact sJ (bs6 h hz (by omega) s0)
  ·rw[w9 h hz (n:=c.X.length) (i:=0) (j:=5) (by omega) (by omega) (by omega) (aD _) s0];exact aM6 (by have:c.sz 5=c.X.length:=rfl;omega)
  ·rw[w9 h hz (n:=c.T.length) (i:=0) (j:=6) (by omega) (by omega) (by omega) (aD _) s0];exact aM6 (by have:c.sz 6=c.T.length:=rfl;omega)
 exact H0.put1 h rfl wX
def cv0 (c:Cx):RS:=⟨c.len,0,-1,c.X,[],0,[],cg c.X.length,cg c.T.length,0,0,0,0,0,c.fixed⟩
def bd9 (c:Cx):RS:=⟨c.len,0,-1,c.X,aB c.ns.toNat (-1,[]),(c.X.length:Int),[],cg c.X.length,cg c.T.length,0,0,0,0,0,c.fixed⟩
theorem cv1 (h:c.Ok)(wT:ci c.T)(wX:ci c.X)(hm:c.mode=3):RelD c (new1 c) (cv0 c)∧Bas c (new1 c) (cv0 c):=
 ⟨⟨rfl,rfl,rfl,rfl,rfl,rfl,rfl,rfl,rfl,cd9 h wT wX⟩,⟨rfl,rfl,fun i hi=>by cases hi⟩⟩
theorem cv2 (h:c.Ok)(wT:ci c.T)(wX:ci c.X)(hm:c.mode≠3):RelD c (new2 c) (bd9 c)∧Slo c (new2 c).W (bd9 c):=by
 have hz:Wd c (cg c.words.toNat):=da _;have htk:=hz.tk h;rw[da]at htk;have e:put (cg c.words.toNat) (c.off 8) (cg (c.sl*c.ns).toNat)=cg c.words.toNat:=cm9 (by have:=bO1 (c:=c);omega)
 have eW:(new2 c).W=bE0 c (cg c.words.toNat):=by
  show bE0 c (put (cg c.words.toNat) (c.off 8) (cg (c.sl*c.ns).toNat))=_;rw[e]
 refine⟨⟨rfl,rfl,rfl,rfl,rfl,rfl,rfl,rfl,rfl,by rw[eW];exact cd9 h wT wX⟩,⟨rfl,rfl,by simp[bd9],fun k hk=> ?_⟩⟩;have hk':k<c.ns.toNat:=by simpa[bd9]using hk
 have e2:(bd9 c).sl[k]=(-1,[]):=by simp[bd9]
 rw[e2];refine⟨bd8 h hm hk', .inr ⟨rfl, ?_⟩⟩;obtain⟨s1,s2,s3⟩:=uo h hm hk';rw[eW,(as2 h hz).2.2.seg (by unfold sp;omega)];exact aM6 (by omega)
theorem cn0 {n:Int}{x:Int}(hn:0≤n∧n≤1048576):xz n x=some (x,aB n.toNat (-1,[])):=by
 unfold xz
 have key:=fh (f:=rV n) (n:=n.toNat) (fun i=>(x,aB i ((-1:Int),([]:List Int)))) (c:=(x,aB n.toNat (-1,[]))) (by omega)
  (fun i hi=>by
   unfold rV;simp only;rw[zB (by omega),zC,df (by rw[cB];omega) (by omega),bm (by omega),List.replicate_succ']
   rfl)
  (by
   unfold rV;simp only
   rw[zA (by omega),zD])
 rw[List.replicate_zero]at key;rw[key];rfl
theorem ca4 (h:c.Ok)(hm:c.mode=3)(e:jm c.mode c.X.length c.T.length c.R c.l c.Q c.k c.len c.words=(c.fixed,c.tp,c.sl,c.ns,0)):
  li c.mode c.X c.T c.R c.l c.Q c.k c.len c.words=some (c.mode,c.X,c.T,c.R,c.l,c.Q,c.k,c.len,c.words,c.R,c.l,c.Q,c.k,(c.X.length:Int),c.T,c.fixed,c.tp,c.sl,c.ns,c.len,-1,c.X,0,c.fixed,0,[],cg c.X.length,cg c.T.length):=by
 have x5:=h.lens;unfold li;rw[ad8 h.hl h.hk,e];simp only[zG];rw[zA (by simp),zD,gdz ⟨by omega,by omega⟩,gdz ⟨by omega,by omega⟩,zA (by simp[hm]),zD];simp only[bB];rfl
theorem ca5 (h:c.Ok)(hm:c.mode≠3)(e:jm c.mode c.X.length c.T.length c.R c.l c.Q c.k c.len c.words=(c.fixed,c.tp,c.sl,c.ns,0)):
  li c.mode c.X c.T c.R c.l c.Q c.k c.len c.words=some (c.mode,c.X,c.T,c.R,c.l,c.Q,c.k,c.len,c.words,c.R,c.l,c.Q,c.k,(c.X.length:Int),c.T,c.fixed,c.tp,c.sl,c.ns,c.len,-1,c.X,(c.X.length:Int),c.fixed,0,aB c.ns.toNat (-1,[]),cg c.X.length,cg c.T.length):=by
 have x5:=h.lens;unfold li;rw[ad8 h.hl h.hk,e];simp only[zG];rw[zA (by simp),zD,gdz ⟨by omega,by omega⟩,gdz ⟨by omega,by omega⟩,zB hm,zC,cn0 h.ns];simp only[bB,zG];rfl
theorem cn2 {a0:Int}{a1 a2:List Int}{a3:Int}{a4:List cv}{a5:Int}{a6:List cv}{a7 a8:Int}(hl:OpsOk a4)(hk:OpsOk a6)(h:(jm a0 a1.length a2.length a3 a4 a5 a6 a7 a8).2.2.2.2≠0):
  li a0 a1 a2 a3 a4 a5 a6 a7 a8=some (0,[],[],0,[],0,[],0,0,0,[],0,[],0,[],0,0,0,0,0,0,[],0,0,(jm a0 a1.length a2.length a3 a4 a5 a6 a7 a8).2.2.2.2,[],[],[]):=by
 unfold li;rw[ad8 hl hk];simp only[zG];rw[zB h,zC]
structure Both1 (c:Cx)(i:Nat)(s:Dy)(r:RS):Prop where
 w:Well1 c i s
 H:RelD c s r
 S:Bas c s r
 sx:r.sx=0
structure Both2 (c:Cx)(i:Nat)(s:Dy)(r:RS):Prop where
 w:Well2 c i s
 H:RelD c s r
 S:Slo c s.W r
theorem Bas.more {s:Dy}{r:RS}(hm:c.mode=3)(S:Bas c s r):Bas c (kE c s).2 {r with L:=(kE c s).2.L}:=by
 have e:kE c s=(19,s):=by unfold kE;rw[zE (by omega)]
 rw[e];exact⟨S.sl,S.len,S.kept⟩
theorem Slo.more {s:Dy}{r:RS}(S:Slo c s.W r):Slo c (kE c s).2.W {r with L:=(kE c s).2.L}:=by
 rw[ad0];exact⟨S.kp,S.sx,S.len,S.slot⟩
theorem bX8 (h:c.Ok)(wT:ci c.T)(hm:c.mode=3){i:Nat}(hi:i≤100){s:Dy}{r:RS}(b:Both1 c i s r)(x:Int×Int):
  ∃r',Both1 c (i+1) (yK c x s).2 r'∧ze c.mode c.X c.T c.R c.l c.Q c.k c.len c.words c.R c.l c.Q c.k (c.X.length:Int) c.T c.fixed c.tp c.sl c.ns r.L r.p r.q r.st r.sl r.sx r.kp r.ax r.th r.ls r.n0 r.n1 r.n2 r.n3 r.pk x.1 x.2 c.fixed c.tp c.sl c.ns c.mode c.R c.Q c.len c.words s.L s.p s.q s.c0 s.c1 s.c2 s.c3 s.z c.X c.T c.l c.k c.P c.tk s.lv s.pk c.words s.W=some (true,c.mode,c.X,c.T,c.R,c.l,c.Q,c.k,c.len,c.words,c.R,c.l,c.Q,c.k,(c.X.length:Int),c.T,c.fixed,c.tp,c.sl,c.ns,r'.L,r'.p,r'.q,r'.st,r'.sl,r'.sx,r'.kp,r'.ax,r'.th,r'.ls,r'.n0,r'.n1,r'.n2,r'.n3,r'.pk,c.fixed,c.tp,c.sl,c.ns,c.mode,c.R,c.Q,c.len,c.words,(yK c x s).2.L,(yK c x s).2.p,(yK c x s).2.q,(yK c x s).2.c0,(yK c x s).2.c1,(yK c x s).2.c2,(yK c x s).2.c3,(yK c x s).2.z,(yK c x s).2.lv,(yK c x s).2.pk,c.words,(yK c x s).2.W):=by
 have hw:=b.w.act h hm x;have hL:=b.w.L h;unfold ze;by_cases hx:x.1=0
 ·rw[zB hx,zC,bf6 b.H hL];simp only[zG,encR];rw[cW8 hL];simp only[zG,decide_true];have ea:yK c x s=kE c s:=by unfold yK;rw[zE hx]
  rw[ea]at hw⊢;refine⟨{r with L:=(kE c s).2.L},⟨hw,b.H.more,b.S.more hm,b.sx⟩, ?_⟩;rw[ad0]
 ·have ea:yK c x s=plF c x.1 x.2 s:=by unfold yK;rw[zF hx]
  have hcb:Cnt (65536*(i:Int)) s:=b.w.cnt;rw[zA hx,zD];rw[ea]at hw⊢;obtain⟨r',e1,e2,e3,e4⟩:=bQ5 h wT hm b.w.inv b.H b.S b.sx hcb (by omega) x.1 x.2;have e5:qN c.mode c.X c.T c.R c.l c.Q c.k c.len c.words c.R c.l c.Q c.k (c.X.length:Int) c.T c.fixed c.tp c.sl c.ns r.L r.p r.q r.st r.sl r.sx r.kp r.ax r.th r.ls r.n0 r.n1 r.n2 r.n3 r.pk x.1 x.2=some (encR c r' (plF c x.1 x.2 s).1):=by unfold qN;rw[zB hm,zC,e1];rfl
  rw[e5];simp only[zG,encR];rw[do1 h hm b.w.inv hcb (by omega)];simp only[zG,cs0,decide_true];exact⟨r',⟨hw,e2,e3,e4⟩,rfl⟩
theorem bX9 (h:c.Ok)(wT:ci c.T)(hm:c.mode≠3){i:Nat}(hi:i≤100){s:Dy}{r:RS}(b:Both2 c i s r)(x:Int×Int):
  ∃r',Both2 c (i+1) (yL c x s).2 r'∧vd c.mode c.X c.T c.R c.l c.Q c.k c.len c.words c.R c.l c.Q c.k (c.X.length:Int) c.T c.fixed c.tp c.sl c.ns r.L r.p r.q r.st r.sl r.sx r.kp r.ax r.th r.ls r.n0 r.n1 r.n2 r.n3 r.pk x.1 x.2 c.fixed c.tp c.sl c.ns c.mode c.R c.Q c.len c.words s.L s.p s.q s.c0 s.c1 s.c2 s.c3 s.z c.X c.T c.l c.k c.P c.tk (c.off 8:Int) c.ns (c.X.length:Int) s.lv s.pk c.words s.W=some (true,c.mode,c.X,c.T,c.R,c.l,c.Q,c.k,c.len,c.words,c.R,c.l,c.Q,c.k,(c.X.length:Int),c.T,c.fixed,c.tp,c.sl,c.ns,r'.L,r'.p,r'.q,r'.st,r'.sl,r'.sx,r'.kp,r'.ax,r'.th,r'.ls,r'.n0,r'.n1,r'.n2,r'.n3,r'.pk,c.fixed,c.tp,c.sl,c.ns,c.mode,c.R,c.Q,c.len,c.words,(yL c x s).2.L,(yL c x s).2.p,(yL c x s).2.q,(yL c x s).2.c0,(yL c x s).2.c1,(yL c x s).2.c2,(yL c x s).2.c3,(yL c x s).2.z,(yL c x s).2.lv,(yL c x s).2.pk,c.words,(yL c x s).2.W):=by
 have hw:=b.w.act h hm x;have hL:=b.w.inv.L;unfold vd;by_cases hx:x.1=0
 ·rw[zB hx,zC,bf6 b.H hL];simp only[zG,encR];rw[cW9 hL];simp only[zG,decide_true];have ea:yL c x s=kE c s:=by unfold yL;rw[zE hx]
  rw[ea]at hw⊢;refine⟨{r with L:=(kE c s).2.L},⟨hw,b.H.more,b.S.more⟩, ?_⟩;rw[ad0]
 ·have ea:yL c x s=doF c x.1 x.2 s:=by unfold yL;rw[zF hx]
  have hcb:Cnt (65536*(i:Int)) s:=b.w.cnt;rw[zA hx,zD];rw[ea]at hw⊢;obtain⟨r',e1,e2,e3⟩:=cn1 h wT hm b.w.inv b.H b.S hcb (by omega) x.1 x.2;have e5:=e1;rw[e5];simp only[zG,encR];rw[do2 h hm b.w.inv hcb (by omega)];simp only[zG,cs0,decide_true];exact⟨r',⟨hw,e2,e3⟩,rfl⟩
end
end
section
open Bool renaming not_true → aB
open Option renaming bind → aD
section
variable {c:Cx}
def co0 (c:Cx)(i:Nat)(s:Dy)(r:RS):=((i:Int),c.mode,c.X,c.T,c.R,c.l,c.Q,c.k,c.len,c.words,c.fixed,c.tp,c.sl,c.ns,c.mode,c.R,c.Q,c.len,c.words,s.L,s.p,s.q,s.c0,s.c1,s.c2,s.c3,s.z,s.lv,s.pk,c.words,s.W,c.mode,c.X,c.T,c.R,c.l,c.Q,c.k,c.len,c.words,c.R,c.l,c.Q,c.k,(c.X.length:Int),c.T,c.fixed,c.tp,c.sl,c.ns,r.L,r.p,r.q,r.st,r.sl,r.sx,r.kp,r.ax,r.th,r.ls,r.n0,r.n1,r.n2,r.n3,r.pk)
theorem bP3 (h:c.Ok)(wT:ci c.T)(hm:c.mode=3)(e:jm c.mode c.X.length c.T.length c.R c.l c.Q c.k c.len c.words=(c.fixed,c.tp,c.sl,c.ns,0)){l:List (Int×Int)}(hl:l.length≤80){s:Dy}{r:RS}(b:Both1 c 0 s r):
  ∃z,bw (jP l c.X c.T c.l c.k c.P c.tk) fa (co0 c 0 s r)=some (.inr z):=by
 obtain⟨y,h1,z,h2⟩:=uf (f:=jP l c.X c.T c.l c.k c.P c.tk) (a:=co0 c 0 s r) (fun a=> ∃i s r,a=co0 c i s r∧i≤l.length∧Both1 c i s r) (fun a=>((l.length:Int)-a.1).toNat) (fun y=> ∃z,y= .inr z) ⟨0,s,r,rfl,Nat.zero_le _,b⟩ (by show((l.length:Int)-((0:Nat):Int)).toNat<_;omega) (fun a ha=>by
  obtain⟨i,s,r,rfl,hi,b⟩:=ha;by_cases hlt:i<l.length
  ·left;obtain⟨r',b',h3⟩:=bX8 h wT hm (i:=i) (by omega) b l[i];have h4:=aF3 h wT hm e b'.w.inv b'.H b'.S;refine⟨co0 c (i+1) (yK c l[i] s).2 r', ?_,⟨i+1,_,r',rfl,hlt,b'⟩,by show((l.length:Int)-((i+1:Nat):Int)).toNat<((l.length:Int)-(i:Int)).toNat;omega⟩;unfold co0;simp only[jP];rw[zB (by omega),zC,cq hlt];simp only[zG];rw[h3];simp only[zG,aB,zD];rw[h4];simp only[zG,aB,zD];rw[bm (by omega),show(i:Int)+1=((i+1:Nat):Int)by omega]
  ·right;refine⟨.inr ?_, ?_,_,rfl⟩
   rotate_left
   ·unfold co0;simp only[jP]
    rw[zA (by omega),zD])
 exact⟨z,by rw[h1,h2]⟩
def co1 (c:Cx)(i:Nat)(s:Dy)(r:RS):=((i:Int),c.mode,c.X,c.T,c.R,c.l,c.Q,c.k,c.len,c.words,c.fixed,c.tp,c.sl,c.ns,c.mode,c.R,c.Q,c.len,c.words,s.L,s.p,s.q,s.c0,s.c1,s.c2,s.c3,s.z,s.lv,s.pk,c.words,s.W,c.mode,c.X,c.T,c.R,c.l,c.Q,c.k,c.len,c.words,c.R,c.l,c.Q,c.k,(c.X.length:Int),c.T,c.fixed,c.tp,c.sl,c.ns,r.L,r.p,r.q,r.st,r.sl,r.sx,r.kp,r.ax,r.th,r.ls,r.n0,r.n1,r.n2,r.n3,r.pk)
theorem bP4 (h:c.Ok)(wT:ci c.T)(hm:c.mode≠3)(e:jm c.mode c.X.length c.T.length c.R c.l c.Q c.k c.len c.words=(c.fixed,c.tp,c.sl,c.ns,0)){l:List (Int×Int)}(hl:l.length≤80){s:Dy}{r:RS}(b:Both2 c 0 s r):
  ∃z,bw (jQ l c.X c.T c.l c.k c.P c.tk (c.off 8:Int) c.ns (c.X.length:Int)) fa (co1 c 0 s r)=some (.inr z):=by
 obtain⟨y,h1,z,h2⟩:=uf (f:=jQ l c.X c.T c.l c.k c.P c.tk (c.off 8:Int) c.ns (c.X.length:Int)) (a:=co1 c 0 s r) (fun a=> ∃i s r,a=co1 c i s r∧i≤l.length∧Both2 c i s r) (fun a=>((l.length:Int)-a.1).toNat) (fun y=> ∃z,y= .inr z) ⟨0,s,r,rfl,Nat.zero_le _,b⟩ (by show((l.length:Int)-((0:Nat):Int)).toNat<_;omega) (fun a ha=>by
  obtain⟨i,s,r,rfl,hi,b⟩:=ha;by_cases hlt:i<l.length
  ·left;obtain⟨r',b',h3⟩:=bX9 h wT hm (i:=i) (by omega) b l[i];have h4:=aF4 h wT hm e b'.w.inv b'.H b'.S;refine⟨co1 c (i+1) (yL c l[i] s).2 r', ?_,⟨i+1,_,r',rfl,hlt,b'⟩,by show((l.length:Int)-((i+1:Nat):Int)).toNat<((l.length:Int)-(i:Int)).toNat;omega⟩;unfold co1;simp only[jQ];rw[zB (by omega),zC,cq hlt];simp only[zG];rw[h3];simp only[zG,aB,zD];rw[h4];simp only[zG,aB,zD];rw[bm (by omega),show(i:Int)+1=((i+1:Nat):Int)by omega]
  ·right;refine⟨.inr ?_, ?_,_,rfl⟩
   rotate_left
   ·unfold co1;simp only[jQ]
    rw[zA (by omega),zD])
 exact⟨z,by rw[h1,h2]⟩
end
section
variable {a0:Int} {a1 a2:List Int} {a3:Int} {a4:List cv} {a5:Int} {a6:List cv} {a7 a8:Int}
theorem bN1 {a9:List (Int×Int)}(h1:ci a1)(h2:ci a2)(h4: ∀o∈a4,okV o)(h6: ∀o∈a6,okV o):qM a0 a1 a2 a3 a4 a5 a6 a7 a8 a9=some true:=by
 unfold qM;rcases cI3 (a0:=a0) (a1:=a1) (a2:=a2) (a3:=a3) (a5:=a5) (a7:=a7) (a8:=a8) h4 h6 with hs|⟨hs,o4,o6,x1,x2⟩
 ·rw[hs,bc4];rfl
 rw[hs];simp only[zG,aB,zD];by_cases c1:(80:Int)<((a9.length:Nat):Int)
 ·rw[zB c1,bc4];rfl
 rw[zA c1];simp only[zD];by_cases hp:(jm a0 a1.length a2.length a3 a4 a5 a6 a7 a8).2.2.2.2≠0
 ·rw[cA2 o4 o6 hp];simp only[zG,kg];rw[cn2 o4 o6 hp];simp only[zG];rw[zB hp,zC];simp only[decide_true,zC];rw[bc4];rfl
 obtain⟨c,hc,e0,e1,e2,e3,e4,e5,e6,e7,e8,e9⟩:=de0 o4 o6 (show(jm a0 a1.length a2.length a3 a4 a5 a6 a7 a8).2.2.2.2=0 by omega);subst e0 e1 e2 e3 e4 e5 e6 e7 e8;by_cases hm:c.mode=3
 ·obtain⟨q1,q2⟩:=cv1 hc h2 h1 hm;have w:=bt3 hc hm a9 0;have b:Both1 c 0 (new1 c) (cv0 c):=⟨w,q1,q2,rfl⟩;have hsm:=aF3 hc h2 hm e9 w.inv q1 q2;obtain⟨z,hz⟩:=bP3 hc h2 hm e9 (l:=a9) (by omega) b;rw[dc7 hc hm e9];simp only[zG,dp,kg];rw[ca4 hc hm e9];simp only[zG];rw[zA (by simp),zD];refine(congrArg (fun t=>aD t _) hsm).trans ?_;simp only[zG,aB,zD];refine(congrArg (fun t=>aD t _) hz).trans ?_;simp only[zG,dp];rw[bc4];rfl
 ·obtain⟨q1,q2⟩:=cv2 hc h2 h1 hm;have w:=bt4 hc hm a9 0;have b:Both2 c 0 (new2 c) (bd9 c):=⟨w,q1,q2⟩;have hsm:=aF4 hc h2 hm e9 w.inv q1 q2;obtain⟨z,hz⟩:=bP4 hc h2 hm e9 (l:=a9) (by omega) b;rw[dc8 hc hm e9];simp only[zG,dp,kg];rw[ca5 hc hm e9];simp only[zG];rw[zA (by simp),zD];refine(congrArg (fun t=>aD t _) hsm).trans ?_;simp only[zG,aB,zD];refine(congrArg (fun t=>aD t _) hz).trans ?_;simp only[zG,dp];rw[bc4];rfl
end
end
end Go.V
