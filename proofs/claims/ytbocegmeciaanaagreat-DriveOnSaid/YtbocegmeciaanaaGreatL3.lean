/- A part of the proofs of this claim: what functions of the program answer on an abstract machine, and plain laws. No condition. -/
import Derived.Test.YtbocegmeciaanaaGreatL2
set_option linter.unusedVariables false
set_option linter.unusedSimpArgs false
set_option linter.unusedSectionVars false
namespace Go.V
open Go.Ab
set_option maxRecDepth 100000
theorem bV0 {m:Int}{x t:Nat}{R:Int}{l:List ec}{Q:Int}{k:List ec}{n b:Int}(hl:OpsOk l)(hk:OpsOk k)(h:(ta m x t R l Q k n b).2.2.2.2=0):
  ac3 m x t R l Q k n b=0∧∃ns,ta m x t R l Q k n b=(vN x t R Q,uo m l k,vu m x R l,ns,0)∧(0≤ns∧ns≤1048576)∧vN x t R Q+uo m l k+vu m x R l*ns≤b∧(m=3→ns=n):=by
 unfold ta at h⊢;by_cases hc:ac3 m x t R l Q k n b≠0
 ·rw[if_pos hc]at h;exact(hc h).elim
 rw[if_neg hc]at h⊢;have hc:ac3 m x t R l Q k n b=0:=by omega
 have s:=br8 hl hk hc;have f:=aW7 hl hk hc;have g1:=f.mode;have g2:=f.len;have g3:=f.bud;have g4:=s.xs;have g5:=s.ts;have g6:=s.r;have g7:=s.r';have g8:=s.tp;have g9:=s.sl;have hfx:0≤vN x t R Q∧vN x t R Q≤1000:=by unfold vN;omega
 split at h
 ·cases h
 rename_i c;rw[if_neg c];refine⟨hc,_,rfl, ?_, ?_,fun h3=>if_pos h3⟩
 ·split
  ·omega
  ·rename_i c3;unfold least at c;rw[if_neg c3]at c;have hd2:(b-vN x t R Q-uo m l k) / vu m x R l≤b-vN x t R Q-uo m l k:=Int.ediv_le_self _ (by omega);have hd1:0≤(b-vN x t R Q-uo m l k) / vu m x R l:=Int.ediv_nonneg (by omega) (by omega);omega
 ·unfold least at c;split
  ·rename_i c3;rw[if_pos c3,Int.mul_comm]at c;omega
  ·rename_i c3;rw[if_neg c3]at c;have:=Int.mul_ediv_self_le (x:=b-vN x t R Q-uo m l k) (k:=vu m x R l) (by omega);omega
theorem cC7 {m:Int}{X T:List Int}{R:Int}{l:List ec}{Q:Int}{k:List ec}{n b:Int}(hl:OpsOk l)(hk:OpsOk k)(h:(ta m X.length T.length R l Q k n b).2.2.2.2=0):
  ∃c:Cx,c.Ok∧c.mode=m∧c.X=X∧c.T=T∧c.R=R∧c.l=l∧c.Q=Q∧c.k=k∧c.len=n∧c.words=b∧ta m X.length T.length R l Q k n b=(c.fixed,c.tp,c.sl,c.ns,0):=by
 obtain⟨hc,ns,h1,h2,h3,h4⟩:=bV0 hl hk h;obtain⟨h5,h6⟩:=bU8 (bg8 hc).1;obtain⟨fl,hfl⟩:=cd7 hl h5;obtain⟨fk,hfk⟩:=cd7 hk h6;exact⟨⟨m,R,Q,n,b,X,T,l,k,fl,fk,vN X.length T.length R Q,uo m l k,vu m X.length R l,ns⟩,⟨hl,hk,hc,hfl,hfk,rfl,rfl,rfl,h2,h3,h4⟩,rfl,rfl,rfl,rfl,rfl,rfl,rfl,rfl,rfl,h1⟩
section
variable {c:Cx}
theorem Cx.Ok.plan (h:c.Ok):ta c.mode c.X.length c.T.length c.R c.l c.Q c.k c.len c.words=(c.fixed,c.tp,c.sl,c.ns,0)→sL c.mode c.X c.T c.R c.l c.Q c.k c.len c.words=some (c.fixed,c.tp,c.sl,c.ns,0):=fun e=>by
 rw[bi5 h.hl h.hk,e]
theorem cn7 (h:c.Ok): ∀i,i<10→pre [((c.T.length:Nat):Int),((c.X.length:Nat):Int),c.R,c.Q,max c.R c.Q,((c.X.length:Nat):Int),((c.T.length:Nat):Int),c.tp,c.sl*c.ns] i=(c.off i:Int):=by
 have n:=h.num;have nR:=n.R;have nQ:=n.Q;have nm:=n.mul;have htp:0≤c.tp:=by rw[n.tp];split<;>omega
 have hs: ∀i,i<9→([((c.T.length:Nat):Int),((c.X.length:Nat):Int),c.R,c.Q,max c.R c.Q,((c.X.length:Nat):Int),((c.T.length:Nat):Int),c.tp,c.sl*c.ns]:List Int).getD i 0=(c.sz i:Int):=fun i hi=>by
  rcases(show i=0∨i=1∨i=2∨i=3∨i=4∨i=5∨i=6∨i=7∨i=8 by omega)with rfl|rfl|rfl|rfl|rfl|rfl|rfl|rfl|rfl
  ·rfl
  ·rfl
  ·show c.R=(c.R.toNat:Int);omega
  ·show c.Q=(c.Q.toNat:Int);omega
  ·show max c.R c.Q=((max c.R.toNat c.Q.toNat:Nat):Int);omega
  ·rfl
  ·rfl
  ·show c.tp=(c.tp.toNat:Int);omega
  ·show c.sl*c.ns=((c.sl*c.ns).toNat:Int);omega
 intro i;induction i with
 |zero=>intro _;rfl
 |succ i ih=>
  intro hi;simp only[pre];rw[ih (by omega),hs i (by omega)];show(c.off i:Int)+(c.sz i:Int)=((c.off i+c.sz i:Nat):Int);omega
theorem bI2 (h:c.Ok)(e:ta c.mode c.X.length c.T.length c.R c.l c.Q c.k c.len c.words=(c.fixed,c.tp,c.sl,c.ns,0)):uE c.mode c.X c.T c.R c.l c.Q c.k c.len c.words=some (0,c.P):=by
 have s:=br8 h.hl h.hk h.hc;have s':SFacts c.X.length c.T.length c.R c.Q c.tp c.sl:=by rw[h.tp,h.sl];exact s
 unfold uE;rw[h.plan e];simp only[Option.bind_some];rw[decide_eq_false (by simp),cond_false,aY0 h.hl h.hk h.hc];simp only[Option.bind_some];have hb:=bJ3 (n:=c.ns) s' h.ns;rw[←h.tp,←h.sl,bz8 hb];simp only[Option.bind_some]
 congr 2
 unfold Cx.P;apply List.map_congr_left;intro i hi;exact cn7 h i (List.mem_range.1 hi)
theorem bf4 {l:List ec}(h:l.length≤100):gu l=some l:=by
 unfold gu;rw[gv (by omega) (by omega)]
theorem vi {l:List Int}(h:l.length≤1048576):cu l=some l:=by
 unfold cu;rw[gv (by omega) (by omega)]
theorem aE5 (h:c.Ok)(e:ta c.mode c.X.length c.T.length c.R c.l c.Q c.k c.len c.words=(c.fixed,c.tp,c.sl,c.ns,0)):
  ol c.mode c.X c.T c.R c.l c.Q c.k c.len c.words=some (.inr (c.fixed,c.tp,c.sl,c.ns,c.mode,c.R,c.Q,c.len,c.words,c.len,c.X,c.T,c.l,c.k,c.P)):=by
 have n:=h.num;have nx:=n.x;have nt:=n.t;unfold ol;rw[h.plan e];simp only[Option.bind_some];rw[decide_eq_false (by simp),cond_false,bf4 h.hl.len,bf4 h.hk.len,vi (by omega),vi (by omega)];simp only[Option.bind_some];rw[bI2 h e];rfl
theorem bV1 {m:Int}{X T:List Int}{R:Int}{l:List ec}{Q:Int}{k:List ec}{n b:Int}(hl:OpsOk l)(hk:OpsOk k)(h:(ta m X.length T.length R l Q k n b).2.2.2.2≠0):ol m X T R l Q k n b=some (.inl (ta m X.length T.length R l Q k n b).2.2.2.2):=by
 unfold ol;rw[bi5 hl hk];simp only[Option.bind_some];rw[decide_eq_true h,cond_true]
def cc1 (c:Cx)(W:List Int):List Int:=put (put W (c.off 0) c.T) (c.off 1) c.X
def new1 (c:Cx):Dy:=⟨c.len,0,-1,0,0,0,0,0,c.fixed,c.fixed,cc1 c (iD c.words.toNat)⟩
def new2 (c:Cx):Dy:=⟨c.len,0,-1,0,0,0,0,0,c.fixed,c.fixed,cc1 c (put (iD c.words.toNat) (c.off 8) (iD (c.sl*c.ns).toNat))⟩
theorem zr :Wd c (iD c.words.toNat):=fi _
theorem vl (h:c.Ok):0≤c.fixed∧c.fixed≤c.words∧1≤c.fixed∧c.fixed=(c.off 7:Int):=by
 have n:=h.num;have nR:=n.R;have nQ:=n.Q;have nf:=n.fixed;have nm:=n.mul;have ft:=h.fit;have htp:0≤c.tp:=by rw[n.tp];split<;>omega
 refine⟨by omega,by omega,by omega, ?_⟩;rw[cz7,nf];omega
theorem aD7 (h:c.Ok){W:List Int}(hW:Wd c W):Wd c (put W (c.off 0) c.T)∧Wd c (cc1 c W)∧iB c W (cc1 c W):=by
 have h0:=qx (c:=c) (i:=0) (j:=9) (by omega);have h1:=qx (c:=c) (i:=1) (j:=9) (by omega);have z0:c.sz 0=c.T.length:=rfl;have z1:c.sz 1=c.X.length:=rfl;have w1:=hW.put h (w:=c.T) (o:=c.off 0) (by omega);have w2:=w1.put h (w:=c.X) (o:=c.off 1) (by omega);exact⟨w1,w2,iB.put h (iB.put h (iB.refl W) hW (i:=0) (by omega) (Nat.le_of_eq z0.symm)) w1 (i:=1) (by omega) (Nat.le_of_eq z1.symm)⟩
theorem bf1 (h:c.Ok):uO c.words=some (iD c.words.toNat):=by
 have f:=vl h;have n:=h.num;have nw:=n.words;unfold uO rW;rw[decide_eq_false (by omega),cond_false,decide_eq_false (by omega),cond_false];simp only[Option.bind_some];rw[decide_eq_false (by simp),cond_false,gdz (by omega)];rfl
theorem bh6 (h:c.Ok):xW c.words=some (0,0,c.words):=by
 have n:=h.num;have nw:=n.words;unfold xW qZ;rw[decide_eq_false (show¬(0:Int)<0 by omega),decide_eq_false (show¬c.words<0 by omega)];rfl
theorem as9 {o n:Nat}{W:List Int}(h:o+n≤W.length)(hw:W.length≤1048576):dB (n:Int) (o:Int) W=some ((o:Int),0,((o+n:Nat):Int)):=by
 unfold dB sA;rw[decide_eq_false (by omega),cond_false];simp only[Option.bind_some];rw[bD (n:=(W.length:Int)-o) (by omega),decide_eq_false (by omega),cond_false,bD (n:=(o:Int)+n) (by omega)]
 congr 2
theorem cB9 (h:c.Ok)(hm:c.mode=3)(e:ta c.mode c.X.length c.T.length c.R c.l c.Q c.k c.len c.words=(c.fixed,c.tp,c.sl,c.ns,0)):
  nj c.mode c.X c.T c.R c.l c.Q c.k c.len c.words=some (.inr (.inl (c.fixed,c.tp,c.sl,c.ns,c.mode,c.R,c.Q,c.len,c.words,c.len,c.X,c.T,c.l,c.k,c.P,c.tk,c.fixed,c.fixed,c.words,(new1 c).W))):=by
 have f:=vl h;have n:=h.num;have nw:=n.words;have nm:=n.mul;have h9:=h.off9_le;have h89:c.off 9=c.off 8+(c.sl*c.ns).toNat:=be3;have hzl:(iD c.words.toNat).length=c.words.toNat:=fi _;obtain⟨w1,w2,w3⟩:=aD7 h (zr (c:=c));unfold nj;rw[aE5 h e];simp only[Option.bind_some,dw];rw[bf1 h,bh6 h];simp only[Option.bind_some];rw[rA (by omega) (by omega) (by omega) (by omega)];simp only[Option.bind_some];rw[show ix 8 c.P.length=some 8 from dk (k:=8) (by rw[Cx.P_len];omega)];simp only[Option.bind_some];rw[Cx.P_get (show 8<10 by omega)];simp only[Option.bind_some];rw[show dB (c.off 8:Int) 0 (iD c.words.toNat)=some (((0:Nat):Int),0,((0+c.off 8:Nat):Int))from as9 (o:=0) (n:=c.off 8) (by rw[Nat.zero_add,hzl];omega) (by omega)];unfold ia;simp only[Option.bind_some];rw[decide_eq_true hm,cond_true,Int.mul_comm,bD (n:=c.sl*c.ns) (by omega),show c.sl*c.ns=((c.sl*c.ns).toNat:Int)by omega,as9 (by omega) (by omega)]
 simp only[Option.bind_some,kf];have etk:((0+c.off 8+(c.sl*c.ns).toNat:Nat):Int)=c.tk:=by unfold Cx.tk;omega
 rw[etk,aO9 (ii:=0) (i:=0) h zr rfl (by omega) (Nat.le_refl _)];simp only[Option.bind_some];rw[aO9 (ii:=1) (i:=1) h w1 rfl (by omega) (Nat.le_refl _)];simp only[Option.bind_some];have ef:(0:Int)+c.fixed=c.fixed:=by omega
 have em:max (0:Int) c.fixed=c.fixed:=by omega
 rw[ef,em];rfl
theorem cC0 (h:c.Ok)(hm:c.mode≠3)(e:ta c.mode c.X.length c.T.length c.R c.l c.Q c.k c.len c.words=(c.fixed,c.tp,c.sl,c.ns,0)):
  nj c.mode c.X c.T c.R c.l c.Q c.k c.len c.words=some (.inr (.inr (c.fixed,c.tp,c.sl,c.ns,c.mode,c.R,c.Q,c.len,c.words,c.len,c.X,c.T,c.l,c.k,c.P,c.tk,(c.off 8:Int),c.ns,(c.X.length:Int),c.fixed,c.fixed,c.words,(new2 c).W))):=by
 have f:=vl h;have n:=h.num;have nw:=n.words;have nm:=n.mul;have nx:=n.x;have nns:=h.ns;have h9:=h.off9_le;have h89:c.off 9=c.off 8+(c.sl*c.ns).toNat:=be3;have hzl:(iD c.words.toNat).length=c.words.toNat:=fi _;have hsl:=n.sl;rw[if_neg hm]at hsl;have w0:Wd c (put (iD c.words.toNat) (c.off 8) (iD (c.sl*c.ns).toNat)):=(zr (c:=c)).put h (by rw[fi];omega);obtain⟨w1,w2,w3⟩:=aD7 h w0;unfold nj;rw[aE5 h e];simp only[Option.bind_some,dw];rw[bf1 h,bh6 h];simp only[Option.bind_some];rw[rA (by omega) (by omega) (by omega) (by omega)];simp only[Option.bind_some];rw[show ix 8 c.P.length=some 8 from dk (k:=8) (by rw[Cx.P_len];omega)];simp only[Option.bind_some];rw[Cx.P_get (show 8<10 by omega)];simp only[Option.bind_some];rw[show dB (c.off 8:Int) 0 (iD c.words.toNat)=some (((0:Nat):Int),0,((0+c.off 8:Nat):Int))from as9 (o:=0) (n:=c.off 8) (by rw[Nat.zero_add,hzl];omega) (by omega)];unfold ia
 simp only[Option.bind_some];rw[decide_eq_false hm,cond_false];unfold ai8 nz fq;rw[decide_eq_true (show 0≤c.ns by omega),decide_eq_true (show c.ns≤1048576 by omega),decide_eq_true (show 1≤(c.X.length:Int)by omega),decide_eq_true (show(c.X.length:Int)≤64 by omega)];simp only[cond_true,cond_false,Bool.not_true,Option.bind_some];rw[bD (n:=(c.X.length:Int)+1) (by omega),←hsl,Int.mul_comm c.ns,bD (n:=c.sl*c.ns) (by omega)];have esn:c.sl*c.ns=(((c.sl*c.ns).toNat:Nat):Int):=by omega
 rw[show dB (c.sl*c.ns) ((0+c.off 8:Nat):Int) (iD c.words.toNat)=some (((0+c.off 8:Nat):Int),0,((0+c.off 8+(c.sl*c.ns).toNat:Nat):Int))from by
  conv=>lhs;rw[esn]
  exact as9 (by omega) (by omega)]
 simp only[Option.bind_some];rw[decide_eq_false (by simp),cond_false,gdz (by omega),show List.replicate (c.sl*c.ns).toNat (0:Int)=iD (c.sl*c.ns).toNat from rfl,sU (by rw[fi];exact Nat.le_refl _) (by omega) (by omega),Nat.zero_add];simp only[Option.bind_some,dw];have etk:((c.off 8+(c.sl*c.ns).toNat:Nat):Int)=c.tk:=by unfold Cx.tk;omega
 rw[etk,aI7 (ii:=0) (i:=0) h w0 rfl (by omega) (Nat.le_refl _)];simp only[Option.bind_some];rw[aI7 (ii:=1) (i:=1) h w1 rfl (by omega) (Nat.le_refl _)];simp only[Option.bind_some];have ef:(0:Int)+c.fixed=c.fixed:=by omega
 have em:max (0:Int) c.fixed=c.fixed:=by omega
 rw[ef,em];rfl
theorem cb9 (h:c.Ok)(hm:c.mode=3):InvB c (new1 c):=by
 have f:=vl h;have n:=h.num;have nl:=n.len;refine⟨(aD7 h zr).2.1,rfl,⟨Int.le_refl _,by show 0≤c.len;omega⟩,⟨by show(-1:Int)≤ -1;omega,by show(-1:Int)≤c.len;omega⟩,fun hq=> ?_, ?_,⟨Int.le_refl _,f.2.1⟩⟩
 ·have hq:(0:Int)≤ -1:=hq;omega
 ·show c.fixed=c.fixed+c.sl*0;omega
theorem by6 (h:c.Ok)(hm:c.mode≠3){k:Nat}(hk:k<c.ns.toNat):jg c (new2 c).W k=0:=by
 have h9:=h.off9_le;have nw:=h.num.words;have h89:c.off 9=c.off 8+(c.sl*c.ns).toNat:=be3;have w0:Wd c (put (iD c.words.toNat) (c.off 8) (iD (c.sl*c.ns).toNat)):=(zr (c:=c)).put h (by rw[fi];omega);obtain⟨w1,w2,w3⟩:=aD7 h w0;show jg c (cc1 c _) k=0;rw[w3.tag];obtain⟨s1,_,_⟩:=ap3 h hm hk;unfold jg rg;rw[Int.toNat_natCast,List.getD_eq_getElem?_getD,br0 (by rw[fi,fi];omega)];unfold iD;split
 ·rw[List.getElem?_replicate];split<;>rfl
 ·rw[List.getElem?_replicate];split<;>rfl
theorem cc0 (h:c.Ok)(hm:c.mode≠3):Inv c (new2 c):=by
 have f:=vl h;have n:=h.num;have nl:=n.len;have nw:=n.words;have h9:=h.off9_le;have h89:c.off 9=c.off 8+(c.sl*c.ns).toNat:=be3;have w0:Wd c (put (iD c.words.toNat) (c.off 8) (iD (c.sl*c.ns).toNat)):=(zr (c:=c)).put h (by rw[fi];omega)
 have hu:jh c (new2 c).W=0:=by
  unfold jh;rw[List.countP_eq_zero];intro k hk;rw[by6 h hm (List.mem_range.1 hk)];decide
 refine⟨(aD7 h w0).2.1,⟨by show 0≤c.len;omega,by show c.len≤65535;omega⟩,⟨Int.le_refl _,by show 0≤c.len;omega⟩,⟨by show(-1:Int)≤ -1;omega,by show(-1:Int)≤c.len;omega⟩,fun k hk=> ?_, ?_,⟨Int.le_refl _,f.2.1⟩⟩
 ·rw[by6 h hm hk];exact⟨Int.le_refl _,by show(0:Int)≤c.len+1;omega⟩
 ·rw[hu];show c.fixed=c.fixed+c.sl*0;omega
end
theorem dne {x:Int}{i:Decidable (x≠x)}: @decide (x≠x) i=false:=decide_eq_false fun k=>k rfl
section
variable {c:Cx}
def bB6 (c:Cx)(s:Dy):Int×Int×Int×Int×Int×Int×Int×Int×Int×Int×Int×Int×Int×Int×Int×Int:=
 (IntKind.u64.wrap c.mode,IntKind.u64.wrap s.L,IntKind.u64.wrap s.p,IntKind.u64.wrap (IntKind.i64.wrap (s.q+1)),IntKind.u64.wrap c.ns,IntKind.u64.wrap s.c0,IntKind.u64.wrap s.c1,IntKind.u64.wrap s.c2,IntKind.u64.wrap s.c3,IntKind.u64.wrap s.lv,IntKind.u64.wrap s.pk,s.z,0,0,0,0)
theorem bu6 (s:Dy):fj c.fixed c.tp c.sl c.ns c.mode c.R c.Q c.len c.words s.L s.p s.q s.c0 s.c1 s.c2 s.c3 s.z c.X c.T c.l c.k c.P c.tk s.lv s.pk c.words s.W=some (bB6 c s):=by
 unfold fj rQ rR lu lw;simp only[Option.bind_some];have key:cw (rL c.ns c.mode s.L s.p s.q s.c0 s.c1 s.c2 s.c3 s.lv s.pk) iJ ((0,0,0,0,0,0,0,0,0,0,0,0,0,0,0,0,0))=some (IntKind.u64.wrap c.mode,IntKind.u64.wrap s.L,IntKind.u64.wrap s.p,IntKind.u64.wrap (IntKind.i64.wrap (s.q+1)),IntKind.u64.wrap c.ns,IntKind.u64.wrap s.c0,IntKind.u64.wrap s.c1,IntKind.u64.wrap s.c2,IntKind.u64.wrap s.c3,IntKind.u64.wrap s.lv,IntKind.u64.wrap s.pk,0,0,0,0,0):=by kernel_rfl
 rw[key];rfl
theorem bu7 (s:Dy){sb sn sx:Int}:ej c.fixed c.tp c.sl c.ns c.mode c.R c.Q c.len c.words s.L s.p s.q s.c0 s.c1 s.c2 s.c3 s.z c.X c.T c.l c.k c.P c.tk sb sn sx s.lv s.pk c.words s.W=some (bB6 c s):=by
 unfold ej qJ qK lu lw;simp only[Option.bind_some];have key:cw (qU c.ns c.mode s.L s.p s.q s.c0 s.c1 s.c2 s.c3 s.lv s.pk) iJ ((0,0,0,0,0,0,0,0,0,0,0,0,0,0,0,0,0))=some (IntKind.u64.wrap c.mode,IntKind.u64.wrap s.L,IntKind.u64.wrap s.p,IntKind.u64.wrap (IntKind.i64.wrap (s.q+1)),IntKind.u64.wrap c.ns,IntKind.u64.wrap s.c0,IntKind.u64.wrap s.c1,IntKind.u64.wrap s.c2,IntKind.u64.wrap s.c3,IntKind.u64.wrap s.lv,IntKind.u64.wrap s.pk,0,0,0,0,0):=by kernel_rfl
 rw[key];rfl
theorem bW6 {l:List Int}(hl:l.length<1000000):cw (iV l) iJ (0,0)=some ((l.countP fun t=>decide (0≤t):Nat):Int):=by
 have h: ∀i,((l.take i).countP fun t=>decide (0≤t))≤l.length:=fun i=>Nat.le_trans List.countP_le_length (by simp;omega)
 have key:cw (iV l) iJ (0,(((l.take 0).countP fun t=>decide (0≤t):Nat):Int))=some (((l.take l.length).countP fun t=>decide (0≤t):Nat):Int):=by
  refine qD (n:=l.length) (fun i=>(((l.take i).countP fun t=>decide (0≤t):Nat):Int)) (by omega) (fun i hi=> ?_) ?_
  ·have h1:=h i;unfold iV;simp only;rw[decide_eq_true (show(i:Int)<(l.length:Int)by omega),cond_true,dk hi];simp only[Option.bind_some];rw[List.getElem?_eq_getElem hi];simp only[Option.bind_some];rw[bD (n:=(i:Int)+1) (by omega),List.take_succ_eq_append_getElem hi,List.countP_append,ck];by_cases hp:0≤l[i]
   ·rw[if_pos hp,bD (by omega)];simp[hp]
   ·rw[if_neg hp];simp[hp]
  ·unfold iV;simp only;rw[decide_eq_false (by omega),cond_false]
 rw[List.take_length]at key;exact key
theorem bW7 (W:List Int):((ap7 c W).countP fun t=>decide (0≤t))=jh c W:=by
 unfold ap7 jh;rw[List.countP_map];apply List.countP_congr;intro k _;simp only[Function.comp,decide_eq_true_eq];omega
theorem bs3 (h:c.Ok)(hm:c.mode≠3){W:List Int}(hW:Wd c W)(ht: ∀k,k<c.ns.toNat→0≤jg c W k∧jg c W k≤65536):su (c.off 8:Int) c.ns (c.X.length:Int) c.tk W=some (.inr ((c.off 8:Int),c.ns,(c.X.length:Int))):=by
 have n:=h.num;have nx:=n.x;have nns:=h.ns;have nm:=n.mul;have nw:=n.words;have hsl:=n.sl;rw[if_neg hm]at hsl;have h9:=h.off9_le;have h89:c.off 9=c.off 8+(c.sl*c.ns).toNat:=be3;obtain⟨t1,t2⟩:=hW.tk h;unfold su nz fq;rw[decide_eq_true (show 0≤c.ns by omega),decide_eq_true (show c.ns≤1048576 by omega),decide_eq_true (show 1≤(c.X.length:Int)by omega),decide_eq_true (show(c.X.length:Int)≤64 by omega)];simp only[cond_true,cond_false,Bool.not_true,Option.bind_some];rw[bD (n:=(c.X.length:Int)+1) (by omega),←hsl,Int.mul_comm c.ns,bD (n:=c.sl*c.ns) (by omega)]
 have hrd:ek (c.off 8:Int) (c.sl*c.ns) c.tk W=some (0,seg W (c.off 8) (c.sl*c.ns).toNat):=by
  have:=xe (W:=W) (o:=c.off 8) (n:=(c.sl*c.ns).toNat) (tk:=c.off 9) (by omega) t1 t2;rw[Int.toNat_of_nonneg nm]at this;exact this
 rw[hrd];simp only[Option.bind_some];rw[decide_eq_false (by simp),cond_false]
 have key:cw (qh (c.off 8:Int) c.ns (c.X.length:Int) c.tk W) iJ 0=some (.inr ()):=by
  refine uv (n:=c.ns.toNat) (by omega) (fun i hi=> ?_) ?_
  ·have hti:=ht i hi;unfold qh;rw[decide_eq_true (by omega),cond_true,xr h hm hi];simp only[Option.bind_some];rw[aF6 h hm hW hi];simp only[Option.bind_some];rw[decide_eq_false (by omega),cond_false,bD (by omega)];rfl
  ·unfold qh;rw[decide_eq_false (by omega),cond_false]
 rw[key];rfl
def cq0 (c:Cx)(s:Dy):Int×Int×Int×Int×Int×Int×Int×Int×Int×Int×Int×Int×Int×Int×Int×Int×Int×(List Int)×(List Int)×(List (Int×Int×Int×Int×Int))×(List (Int×Int×Int×Int×Int))×(List Int)×Int×Int×Int×Int×List Int:=
 (c.fixed,c.tp,c.sl,c.ns,c.mode,c.R,c.Q,c.len,c.words,s.L,s.p,s.q,s.c0,s.c1,s.c2,s.c3,s.z,c.X,c.T,c.l,c.k,c.P,c.tk,s.lv,s.pk,c.words,s.W)
def cq1 (c:Cx)(s:Dy):Int×Int×Int×Int×Int×Int×Int×Int×Int×Int×Int×Int×Int×Int×Int×Int×Int×(List Int)×(List Int)×(List (Int×Int×Int×Int×Int))×(List (Int×Int×Int×Int×Int))×(List Int)×Int×Int×Int×Int×Int×Int×Int×List Int:=
 (c.fixed,c.tp,c.sl,c.ns,c.mode,c.R,c.Q,c.len,c.words,s.L,s.p,s.q,s.c0,s.c1,s.c2,s.c3,s.z,c.X,c.T,c.l,c.k,c.P,c.tk,(c.off 8:Int),c.ns,(c.X.length:Int),s.lv,s.pk,c.words,s.W)
theorem wIU {n:Int}(h:0≤n∧n≤9223372036854775807):IntKind.i64.wrap (IntKind.u64.wrap n)=n:=by
 rw[ga (by omega),bD (by omega)]
theorem aT5 (h:c.Ok){W:List Int}(hW:Wd c W):wh W=some (.inr W):=by
 have f:=vl h;have nw:=h.num.words;unfold Wd at hW;unfold wh rW;rw[decide_eq_false (by omega),cond_false,decide_eq_false (by omega),cond_false];simp only[Option.bind_some];rw[decide_eq_false (by simp),cond_false,vi (by omega)];rfl
theorem by4 {b lv pk:Int}(h:0≤lv)(h1:lv≤pk)(h2:pk≤b):qZ b lv pk=some (.inr (lv,pk,b)):=by
 unfold qZ;rw[decide_eq_false (by omega),cond_false,decide_eq_false (by omega),cond_false,decide_eq_false (by omega),cond_false]
def be7 (c:Cx)(s:Dy):Prop:=c.mode≠2→s.L=c.len
theorem cs1 (h:c.Ok)(hm:c.mode≠3)(e:ta c.mode c.X.length c.T.length c.R c.l c.Q c.k c.len c.words=(c.fixed,c.tp,c.sl,c.ns,0)){s:Dy}(hi:Inv c s)(hL:be7 c s){B:Int}(hc:Cnt B s)(hB:B≤2305843009213693952):
  oj c.mode c.X c.T c.R c.l c.Q c.k c.len c.words s.W (IntKind.u64.wrap c.mode) (IntKind.u64.wrap s.L) (IntKind.u64.wrap s.p) (IntKind.u64.wrap (IntKind.i64.wrap (s.q+1))) (IntKind.u64.wrap c.ns) (IntKind.u64.wrap s.c0) (IntKind.u64.wrap s.c1) (IntKind.u64.wrap s.c2) (IntKind.u64.wrap s.c3) (IntKind.u64.wrap s.lv) (IntKind.u64.wrap s.pk) s.z 0 0 0 0=some (.inr (.inr (cq1 c s))):=by
 have n:=h.num;have f:=vl h;have nw:=n.words;have nns:=h.ns;have nm:=n.mul;have nlen:=n.len;have nmode:=n.mode;have hW:=hi.w;have hp:=hi.p;have hq:=hi.q;have hLL:=hi.L;have hpk:=hi.pk;obtain⟨k0,k1,k2,k3⟩:=hc.in' hB;obtain⟨g1,g2,g3,g4⟩:=aD5 h hi;have h9:=h.off9_le;have h89:c.off 9=c.off 8+(c.sl*c.ns).toNat:=be3;obtain⟨t1,t2⟩:=hW.tk h;have hWl:s.W.length=c.words.toNat:=hW;unfold oj;rw[aE5 h e];simp only[Option.bind_some,dw];rw[ga (n:=((s.W.length:Nat):Int)) (by omega),ga (n:=c.words) (by omega),decide_eq_false (show¬(((s.W.length:Nat):Int)≠c.words)by omega),cond_false,dne,cond_false,dne,cond_false]
 have hlong:ja (IntKind.u64.wrap s.L) c.fixed c.tp c.sl c.ns c.mode c.R c.Q c.len c.words c.len 0 (-1) 0 0 0 0 0 c.X c.T c.l c.k c.P=some true:=by
  unfold ja;rw[ck];by_cases h2:c.mode=2
  ·rw[if_pos h2,ga (by omega),decide_eq_true (by omega)]
  ·rw[if_neg h2,hL h2,decide_eq_true rfl]
 rw[hlong];simp only[Option.bind_some,Bool.not_true,cond_false];have hq1:IntKind.i64.wrap (s.q+1)=s.q+1:=bD (by omega);rw[hq1,ga (n:=s.L) (by omega),ga (n:=s.p) (by omega),ga (n:=s.q+1) (by omega),ga (n:=s.L+1) (by omega),ga (n:=s.lv) (by omega),ga (n:=s.pk) (by omega),decide_eq_false (show¬s.L<s.p by omega),cond_false,decide_eq_false (show¬s.L+1<s.q+1 by omega),cond_false,decide_eq_false (show¬c.words<s.lv by omega),cond_false,decide_eq_false (show¬c.words<s.pk by omega),cond_false,aT5 h hW];simp only[Option.bind_some,dw];rw[show ix 8 c.P.length=some 8 from dk (k:=8) (by rw[Cx.P_len];omega)];simp only[Option.bind_some];rw[Cx.P_get (show 8<10 by omega)];simp only[Option.bind_some]
 have etk:dB (IntKind.i64.wrap ((c.off 8:Int)+IntKind.i64.wrap (c.ns*c.sl))) 0 s.W=some (0,0,c.tk):=by
  rw[Int.mul_comm,bD (n:=c.sl*c.ns) (by omega),bD (by omega),show(c.off 8:Int)+c.sl*c.ns=((c.off 9:Nat):Int)by omega];have:=as9 (o:=0) (n:=c.off 9) (W:=s.W) (by omega) (by omega);rw[Nat.zero_add]at this;exact this
 rw[etk];simp only[Option.bind_some];rw[bD (n:=s.L) (by omega),bD (n:=s.p) (by omega),bD (n:=s.q+1) (by omega),bD (n:=s.q+1-1) (by omega),show s.q+1-1=s.q by omega];unfold jz gk;simp only[Option.bind_some];rw[decide_eq_false hm,cond_false,show ix 8 c.P.length=some 8 from dk (k:=8) (by rw[Cx.P_len];omega)];simp only[Option.bind_some];rw[Cx.P_get (show 8<10 by omega)];simp only[Option.bind_some];have htag: ∀k,k<c.ns.toNat→0≤jg c s.W k∧jg c s.W k≤65536:=fun k hk=>by have:=hi.tag k hk;omega
 rw[bs3 h hm hW htag];simp only[Option.bind_some,dw];unfold qL
 have hlen:(ap7 c s.W).length<1000000:=by
  rw[ap8];rcases Nat.eq_zero_or_pos c.ns.toNat with h0|h0
  ·omega
  ·have:=(ap3 h hm h0).2.2;omega
 rw[aQ5 h hm hW htag];simp only[Option.bind_some];rw[aX5 hLL hp hq hlen (bC6 hi.tag)];simp only[Option.bind_some,dw,Bool.not_true,cond_false];unfold qN mw;simp only[Option.bind_some];rw[decide_eq_false hm,Bool.not_false,cond_true];unfold rf;rw[aQ5 h hm hW htag];simp only[Option.bind_some];rw[bW6 hlen,bW7];simp only[Option.bind_some];have hlv:=hi.lv;have hul:=bP7 c s.W;have hsl1:1≤c.sl:=by have:=n.sl;rw[if_neg hm]at this;omega
 have h8:c.sl*(jh c s.W:Int)≤c.sl*c.ns:=Int.mul_le_mul_of_nonneg_left (by omega) (by omega);have h8':0≤c.sl*(jh c s.W:Int):=Int.mul_nonneg (by omega) (by omega);rw[Int.mul_comm ((jh c s.W:Nat):Int),bD (n:=c.sl*(jh c s.W:Int)) (by omega),bD (n:=c.fixed+c.sl*(jh c s.W:Int)) (by omega),bD (n:=s.lv) (by omega),decide_eq_false (show¬(s.lv≠c.fixed+c.sl*(jh c s.W:Int))by omega),cond_false];simp only[Option.bind_some,dw];rw[bD (n:=s.pk) (by omega),by4 g1 hpk.1 hpk.2];simp only[Option.bind_some,dw];rw[wIU (by omega),wIU (by omega),wIU (by omega),wIU (by omega)];rfl
theorem cs0 (h:c.Ok)(hm:c.mode=3)(e:ta c.mode c.X.length c.T.length c.R c.l c.Q c.k c.len c.words=(c.fixed,c.tp,c.sl,c.ns,0)){s:Dy}(hi:InvB c s){B:Int}(hc:Cnt B s)(hB:B≤2305843009213693952):
  oj c.mode c.X c.T c.R c.l c.Q c.k c.len c.words s.W (IntKind.u64.wrap c.mode) (IntKind.u64.wrap s.L) (IntKind.u64.wrap s.p) (IntKind.u64.wrap (IntKind.i64.wrap (s.q+1))) (IntKind.u64.wrap c.ns) (IntKind.u64.wrap s.c0) (IntKind.u64.wrap s.c1) (IntKind.u64.wrap s.c2) (IntKind.u64.wrap s.c3) (IntKind.u64.wrap s.lv) (IntKind.u64.wrap s.pk) s.z 0 0 0 0=some (.inr (.inl (cq0 c s))):=by
 have n:=h.num;have f:=vl h;have nw:=n.words;have nns:=h.ns;have nm:=n.mul;have nlen:=n.len;have nmode:=n.mode;have hW:=hi.w;have hp:=hi.p;have hq:=hi.q;have hLL:=hi.L;have hpk:=hi.pk;have hqp:=hi.qp;obtain⟨k0,k1,k2,k3⟩:=hc.in' hB;obtain⟨g1,g2,g3,g4,g5,g6,g7⟩:=bH2 h hm hi;have h9:=h.off9_le;have h89:c.off 9=c.off 8+(c.sl*c.ns).toNat:=be3;obtain⟨t1,t2⟩:=hW.tk h;have hWl:s.W.length=c.words.toNat:=hW;unfold oj;rw[aE5 h e];simp only[Option.bind_some,dw];rw[ga (n:=((s.W.length:Nat):Int)) (by omega),ga (n:=c.words) (by omega),decide_eq_false (show¬(((s.W.length:Nat):Int)≠c.words)by omega),cond_false,dne,cond_false,dne,cond_false]
 have hlong:ja (IntKind.u64.wrap s.L) c.fixed c.tp c.sl c.ns c.mode c.R c.Q c.len c.words c.len 0 (-1) 0 0 0 0 0 c.X c.T c.l c.k c.P=some true:=by
  unfold ja;rw[ck,if_neg (by omega),hLL,decide_eq_true rfl]
 rw[hlong];simp only[Option.bind_some,Bool.not_true,cond_false];have hq1:IntKind.i64.wrap (s.q+1)=s.q+1:=bD (by omega);rw[hq1,ga (n:=s.L) (by omega),ga (n:=s.p) (by omega),ga (n:=s.q+1) (by omega),ga (n:=s.L+1) (by omega),ga (n:=s.lv) (by omega),ga (n:=s.pk) (by omega),decide_eq_false (show¬s.L<s.p by omega),cond_false,decide_eq_false (show¬s.L+1<s.q+1 by omega),cond_false,decide_eq_false (show¬c.words<s.lv by omega),cond_false,decide_eq_false (show¬c.words<s.pk by omega),cond_false,aT5 h hW];simp only[Option.bind_some,dw];rw[show ix 8 c.P.length=some 8 from dk (k:=8) (by rw[Cx.P_len];omega)];simp only[Option.bind_some];rw[Cx.P_get (show 8<10 by omega)];simp only[Option.bind_some]
 have etk:dB (IntKind.i64.wrap ((c.off 8:Int)+IntKind.i64.wrap (c.ns*c.sl))) 0 s.W=some (0,0,c.tk):=by
  rw[Int.mul_comm,bD (n:=c.sl*c.ns) (by omega),bD (by omega),show(c.off 8:Int)+c.sl*c.ns=((c.off 9:Nat):Int)by omega];have:=as9 (o:=0) (n:=c.off 9) (W:=s.W) (by omega) (by omega);rw[Nat.zero_add]at this;exact this
 rw[etk];simp only[Option.bind_some];rw[bD (n:=s.L) (by omega),bD (n:=s.p) (by omega),bD (n:=s.q+1) (by omega),bD (n:=s.q+1-1) (by omega),show s.q+1-1=s.q by omega];unfold jz gk;simp only[Option.bind_some];rw[decide_eq_true hm,cond_true];simp only[Option.bind_some,kf,Bool.not_true,cond_false];unfold qM gk;simp only[Option.bind_some];rw[decide_eq_true hm,Bool.not_true,cond_false]
 have hheld:cond (decide (s.q<0)) (some s.p) (some s.q)=some (mr s):=by
  unfold mr;rw[ck];split<;>rfl
 rw[hheld];simp only[Option.bind_some];have hlv:=hi.lv;have hh:0≤mr s∧mr s≤c.ns:=by unfold mr;split<;>omega
 have hsl1:1≤c.sl:=by have:=n.sl;rw[if_pos hm]at this;have:=n.R;omega
 have h8:c.sl*mr s≤c.sl*c.ns:=Int.mul_le_mul_of_nonneg_left hh.2 (by omega);have h8':0≤c.sl*mr s:=Int.mul_nonneg (by omega) hh.1;rw[Int.mul_comm (mr s),bD (n:=c.sl*mr s) (by omega),bD (n:=c.fixed+c.sl*mr s) (by omega),bD (n:=s.lv) (by omega),decide_eq_false (show¬(s.lv≠c.fixed+c.sl*mr s)by omega),cond_false];simp only[Option.bind_some,dw,kf];rw[bD (n:=s.pk) (by omega),by4 g1 hpk.1 hpk.2];simp only[Option.bind_some,dw];rw[wIU (by omega),wIU (by omega),wIU (by omega),wIU (by omega)];rfl
end
section
variable {c:Cx}
theorem cn5 (h:c.Ok)(hm:c.mode=3){s:Dy}(hi:InvB c s)(a n:Int):InvB c (plF c a n s).2:=by
 have nm:=h.num;have hW:=hi.w;have hL:=hi.L;have hp:=hi.p;have hq:=hi.q;have hpk:=hi.pk;have hqp:=hi.qp;have hns:=h.ns;have nR:=nm.R;have n1:=nm.xtR;have nx:=nm.x;obtain⟨g1,g2,g3,g4,g5,g6,g7⟩:=bH2 h hm hi;have htp:=nm.tp;rw[if_pos hm]at htp;have l1:(seg s.W (c.off 1) c.X.length).length=c.X.length:=iu (hW.in' h (i:=1) (by omega));have z1:c.sz 1=c.X.length:=rfl;have o1:=qx (c:=c) (i:=1) (j:=9) (by omega);unfold plF;by_cases a8:a=8
 ·rw[if_pos a8];by_cases hn:n≠0
  ·rw[if_pos hn];exact hi
  rw[if_neg hn];by_cases hq0:0≤s.q
  ·rw[if_pos hq0];exact hi
  rw[if_neg hq0];by_cases hpl:s.p=s.L
  ·rw[if_pos hpl];exact hi
  rw[if_neg hpl];have hheld:mr s=s.p:=by unfold mr;rw[if_pos (by omega)]
  have hlt:s.p.toNat<c.ns.toNat:=by omega
  obtain⟨s1,s2,s3,s4⟩:=ap0 h hm hlt;obtain⟨f1,f2,f3⟩:=jd h hW s.p;have w1:=wO h hW s.p;have hla:((ki c s.W s.p).2.1++(ki c s.W s.p).1).length=c.sl.toNat:=by rw[List.length_append];omega
  have w2:=w1.put h (w:=(ki c s.W s.p).2.1++(ki c s.W s.p).1) (o:=zp c s.p.toNat) (by rw[hla];exact s3);have hbd:=g5 (by rw[hheld];omega);refine⟨w2.put h (by rw[List.length_take];omega),hL,⟨by show 0≤s.p+1;omega,by show s.p+1≤s.L;omega⟩,hq,fun hq1=> ?_, ?_, ?_⟩
  ·have hq1:0≤s.q:=hq1;omega
  ·show s.lv+c.sl=c.fixed+c.sl*(if s.q<0 then s.p+1 else s.q);rw[if_pos (by omega),hi.lv,hheld,Int.mul_add,Int.mul_one];omega
  ·show s.lv+c.sl≤max s.pk (s.lv+c.sl)∧max s.pk (s.lv+c.sl)≤c.words;omega
 rw[if_neg a8];by_cases a5:a=5
 ·rw[if_pos a5];by_cases hn:n≠0
  ·rw[if_pos hn];exact hi
  rw[if_neg hn];by_cases hq0:0≤s.q
  ·rw[if_pos hq0];exact hi
  rw[if_neg hq0];by_cases hpl:s.p≠s.L
  ·rw[if_pos hpl];exact hi
  rw[if_neg hpl];refine⟨(ac0 h hW l1).2,hL,hp,⟨by show-1≤s.L;omega,Int.le_refl _⟩,fun _=>by show s.p=s.L;omega, ?_, ?_⟩
  ·show s.lv=c.fixed+c.sl*(if s.L<0 then s.p else s.L);rw[if_neg (by omega),hi.lv];unfold mr;rw[if_pos (by omega),show s.p=s.L by omega]
  ·show s.lv≤max s.pk (s.lv+(c.fk.n:Int))∧max s.pk (s.lv+(c.fk.n:Int))≤c.words;omega
 rw[if_neg a5];by_cases a9:a=9
 ·rw[if_pos a9];by_cases hn:n≠0
  ·rw[if_pos hn];exact hi
  rw[if_neg hn];by_cases hq1:s.q<1
  ·rw[if_pos hq1];exact hi
  rw[if_neg hq1];have hlt:(s.q-1).toNat<c.ns.toNat:=by omega
  obtain⟨b1,b2,b3,b4,b5,b6⟩:=aL0 h hm hW hlt;obtain⟨v1,v2,v3⟩:=pS h (a:=(aT9 c s.W (s.q-1).toNat).2.1) hW (by omega) (by omega);refine⟨v3.put h (by rw[List.length_take];omega),hL,⟨by show 0≤s.q-1;omega,by show s.q-1≤s.L;omega⟩,⟨by show-1≤s.q-1;omega,by show s.q-1≤s.L;omega⟩,fun _=>rfl, ?_, ?_⟩
  ·show s.lv-c.sl=c.fixed+c.sl*(if s.q-1<0 then s.q-1 else s.q-1);have hheld:mr s=s.q:=by unfold mr;rw[if_neg (by omega)]
   rw[if_neg (by omega),hi.lv,hheld,Int.mul_sub,Int.mul_one];omega
  ·show s.lv-c.sl≤s.pk∧s.pk≤c.words;have:=nm.sl;rw[if_pos hm]at this;omega
 rw[if_neg a9];exact hi
theorem cn4 {s:Dy}{B:Int}(hc:Cnt B s)(a n:Int):Cnt (B+65536) (plF c a n s).2:=by
 have key:Cnt (B+65536) s:=by unfold Cnt at hc⊢;omega
 unfold plF
 repeat' split
 all_goals first|exact key|(unfold Cnt at hc⊢;simp only;omega)
def tT (c:Cx)(s:Dy):Int×Dy:=if c.mode≠2 then(19,s)else if 0≤s.q then(19,s)else if s.L=65535 then(14,s)else(0,{s with L:=s.L+1})
theorem bh7 {s:Dy}{B:Int}(hc:Cnt B s):Cnt (B+65536) (tT c s).2:=by
 have key:Cnt (B+65536) s:=by unfold Cnt at hc⊢;omega
 unfold tT
 repeat' split
 all_goals first|exact key|(unfold Cnt at hc⊢;simp only;omega)
theorem bH6 (hm:c.mode=3){s:Dy}(hi:InvB c s):InvB c (tT c s).2:=by
 unfold tT;rw[if_pos (by omega)];exact hi
theorem bH7 {s:Dy}(hi:Inv c s):Inv c (tT c s).2:=by
 unfold tT;split
 ·exact hi
 split
 ·exact hi
 split
 ·exact hi
 ·have:=hi.L;have:=hi.p;have:=hi.q;exact⟨hi.w,⟨by show 0≤s.L+1;omega,by show s.L+1≤65535;omega⟩,⟨hi.p.1,by show s.p≤s.L+1;omega⟩,⟨hi.q.1,by show s.q≤s.L+1;omega⟩,fun k hk=>by have:=hi.tag k hk;exact⟨this.1,by show jg c s.W k≤s.L+1+1;omega⟩,hi.lv,hi.pk⟩
theorem bT7 {s:Dy}(hl:be7 c s):be7 c (tT c s).2:=by
 intro hm;unfold tT;rw[if_pos hm];exact hl hm
theorem cz0 (a n:Int)(s:Dy):(doF c a n s).2.L=s.L:=by
 unfold doF;by_cases h1:qS a n=false∨7<a
 ·rw[if_pos h1]
 rw[if_neg h1];by_cases h4:(2≤a∧a≤4)∧c.ns≤n
 ·rw[if_pos h4]
 rw[if_neg h4]
 have two: ∀{P:Prop} [Decidable P] {x y:Int×Dy},x.2.L=s.L→y.2.L=s.L→(if P then x else y).2.L=s.L:=by
  intro P _ x y hx hy;by_cases hP:P
  ·rw[if_pos hP];exact hx
  ·rw[if_neg hP];exact hy
 exact two (two rfl rfl) (two (two rfl rfl) (two (two rfl rfl) (two (two rfl rfl) (two (two rfl (two rfl rfl)) (two (two rfl (two rfl rfl)) (two rfl (two rfl rfl)))))))
theorem ci7 {s:Dy}(hl:be7 c s)(a n:Int):be7 c (doF c a n s).2:=fun hm=>(cz0 a n s).trans (hl hm)
theorem cq5 {s:Dy}(hL:0≤s.L∧s.L≤65535):gx c.fixed c.tp c.sl c.ns c.mode c.R c.Q c.len c.words s.L s.p s.q s.c0 s.c1 s.c2 s.c3 s.z c.X c.T c.l c.k c.P c.tk s.lv s.pk c.words s.W=some ((tT c s).1,c.fixed,c.tp,c.sl,c.ns,c.mode,c.R,c.Q,c.len,c.words,(tT c s).2.L,s.p,s.q,s.c0,s.c1,s.c2,s.c3,s.z):=by
 unfold gx tT;rw[ck];by_cases h1:c.mode≠2
 ·rw[if_pos h1,if_pos h1]
 rw[if_neg h1,if_neg h1,ck];by_cases h2:0≤s.q
 ·rw[if_pos h2,if_pos h2]
 rw[if_neg h2,if_neg h2,ck];by_cases h3:s.L=65535
 ·rw[if_pos h3,if_pos h3]
 rw[if_neg h3,if_neg h3,bD (by omega)]
def gp (c:Cx)(x:Int×Int)(s:Dy):Int×Dy:=if x.1=0 then tT c s else plF c x.1 x.2 s
theorem cq6 {s:Dy}(hL:0≤s.L∧s.L≤65535):gc c.fixed c.tp c.sl c.ns c.mode c.R c.Q c.len c.words s.L s.p s.q s.c0 s.c1 s.c2 s.c3 s.z c.X c.T c.l c.k c.P c.tk (c.off 8:Int) c.ns (c.X.length:Int) s.lv s.pk c.words s.W=some ((tT c s).1,c.fixed,c.tp,c.sl,c.ns,c.mode,c.R,c.Q,c.len,c.words,(tT c s).2.L,s.p,s.q,s.c0,s.c1,s.c2,s.c3,s.z):=by
 unfold gc tT;rw[ck];by_cases h1:c.mode≠2
 ·rw[if_pos h1,if_pos h1]
 rw[if_neg h1,if_neg h1,ck];by_cases h2:0≤s.q
 ·rw[if_pos h2,if_pos h2]
 rw[if_neg h2,if_neg h2,ck];by_cases h3:s.L=65535
 ·rw[if_pos h3,if_pos h3]
 rw[if_neg h3,if_neg h3,bD (by omega)]
def gq (c:Cx)(x:Int×Int)(s:Dy):Int×Dy:=if x.1=0 then tT c s else doF c x.1 x.2 s
theorem ux (s:Dy):(tT c s).2={s with L:=(tT c s).2.L}:=by
 unfold tT
 repeat' split
 all_goals rfl
structure Well1 (c:Cx)(i:Nat)(s:Dy):Prop where
 inv:InvB c s
 cnt:Cnt (65536*i) s
structure Well2 (c:Cx)(i:Nat)(s:Dy):Prop where
 inv:Inv c s
 cnt:Cnt (65536*i) s
 len:be7 c s
theorem Well1.act (h:c.Ok)(hm:c.mode=3){i:Nat}{s:Dy}(w:Well1 c i s)(x:Int×Int):Well1 c (i+1) (gp c x s).2:=by
 have e:(65536:Int)*((i+1:Nat):Int)=65536*i+65536:=by omega
 unfold gp;split
 ·exact⟨bH6 hm w.inv,by rw[e];exact bh7 w.cnt⟩
 ·exact⟨cn5 h hm w.inv _ _,by rw[e];exact cn4 w.cnt _ _⟩
theorem Well2.act (h:c.Ok)(hm:c.mode≠3){i:Nat}{s:Dy}(w:Well2 c i s)(x:Int×Int):Well2 c (i+1) (gq c x s).2:=by
 have e:(65536:Int)*((i+1:Nat):Int)=65536*i+65536:=by omega
 unfold gq;split
 ·exact⟨bH7 w.inv,by rw[e];exact bh7 w.cnt,bT7 w.len⟩
 ·exact⟨ci6 h hm w.inv _ _,by rw[e];exact ci5 w.cnt _ _,ci7 w.len _ _⟩
theorem Well1.L (h:c.Ok){i:Nat}{s:Dy}(w:Well1 c i s):0≤s.L∧s.L≤65535:=by
 have:=w.inv.L;have:=h.num.len;omega
def dj (f:(Int×Int)→Dy→Int×Dy)(l:List (Int×Int))(s:Dy):Nat→Dy
 |0=>s
 |i+1=>(f (l.getD i (0,0)) (dj f l s i)).2
theorem bN9 (s:Dy)(h:s.c0=0∧s.c1=0∧s.c2=0∧s.c3=0):Cnt (65536*(0:Nat)) s:=by
 unfold Cnt;omega
theorem at0 (h:c.Ok)(hm:c.mode=3)(l:List (Int×Int)): ∀i,Well1 c i (dj (gp c) l (new1 c) i)
 |0=>⟨cb9 h hm,bN9 _ ⟨rfl,rfl,rfl,rfl⟩⟩
 |i+1=>(at0 h hm l i).act h hm _
theorem at1 (h:c.Ok)(hm:c.mode≠3)(l:List (Int×Int)): ∀i,Well2 c i (dj (gq c) l (new2 c) i)
 |0=>⟨cc0 h hm,bN9 _ ⟨rfl,rfl,rfl,rfl⟩,fun _=>rfl⟩
 |i+1=>(at1 h hm l i).act h hm _
def tY (c:Cx)(s:Dy):Int×Int×(List Int)×List Int:=if s.q≠0 then(0,19,[],[])else(s.z,0,seg s.W (c.off 5) c.X.length,seg s.W (c.off 6) c.T.length)
theorem co0 (h:c.Ok){s:Dy}(hW:Wd c s.W):ge c.fixed c.tp c.sl c.ns c.mode c.R c.Q c.len c.words s.L s.p s.q s.c0 s.c1 s.c2 s.c3 s.z c.X c.T c.l c.k c.P c.tk s.lv s.pk c.words s.W=some (tY c s):=by
 unfold ge tY;rw[ck];by_cases h1:s.q≠0
 ·rw[if_pos h1,if_pos h1]
 rw[if_neg h1,if_neg h1,bp9 (ii:=5) (i:=5) h hW rfl (by omega)];simp only[Option.bind_some];rw[bp9 (ii:=6) (i:=6) h hW rfl (by omega)];rfl
theorem cw7 (h:c.Ok){s:Dy}(hW:Wd c s.W):ie c.fixed c.tp c.sl c.ns c.mode c.R c.Q c.len c.words s.L s.p s.q s.c0 s.c1 s.c2 s.c3 s.z c.X c.T c.l c.k c.P c.tk s.lv s.pk c.words s.W=some (seg s.W (c.off 1) c.X.length):=by
 unfold ie;rw[bp9 (ii:=1) (i:=1) h hW rfl (by omega)];rfl
theorem cu0 (h:c.Ok){s:Dy}(hW:Wd c s.W):nh c.fixed c.tp c.sl c.ns c.mode c.R c.Q c.len c.words s.L s.p s.q s.c0 s.c1 s.c2 s.c3 s.z c.X c.T c.l c.k c.P c.tk s.lv s.pk c.words s.W=some s.W:=by
 unfold nh kt;rw[vi (hW.tk h).2];rfl
theorem co1 (h:c.Ok){s:Dy}(hW:Wd c s.W):ew c.fixed c.tp c.sl c.ns c.mode c.R c.Q c.len c.words s.L s.p s.q s.c0 s.c1 s.c2 s.c3 s.z c.X c.T c.l c.k c.P c.tk (c.off 8:Int) c.ns (c.X.length:Int) s.lv s.pk c.words s.W=some (tY c s):=by
 unfold ew tY;rw[ck];by_cases h1:s.q≠0
 ·rw[if_pos h1,if_pos h1]
 rw[if_neg h1,if_neg h1,aW5 (ii:=5) (i:=5) h hW rfl (by omega)];simp only[Option.bind_some];rw[aW5 (ii:=6) (i:=6) h hW rfl (by omega)];rfl
theorem cw8 (h:c.Ok){s:Dy}(hW:Wd c s.W):gl c.fixed c.tp c.sl c.ns c.mode c.R c.Q c.len c.words s.L s.p s.q s.c0 s.c1 s.c2 s.c3 s.z c.X c.T c.l c.k c.P c.tk (c.off 8:Int) c.ns (c.X.length:Int) s.lv s.pk c.words s.W=some (seg s.W (c.off 1) c.X.length):=by
 unfold gl;rw[aW5 (ii:=1) (i:=1) h hW rfl (by omega)];rfl
theorem cu1 (h:c.Ok){s:Dy}(hW:Wd c s.W):lb c.fixed c.tp c.sl c.ns c.mode c.R c.Q c.len c.words s.L s.p s.q s.c0 s.c1 s.c2 s.c3 s.z c.X c.T c.l c.k c.P c.tk (c.off 8:Int) c.ns (c.X.length:Int) s.lv s.pk c.words s.W=some s.W:=by
 unfold lb kt;rw[vi (hW.tk h).2];rfl
theorem as6 {l:List Int}{f:Int→Option (Int⊕(Bool⊕Unit))}(hl:l.length<1000000000)(hf: ∀s,f s=cond (decide (s<((l.length:Nat):Int))) ((rd l s).bind fun x=>(rd l s).bind fun y=>cond (decide (x≠y)) (some (.inr (.inl false))) (some (.inl (IntKind.i64.wrap (s+1))))) (some (.inr (.inr ())))):cw f iJ 0=some (.inr ()):=by
 refine uv (n:=l.length) (by omega) (fun i hi=> ?_) ?_
 ·rw[hf];rw[decide_eq_true (by omega),cond_true,iz hi];simp only[Option.bind_some];rw[dne,cond_false,bD (by omega)];rfl
 ·rw[hf];rw[decide_eq_false (by omega),cond_false]
theorem ce7 {l:List Int}(hl:l.length<1000000000):qg l l=some true:=by
 unfold qg;rw[dne,cond_false,as6 (f:=ae0 l l) (l:=l) hl fun s=>rfl];rfl
theorem ce8 {z:Int}{l k:List Int}(hl:l.length<1000000000)(hk:k.length<1000000000):i7 z l k z l k=some true:=by
 unfold i7;rw[dne,dne,dne,cond_false,cond_false,cond_false,as6 (f:=ae1 l l) (l:=l) hl fun s=>rfl];simp only[Option.bind_some,dw];rw[as6 (f:=ae2 k k) (l:=k) hk fun s=>rfl];rfl
theorem ce9 {p q:Int}{l:List Int}(hl:l.length<1000000000):lg p q l p q l=some true:=by
 unfold lg;rw[dne,dne,dne,cond_false,cond_false,cond_false,as6 (f:=ae3 l l) (l:=l) hl fun s=>rfl];rfl
end
theorem ay9 :nk=some true:=by kernel_rfl
section
variable {c:Cx}
theorem aP6 {l:List (Int×Int)}{i:Nat}(h:i<l.length):rd l (i:Int)=some (l.getD i (0,0)):=by
 rw[iz h,List.getD_eq_getElem?_getD,List.getElem?_eq_getElem h];rfl
theorem cw3 (h:c.Ok)(hm:c.mode=3){i:Nat}{s:Dy}(w:Well1 c i s): ∃r,iv c.fixed c.tp c.sl c.ns c.mode c.R c.Q c.len c.words s.L s.p s.q s.c0 s.c1 s.c2 s.c3 s.z c.X c.T c.l c.k c.P c.tk s.lv s.pk c.words s.W=some r∧lg r.1 r.2 [] r.1 r.2 []=some true:=by
 exact⟨_,rfl,ce9 (by simp)⟩
theorem ct3 (h:c.Ok)(hm:c.mode=3){l:List (Int×Int)}{cut:Nat}(hc:cut≤l.length)(hl:l.length≤80){s:Dy}(hs:s=dj (gp c) l (new1 c) cut):
  cw (pX l (cut:Int) c.X c.T c.l c.k c.P c.tk) iJ (0,c.fixed,c.tp,c.sl,c.ns,c.mode,c.R,c.Q,c.len,c.words,c.len,0,(-1),0,0,0,0,0,c.fixed,c.fixed,c.words,(new1 c).W)=some (c.fixed,c.tp,c.sl,c.ns,c.mode,c.R,c.Q,c.len,c.words,s.L,s.p,s.q,s.c0,s.c1,s.c2,s.c3,s.z,s.lv,s.pk,c.words,s.W):=by
 subst hs;refine sH (n:=cut) (fun i=>((i:Int),c.fixed,c.tp,c.sl,c.ns,c.mode,c.R,c.Q,c.len,c.words,(dj (gp c) l (new1 c) i).L,(dj (gp c) l (new1 c) i).p,(dj (gp c) l (new1 c) i).q,(dj (gp c) l (new1 c) i).c0,(dj (gp c) l (new1 c) i).c1,(dj (gp c) l (new1 c) i).c2,(dj (gp c) l (new1 c) i).c3,(dj (gp c) l (new1 c) i).z,(dj (gp c) l (new1 c) i).lv,(dj (gp c) l (new1 c) i).pk,c.words,(dj (gp c) l (new1 c) i).W)) (by omega) (fun i hi=> ?_) ?_
 ·have w:=at0 h hm l i;have e:dj (gp c) l (new1 c) (i+1)=(gp c (l.getD i (0,0)) (dj (gp c) l (new1 c) i)).2:=rfl;rw[e];generalize dj (gp c) l (new1 c) i=s at*;have hr:=aP6 (l:=l) (i:=i) (by omega);generalize l.getD i (0,0)=x at*;simp only[pX];rw[decide_eq_true (show(i:Int)<(cut:Int)by omega),cond_true,hr];simp only[Option.bind_some];unfold gp;rw[ck];by_cases hx:x.1=0
  ·rw[if_pos hx,if_pos hx,cq5 (w.L h)];simp only[Option.bind_some];rw[bD (n:=(i:Int)+1) (by omega),ux];rfl
  ·rw[if_neg hx,if_neg hx,do1 h hm w.inv w.cnt (by omega)];simp only[Option.bind_some,bG3];rw[bD (n:=(i:Int)+1) (by omega)];rfl
 ·simp only[pX];rw[decide_eq_false (by omega),cond_false]
theorem co6 (h:c.Ok)(hm:c.mode=3){l:List (Int×Int)}{cut:Nat}(hc:cut≤l.length)(hl:l.length≤80){s:Dy}(hs:s=dj (gp c) l (new1 c) cut):
  ∃r,cw (pY l c.X c.T c.l c.k c.P c.tk c.X c.T c.l c.k c.P c.tk) iJ ((cut:Int),c.fixed,c.tp,c.sl,c.ns,c.mode,c.R,c.Q,c.len,c.words,s.L,s.p,s.q,s.c0,s.c1,s.c2,s.c3,s.z,s.lv,s.pk,c.words,s.W,c.fixed,c.tp,c.sl,c.ns,c.mode,c.R,c.Q,c.len,c.words,s.L,s.p,s.q,s.c0,s.c1,s.c2,s.c3,s.z,s.lv,s.pk,c.words,s.W)=some (.inr r):=by
 subst hs
 refine⟨(c.fixed,c.tp,c.sl,c.ns,c.mode,c.R,c.Q,c.len,c.words,(dj (gp c) l (new1 c) (cut+(l.length-cut))).L,(dj (gp c) l (new1 c) (cut+(l.length-cut))).p,(dj (gp c) l (new1 c) (cut+(l.length-cut))).q,(dj (gp c) l (new1 c) (cut+(l.length-cut))).c0,(dj (gp c) l (new1 c) (cut+(l.length-cut))).c1,(dj (gp c) l (new1 c) (cut+(l.length-cut))).c2,(dj (gp c) l (new1 c) (cut+(l.length-cut))).c3,(dj (gp c) l (new1 c) (cut+(l.length-cut))).z,(dj (gp c) l (new1 c) (cut+(l.length-cut))).lv,(dj (gp c) l (new1 c) (cut+(l.length-cut))).pk,c.words,(dj (gp c) l (new1 c) (cut+(l.length-cut))).W,c.fixed,c.tp,c.sl,c.ns,c.mode,c.R,c.Q,c.len,c.words,(dj (gp c) l (new1 c) (cut+(l.length-cut))).L,(dj (gp c) l (new1 c) (cut+(l.length-cut))).p,(dj (gp c) l (new1 c) (cut+(l.length-cut))).q,(dj (gp c) l (new1 c) (cut+(l.length-cut))).c0,(dj (gp c) l (new1 c) (cut+(l.length-cut))).c1,(dj (gp c) l (new1 c) (cut+(l.length-cut))).c2,(dj (gp c) l (new1 c) (cut+(l.length-cut))).c3,(dj (gp c) l (new1 c) (cut+(l.length-cut))).z,(dj (gp c) l (new1 c) (cut+(l.length-cut))).lv,(dj (gp c) l (new1 c) (cut+(l.length-cut))).pk,c.words,(dj (gp c) l (new1 c) (cut+(l.length-cut))).W),sH (n:=l.length-cut) (fun j=>(((cut+j:Nat):Int),c.fixed,c.tp,c.sl,c.ns,c.mode,c.R,c.Q,c.len,c.words,(dj (gp c) l (new1 c) (cut+j)).L,(dj (gp c) l (new1 c) (cut+j)).p,(dj (gp c) l (new1 c) (cut+j)).q,(dj (gp c) l (new1 c) (cut+j)).c0,(dj (gp c) l (new1 c) (cut+j)).c1,(dj (gp c) l (new1 c) (cut+j)).c2,(dj (gp c) l (new1 c) (cut+j)).c3,(dj (gp c) l (new1 c) (cut+j)).z,(dj (gp c) l (new1 c) (cut+j)).lv,(dj (gp c) l (new1 c) (cut+j)).pk,c.words,(dj (gp c) l (new1 c) (cut+j)).W,
  c.fixed,c.tp,c.sl,c.ns,c.mode,c.R,c.Q,c.len,c.words,(dj (gp c) l (new1 c) (cut+j)).L,(dj (gp c) l (new1 c) (cut+j)).p,(dj (gp c) l (new1 c) (cut+j)).q,(dj (gp c) l (new1 c) (cut+j)).c0,(dj (gp c) l (new1 c) (cut+j)).c1,(dj (gp c) l (new1 c) (cut+j)).c2,(dj (gp c) l (new1 c) (cut+j)).c3,(dj (gp c) l (new1 c) (cut+j)).z,(dj (gp c) l (new1 c) (cut+j)).lv,(dj (gp c) l (new1 c) (cut+j)).pk,c.words,(dj (gp c) l (new1 c) (cut+j)).W)) (by omega) (fun j hj=> ?_) ?_⟩
 ·have w:=at0 h hm l (cut+j);have w':=w.act h hm (l.getD (cut+j) (0,0));have e:dj (gp c) l (new1 c) (cut+(j+1))=(gp c (l.getD (cut+j) (0,0)) (dj (gp c) l (new1 c) (cut+j))).2:=rfl;rw[e];generalize dj (gp c) l (new1 c) (cut+j)=s at*;have hr:=aP6 (l:=l) (i:=cut+j) (by omega);generalize l.getD (cut+j) (0,0)=x at*;simp only[pY];rw[decide_eq_true (show((cut+j:Nat):Int)<((l.length:Nat):Int)by omega),cond_true,hr];simp only[Option.bind_some];rw[ck];obtain⟨t,ht1,ht2⟩:=cw3 h hm w';have r1:=co0 h w'.inv.w;have r2:=bu6 (c:=c) (gp c x s).2;have r3:=cw7 h w'.inv.w;have q1:=ce7 (l:=seg (gp c x s).2.W (c.off 1) c.X.length) (by have:=(w'.inv.w.tk h).2;unfold seg;rw[List.length_take];have:=h.num.x;omega)
  have q2:i7 (tY c (gp c x s).2).1 (tY c (gp c x s).2).2.2.1 (tY c (gp c x s).2).2.2.2 (tY c (gp c x s).2).1 (tY c (gp c x s).2).2.2.1 (tY c (gp c x s).2).2.2.2=some true:=by
   refine ce8 ?_ ?_
   ·unfold tY;split
    ·simp
    ·unfold seg;rw[List.length_take];have:=h.num.x;omega
   ·unfold tY;split
    ·simp
    ·unfold seg;rw[List.length_take];have:=h.num.t;omega
  unfold gp at r1 r2 r3 q1 q2 ht1⊢;by_cases hx:x.1=0
  ·rw[if_pos hx]at r1 r2 r3 q1 q2 ht1;rw[if_pos hx,if_pos hx,cq5 (w.L h)];simp only[Option.bind_some];rw[dne,cond_false,decide_eq_false (show¬(x.1≠0)by omega),cond_false];simp only[Option.bind_some,dw];rw[ux]at r1 r2 r3 ht1 q1 q2;dsimp only at r1 r2 r3 ht1 q1 q2;rw[r1];simp only[Option.bind_some];rw[r2];simp only[Option.bind_some,bB6,decide_true,Bool.and_self,Bool.not_true,cond_false];rw[ht1];simp only[Option.bind_some];rw[ht2];simp only[Option.bind_some,Bool.not_true,cond_false];rw[r3];simp only[Option.bind_some];rw[q1];simp only[Option.bind_some,Bool.not_true,cond_false];rw[dne,cond_false,q2];simp only[Option.bind_some,Bool.not_true,cond_false];rw[bD (n:=((cut+j:Nat):Int)+1) (by omega)];rw[ux];rfl
  ·rw[if_neg hx]at r1 r2 r3 q1 q2 ht1;rw[if_neg hx,if_neg hx,decide_eq_true (show x.1≠0 from hx),cond_true,do1 h hm w.inv w.cnt (by omega)];simp only[Option.bind_some,bG3];rw[dne,cond_false];simp only[Option.bind_some,dw];rw[r1];simp only[Option.bind_some];rw[r2];simp only[Option.bind_some,bB6,decide_true,Bool.and_self,Bool.not_true,cond_false];rw[ht1];simp only[Option.bind_some];rw[ht2];simp only[Option.bind_some,Bool.not_true,cond_false];rw[r3];simp only[Option.bind_some];rw[q1];simp only[Option.bind_some,Bool.not_true,cond_false];rw[dne,cond_false,q2];simp only[Option.bind_some,Bool.not_true,cond_false];rw[bD (n:=((cut+j:Nat):Int)+1) (by omega)];rfl
 ·simp only[pY];rw[decide_eq_false (by omega),cond_false]
theorem cw4 (h:c.Ok)(hm:c.mode≠3){i:Nat}{s:Dy}(w:Well2 c i s): ∃r,eu c.fixed c.tp c.sl c.ns c.mode c.R c.Q c.len c.words s.L s.p s.q s.c0 s.c1 s.c2 s.c3 s.z c.X c.T c.l c.k c.P c.tk (c.off 8:Int) c.ns (c.X.length:Int) s.lv s.pk c.words s.W=some r∧lg r.1 r.2.1 r.2.2 r.1 r.2.1 r.2.2=some true:=by
 unfold eu;rw[aQ5 h hm w.inv.w (fun k hk=>by have:=w.inv.tag k hk;have:=w.inv.L;omega)];exact⟨_,rfl,ce9 (by have:=h.ns;show(ap7 c s.W).length<_;rw[ap8];omega)⟩
theorem ct4 (h:c.Ok)(hm:c.mode≠3){l:List (Int×Int)}{cut:Nat}(hc:cut≤l.length)(hl:l.length≤80){s:Dy}(hs:s=dj (gq c) l (new2 c) cut):
  cw (pZ l (cut:Int) c.X c.T c.l c.k c.P c.tk (c.off 8:Int) c.ns (c.X.length:Int)) iJ (0,c.fixed,c.tp,c.sl,c.ns,c.mode,c.R,c.Q,c.len,c.words,c.len,0,(-1),0,0,0,0,0,c.fixed,c.fixed,c.words,(new2 c).W)=some (c.fixed,c.tp,c.sl,c.ns,c.mode,c.R,c.Q,c.len,c.words,s.L,s.p,s.q,s.c0,s.c1,s.c2,s.c3,s.z,s.lv,s.pk,c.words,s.W):=by
 subst hs;refine sH (n:=cut) (fun i=>((i:Int),c.fixed,c.tp,c.sl,c.ns,c.mode,c.R,c.Q,c.len,c.words,(dj (gq c) l (new2 c) i).L,(dj (gq c) l (new2 c) i).p,(dj (gq c) l (new2 c) i).q,(dj (gq c) l (new2 c) i).c0,(dj (gq c) l (new2 c) i).c1,(dj (gq c) l (new2 c) i).c2,(dj (gq c) l (new2 c) i).c3,(dj (gq c) l (new2 c) i).z,(dj (gq c) l (new2 c) i).lv,(dj (gq c) l (new2 c) i).pk,c.words,(dj (gq c) l (new2 c) i).W)) (by omega) (fun i hi=> ?_) ?_
 ·have w:=at1 h hm l i;have e:dj (gq c) l (new2 c) (i+1)=(gq c (l.getD i (0,0)) (dj (gq c) l (new2 c) i)).2:=rfl;rw[e];generalize dj (gq c) l (new2 c) i=s at*;have hr:=aP6 (l:=l) (i:=i) (by omega);generalize l.getD i (0,0)=x at*;simp only[pZ];rw[decide_eq_true (show(i:Int)<(cut:Int)by omega),cond_true,hr];simp only[Option.bind_some];unfold gq;rw[ck];by_cases hx:x.1=0
  ·rw[if_pos hx,if_pos hx,cq6 w.inv.L];simp only[Option.bind_some];rw[bD (n:=(i:Int)+1) (by omega),ux];rfl
  ·rw[if_neg hx,if_neg hx,do2 h hm w.inv w.cnt (by omega)];simp only[Option.bind_some,bG3];rw[bD (n:=(i:Int)+1) (by omega)];rfl
 ·simp only[pZ];rw[decide_eq_false (by omega),cond_false]
theorem co7 (h:c.Ok)(hm:c.mode≠3){l:List (Int×Int)}{cut:Nat}(hc:cut≤l.length)(hl:l.length≤80){s:Dy}(hs:s=dj (gq c) l (new2 c) cut):
  ∃r,cw (qa l c.X c.T c.l c.k c.P c.tk (c.off 8:Int) c.ns (c.X.length:Int) c.X c.T c.l c.k c.P c.tk (c.off 8:Int) c.ns (c.X.length:Int)) iJ ((cut:Int),c.fixed,c.tp,c.sl,c.ns,c.mode,c.R,c.Q,c.len,c.words,s.L,s.p,s.q,s.c0,s.c1,s.c2,s.c3,s.z,s.lv,s.pk,c.words,s.W,c.fixed,c.tp,c.sl,c.ns,c.mode,c.R,c.Q,c.len,c.words,s.L,s.p,s.q,s.c0,s.c1,s.c2,s.c3,s.z,s.lv,s.pk,c.words,s.W)=some (.inr r):=by
 subst hs
 refine⟨(c.fixed,c.tp,c.sl,c.ns,c.mode,c.R,c.Q,c.len,c.words,(dj (gq c) l (new2 c) (cut+(l.length-cut))).L,(dj (gq c) l (new2 c) (cut+(l.length-cut))).p,(dj (gq c) l (new2 c) (cut+(l.length-cut))).q,(dj (gq c) l (new2 c) (cut+(l.length-cut))).c0,(dj (gq c) l (new2 c) (cut+(l.length-cut))).c1,(dj (gq c) l (new2 c) (cut+(l.length-cut))).c2,(dj (gq c) l (new2 c) (cut+(l.length-cut))).c3,(dj (gq c) l (new2 c) (cut+(l.length-cut))).z,(dj (gq c) l (new2 c) (cut+(l.length-cut))).lv,(dj (gq c) l (new2 c) (cut+(l.length-cut))).pk,c.words,(dj (gq c) l (new2 c) (cut+(l.length-cut))).W,c.fixed,c.tp,c.sl,c.ns,c.mode,c.R,c.Q,c.len,c.words,(dj (gq c) l (new2 c) (cut+(l.length-cut))).L,(dj (gq c) l (new2 c) (cut+(l.length-cut))).p,(dj (gq c) l (new2 c) (cut+(l.length-cut))).q,(dj (gq c) l (new2 c) (cut+(l.length-cut))).c0,(dj (gq c) l (new2 c) (cut+(l.length-cut))).c1,(dj (gq c) l (new2 c) (cut+(l.length-cut))).c2,(dj (gq c) l (new2 c) (cut+(l.length-cut))).c3,(dj (gq c) l (new2 c) (cut+(l.length-cut))).z,(dj (gq c) l (new2 c) (cut+(l.length-cut))).lv,(dj (gq c) l (new2 c) (cut+(l.length-cut))).pk,c.words,(dj (gq c) l (new2 c) (cut+(l.length-cut))).W),sH (n:=l.length-cut) (fun j=>(((cut+j:Nat):Int),c.fixed,c.tp,c.sl,c.ns,c.mode,c.R,c.Q,c.len,c.words,(dj (gq c) l (new2 c) (cut+j)).L,(dj (gq c) l (new2 c) (cut+j)).p,(dj (gq c) l (new2 c) (cut+j)).q,(dj (gq c) l (new2 c) (cut+j)).c0,(dj (gq c) l (new2 c) (cut+j)).c1,(dj (gq c) l (new2 c) (cut+j)).c2,(dj (gq c) l (new2 c) (cut+j)).c3,(dj (gq c) l (new2 c) (cut+j)).z,(dj (gq c) l (new2 c) (cut+j)).lv,(dj (gq c) l (new2 c) (cut+j)).pk,c.words,(dj (gq c) l (new2 c) (cut+j)).W,
  c.fixed,c.tp,c.sl,c.ns,c.mode,c.R,c.Q,c.len,c.words,(dj (gq c) l (new2 c) (cut+j)).L,(dj (gq c) l (new2 c) (cut+j)).p,(dj (gq c) l (new2 c) (cut+j)).q,(dj (gq c) l (new2 c) (cut+j)).c0,(dj (gq c) l (new2 c) (cut+j)).c1,(dj (gq c) l (new2 c) (cut+j)).c2,(dj (gq c) l (new2 c) (cut+j)).c3,(dj (gq c) l (new2 c) (cut+j)).z,(dj (gq c) l (new2 c) (cut+j)).lv,(dj (gq c) l (new2 c) (cut+j)).pk,c.words,(dj (gq c) l (new2 c) (cut+j)).W)) (by omega) (fun j hj=> ?_) ?_⟩
 ·have w:=at1 h hm l (cut+j);have w':=w.act h hm (l.getD (cut+j) (0,0));have e:dj (gq c) l (new2 c) (cut+(j+1))=(gq c (l.getD (cut+j) (0,0)) (dj (gq c) l (new2 c) (cut+j))).2:=rfl;rw[e];generalize dj (gq c) l (new2 c) (cut+j)=s at*;have hr:=aP6 (l:=l) (i:=cut+j) (by omega);generalize l.getD (cut+j) (0,0)=x at*;simp only[qa];rw[decide_eq_true (show((cut+j:Nat):Int)<((l.length:Nat):Int)by omega),cond_true,hr];simp only[Option.bind_some];rw[ck];obtain⟨t,ht1,ht2⟩:=cw4 h hm w';have r1:=co1 h w'.inv.w;have r2:=bu7 (sb:=(c.off 8:Int)) (sn:=c.ns) (sx:=(c.X.length:Int)) (c:=c) (gq c x s).2;have r3:=cw8 h w'.inv.w;have q1:=ce7 (l:=seg (gq c x s).2.W (c.off 1) c.X.length) (by have:=(w'.inv.w.tk h).2;unfold seg;rw[List.length_take];have:=h.num.x;omega)
  have q2:i7 (tY c (gq c x s).2).1 (tY c (gq c x s).2).2.2.1 (tY c (gq c x s).2).2.2.2 (tY c (gq c x s).2).1 (tY c (gq c x s).2).2.2.1 (tY c (gq c x s).2).2.2.2=some true:=by
   refine ce8 ?_ ?_
   ·unfold tY;split
    ·simp
    ·unfold seg;rw[List.length_take];have:=h.num.x;omega
   ·unfold tY;split
    ·simp
    ·unfold seg;rw[List.length_take];have:=h.num.t;omega
  unfold gq at r1 r2 r3 q1 q2 ht1⊢;by_cases hx:x.1=0
  ·rw[if_pos hx]at r1 r2 r3 q1 q2 ht1;rw[if_pos hx,if_pos hx,cq6 w.inv.L];simp only[Option.bind_some];rw[dne,cond_false,decide_eq_false (show¬(x.1≠0)by omega),cond_false];simp only[Option.bind_some,dw];rw[ux]at r1 r2 r3 ht1 q1 q2;dsimp only at r1 r2 r3 ht1 q1 q2;rw[r1];simp only[Option.bind_some];rw[r2];simp only[Option.bind_some,bB6,decide_true,Bool.and_self,Bool.not_true,cond_false];rw[ht1];simp only[Option.bind_some];rw[ht2];simp only[Option.bind_some,Bool.not_true,cond_false];rw[r3];simp only[Option.bind_some];rw[q1];simp only[Option.bind_some,Bool.not_true,cond_false];rw[dne,cond_false,q2];simp only[Option.bind_some,Bool.not_true,cond_false];rw[bD (n:=((cut+j:Nat):Int)+1) (by omega)];rw[ux];rfl
  ·rw[if_neg hx]at r1 r2 r3 q1 q2 ht1;rw[if_neg hx,if_neg hx,decide_eq_true (show x.1≠0 from hx),cond_true,do2 h hm w.inv w.cnt (by omega)];simp only[Option.bind_some,bG3];rw[dne,cond_false];simp only[Option.bind_some,dw];rw[r1];simp only[Option.bind_some];rw[r2];simp only[Option.bind_some,bB6,decide_true,Bool.and_self,Bool.not_true,cond_false];rw[ht1];simp only[Option.bind_some];rw[ht2];simp only[Option.bind_some,Bool.not_true,cond_false];rw[r3];simp only[Option.bind_some];rw[q1];simp only[Option.bind_some,Bool.not_true,cond_false];rw[dne,cond_false,q2];simp only[Option.bind_some,Bool.not_true,cond_false];rw[bD (n:=((cut+j:Nat):Int)+1) (by omega)];rfl
 ·simp only[qa];rw[decide_eq_false (by omega),cond_false]
end
section
variable {a0:Int} {a1 a2:List Int} {a3:Int} {a4:List ec} {a5:Int} {a6:List ec} {a7 a8:Int}
theorem cp0 (h4: ∀o∈a4,okV o)(h6: ∀o∈a6,okV o):rZ a0 a1 a2 a3 a4 a5 a6 a7 a8=some false∨(rZ a0 a1 a2 a3 a4 a5 a6 a7 a8=some true∧OpsOk a4∧OpsOk a6∧a1.length≤200∧a2.length≤200):=by
 unfold rZ yn;by_cases c1:(a4.length:Int)≤60
 ·by_cases c2:(a6.length:Int)≤60
  ·by_cases c3:(a1.length:Int)≤200
   ·by_cases c4:(a2.length:Int)≤200
    ·have o4:OpsOk a4:=⟨by omega,h4⟩;have o6:OpsOk a6:=⟨by omega,h6⟩;rw[decide_eq_true c1,decide_eq_true c2,decide_eq_true c3,decide_eq_true c4];simp only[cond_true,Option.bind_some,Bool.not_true,cond_false];rw[ce0 o4 o6];simp only[Option.bind_some,ck]
     have key: ∀b:Bool,(some b=some false)∨(some b=some true∧OpsOk a4∧OpsOk a6∧a1.length≤200∧a2.length≤200):=fun b=>by
      cases b
      ·exact .inl rfl
      ·exact .inr ⟨rfl,o4,o6,by omega,by omega⟩
     repeat' split
     all_goals exact key _
    ·rw[decide_eq_true c1,decide_eq_true c2,decide_eq_true c3,decide_eq_false c4];exact .inl rfl
   ·rw[decide_eq_true c1,decide_eq_true c2,decide_eq_false c3];exact .inl rfl
  ·rw[decide_eq_true c1,decide_eq_false c2];exact .inl rfl
 ·rw[decide_eq_false c1];exact .inl rfl
theorem ch0 (hl:OpsOk a4)(hk:OpsOk a6)(h:(ta a0 a1.length a2.length a3 a4 a5 a6 a7 a8).2.2.2.2≠0):nj a0 a1 a2 a3 a4 a5 a6 a7 a8=some (.inl (ta a0 a1.length a2.length a3 a4 a5 a6 a7 a8).2.2.2.2):=by
 unfold nj;rw[bV1 hl hk h];simp only[Option.bind_some,kf];rw[decide_eq_true h,cond_true]
theorem ca2 {a9:List (Int×Int)}{a10:Int}(h4: ∀o∈a4,okV o)(h6: ∀o∈a6,okV o):vA a0 a1 a2 a3 a4 a5 a6 a7 a8 a9 a10=some true:=by
 unfold vA;rcases cp0 (a0:=a0) (a1:=a1) (a2:=a2) (a3:=a3) (a5:=a5) (a7:=a7) (a8:=a8) h4 h6 with hs|⟨hs,o4,o6,x1,x2⟩
 ·rw[hs,ay9];rfl
 rw[hs];simp only[Option.bind_some,Bool.not_true,cond_false];by_cases c1:(80:Int)<((a9.length:Nat):Int)
 ·rw[decide_eq_true c1,ay9];rfl
 rw[decide_eq_false c1];simp only[cond_false];by_cases c2:a10<0
 ·rw[decide_eq_true c2,ay9];rfl
 rw[decide_eq_false c2];simp only[cond_false,Option.bind_some];by_cases c3:((a9.length:Nat):Int)<a10
 ·rw[decide_eq_true c3,ay9];rfl
 rw[decide_eq_false c3,cond_false];by_cases hp:(ta a0 a1.length a2.length a3 a4 a5 a6 a7 a8).2.2.2.2≠0
 ·rw[ch0 o4 o6 hp];simp only[Option.bind_some,kf];rw[decide_eq_true hp,cond_true,ay9];rfl
 obtain⟨c,hc,e0,e1,e2,e3,e4,e5,e6,e7,e8,e9⟩:=cC7 o4 o6 (show(ta a0 a1.length a2.length a3 a4 a5 a6 a7 a8).2.2.2.2=0 by omega);subst e0 e1 e2 e3 e4 e5 e6 e7 e8;obtain⟨cut,rfl⟩:=Int.eq_ofNat_of_zero_le (show 0≤a10 by omega);by_cases hm:c.mode=3
 ·rw[cB9 hc hm e9];simp only[Option.bind_some,dw,kf];have hf:=ct3 hc hm (l:=a9) (cut:=cut) (by omega) (by omega) rfl;obtain⟨r,hg⟩:=co6 hc hm (l:=a9) (cut:=cut) (by omega) (by omega) rfl;have w:=at0 hc hm a9 cut;generalize dj (gp c) a9 (new1 c) cut=s at*;rw[hf];simp only[Option.bind_some];rw[cu0 hc w.inv.w,bu6];simp only[Option.bind_some,bB6];rw[cs0 hc hm e9 w.inv w.cnt (by omega)];simp only[Option.bind_some,dw,kf,cq0];rw[hg];simp only[Option.bind_some,dw];rw[ay9];rfl
 ·rw[cC0 hc hm e9];simp only[Option.bind_some,dw,kf];have hf:=ct4 hc hm (l:=a9) (cut:=cut) (by omega) (by omega) rfl;obtain⟨r,hg⟩:=co7 hc hm (l:=a9) (cut:=cut) (by omega) (by omega) rfl;have w:=at1 hc hm a9 cut;generalize dj (gq c) a9 (new2 c) cut=s at*;rw[hf];simp only[Option.bind_some];rw[cu1 hc w.inv.w,bu7];simp only[Option.bind_some,bB6];rw[cs1 hc hm e9 w.inv w.len w.cnt (by omega)];simp only[Option.bind_some,dw,kf,cq1];rw[hg];simp only[Option.bind_some,dw];rw[ay9];rfl
end
end Go.V
