/- A part of the proof. No condition. -/
import Derived.Test.YtgnojcajllcmoaaGreatDoorL3
import Derived.KernelRfl
import Derived.Test.YtgnojcajllcmoaaGreatDoorA7
import Derived.Test.YtgnojcajllcmoaaGreatDoorD3
set_option linter.all false
namespace Go.V
open Go.Ab
open Option renaming some->O,none->Y
open Bool renaming true->Za,false->Zb
open Decidable renaming decide->Zc
open List renaming mem_append->cI
open List renaming mem_cons->bf
open List renaming mem_range->cJ
open List renaming mem_singleton->dy
open List renaming length->ft
open Int renaming toNat->fu
open Option renaming bind->gn
variable {W at' ax l r st t w:Zd}{s:Dy}{c d i j k:Nat}{B a b x y:Int}
set_option maxRecDepth 100000
section
open Int renaming le_refl->aB
open Nat renaming le_refl->aD,zero_add->bB
theorem ap3 {m:Int}{x t:Nat}{R:Int}{l:List bx}{Q:Int}{k:List bx}{n:Int}(q:OpsOk l)(p:OpsOk k)(h:(gy m x t R l Q k n b).2.2.2.2=0):
  su m x t R l Q k n b=0/\∃g,gy m x t R l Q k n b=(sr x t R Q,rB m l k,rA m x R l,g,0)/\(0<=g/\g<=1048576)/\sr x t R Q+rB m l k+rA m x R l*g<=b/\(m=3->g=n):=by
 unfold gy at h⊢;by_cases e:su m x t R l Q k n b≠0
 .grind
 rw[zF e]at h⊢;have e:su m x t R l Q k n b=0:=by omega
 have s:=PL q p e;have f:=EG q p e;have C:=f.mode;have D:=f.len;have E:=f.bud;have F:=s.xs;have H:=s.ts;have I:=s.r;have J:=s.r';have K:=s.tp;have L:=s.sl;have A:0<=sr x t R Q/\sr x t R Q<=1000:=by unfold sr;omega
 split at h
 .cases h
 rename_i c;rw[zF c];refine⟨e,_,rfl, ?_, ?_,λu=>zE u⟩
 .split
  .omega
  .rename_i o;unfold least at c;rw[zF o]at c;have z:(b-sr x t R Q-rB m l k) / rA m x R l<=b-sr x t R Q-rB m l k:=Int.ediv_le_self _ V1;have v:0<=(b-sr x t R Q-rB m l k) / rA m x R l:=Int.ediv_nonneg V1 V1;omega
 .unfold least at c;split
  .rename_i o
   grind
  .rename_i o;rw[zF o]at c;have:=Int.mul_ediv_self_le (x:=b-sr x t R Q-rB m l k) (k:=rA m x R l) V1;omega
def bH5 {m:Int}{X T:Zd}{R:Int}{l:List bx}{Q:Int}{k:List bx}{n:Int}(p:OpsOk l)(o:OpsOk k)(h:(gy m (ft X) (ft T) R l Q k n b).2.2.2.2=0):
  ∃c:Cx,c.Ok/\c.mode=m/\c.X=X/\c.T=T/\c.R=R/\c.l=l/\c.Q=Q/\c.k=k/\c.len=n/\c.words=b/\gy m (ft X) (ft T) R l Q k n b=(c.fixed,c.tp,c.sl,c.ns,0):=by
 have⟨q,ns,z,A,C,D⟩:=ap3 p o h;have⟨E,F⟩:=ao9 (HB q).1;have⟨v,g⟩:=aF6 p E;have⟨u,e⟩:=aF6 o F;exact⟨⟨m,R,Q,n,b,X,T,l,k,v,u,sr (ft X) (ft T) R Q,rB m l k,rA m (ft X) R l,ns⟩,⟨p,o,q,g,e,rfl,rfl,rfl,A,C,D⟩,rfl,rfl,rfl,rfl,rfl,rfl,rfl,rfl,rfl,z⟩
section
variable {c:Cx}
def Cx.Ok.plan (h:c.Ok):gy c.mode (ft c.X) (ft c.T) c.R c.l c.Q c.k c.len c.words=(c.fixed,c.tp,c.sl,c.ns,0)->io c.mode c.X c.T c.R c.l c.Q c.k c.len c.words=O (c.fixed,c.tp,c.sl,c.ns,0):=λe=>by
 rw[LA h.hl h.hk,e]
def aV9 (h:c.Ok): ∀i,i<10->pre [((ft c.T:Nat):Int),((ft c.X:Nat):Int),c.R,c.Q,max c.R c.Q,((ft c.X:Nat):Int),((ft c.T:Nat):Int),c.tp,c.sl*c.ns] i=(c.off i:Int):=by
 have n:=h.num;have q:=n.R;have p:=n.Q;have u:=n.mul;have g:0<=c.tp:=by rw[n.tp];split<;>omega
 have e: ∀i,i<9->([((ft c.T:Nat):Int),((ft c.X:Nat):Int),c.R,c.Q,max c.R c.Q,((ft c.X:Nat):Int),((ft c.T:Nat):Int),c.tp,c.sl*c.ns]:Zd).getD i 0=(c.sz i:Int):=λi hi=>by
  rcases(show i=0∨i=1∨i=2∨i=3∨i=4∨i=5∨i=6∨i=7∨i=8 by omega)with rfl|rfl|rfl|rfl|rfl|rfl|rfl|rfl|rfl
  .rfl
  .rfl
  .show c.R=(fu c.R:Int);omega
  .show c.Q=(fu c.Q:Int);omega
  .show max c.R c.Q=((max (fu c.R) (fu c.Q):Nat):Int);omega
  .rfl
  .rfl
  .show c.tp=(fu c.tp:Int);omega
  show c.sl*c.ns=(fu (c.sl*c.ns):Int);omega
 intro i;induction i with
 |zero=>intro _;rfl
 |succ i o=>
  intro hi;simp only[pre];rw[o V1,e i V1];rfl
def Yo (h:c.Ok)(e:gy c.mode c.X.length c.T.length c.R c.l c.Q c.k c.len c.words=(c.fixed,c.tp,c.sl,c.ns,0)):w9 c.mode c.X c.T c.R c.l c.Q c.k c.len c.words=O (0,c.P):=by
 have s:=PL h.hl h.hk h.hc;have o:SFacts c.X.length c.T.length c.R c.Q c.tp c.sl:=by rw[h.tp,h.sl];exact s
 unfold w9;rw[h.plan e];simp only[zG];rw[zA V2,zD,Po h.hl h.hk h.hc];simp only[zG];have g:=YJ (n:=c.ns) o h.ns;rw[<-h.tp,<-h.sl,Wi g];simp only[zG]
 congr 2
 unfold Cx.P;apply List.map_congr_left;intro i hi;exact aV9 h i<|cJ.1 hi
def Ra {l:List bx}(h:ft l<=4096):fV l=O l:=by
 unfold fV;rw[au V1 V1]
def ya (h:ft l<=1048576):aj l=O l:=by
 unfold aj;rw[au V1 V1]
def Kf (h:c.Ok)(e:gy c.mode (ft c.X) (ft c.T) c.R c.l c.Q c.k c.len c.words=(c.fixed,c.tp,c.sl,c.ns,0)):
  rU c.mode c.X c.T c.R c.l c.Q c.k c.len c.words=O (.inr (c.fixed,c.tp,c.sl,c.ns,c.mode,c.R,c.Q,c.len,c.words,c.len,c.X,c.T,c.l,c.k,c.P)):=by
 have n:=h.num;have o:=n.x;have g:=n.t;unfold rU;rw[h.plan e,zG,zA V2,zD,Ra h.hl.len,Ra h.hk.len,ya V1,ya V1,zG,Yo h e];rfl
def TG (c:Cx)(W:Zd):Zd:=put (put W (c.off 0) c.T) (c.off 1) c.X
def new1 (c:Cx):Dy:=⟨c.len,0,-1,0,0,0,0,0,c.fixed,c.fixed,TG c<|zeros<|fu c.words⟩
def new2 (c:Cx):Dy:=⟨c.len,0,-1,0,0,0,0,0,c.fixed,c.fixed,TG c<|put (zeros<|fu c.words) (c.off 8)<|zeros<|fu<|c.sl*c.ns⟩
def DG :Wd c<|zeros<|fu c.words:=cb _
def yi (h:c.Ok):0<=c.fixed/\c.fixed<=c.words/\1<=c.fixed/\c.fixed=(c.off 7:Int):=by
 have n:=h.num;have q:=n.R;have p:=n.Q;have g:=n.fixed;have u:=n.mul;have o:=h.fit;have e:0<=c.tp:=by rw[n.tp];split<;>omega
 refine⟨V1,V1,V1, ?_⟩;rw[bw9,g];omega
def Ka (h:c.Ok)(g:Wd c W):Wd c (put W (c.off 0) c.T)/\Wd c (TG c W)/\eY c W (TG c W):=by
 have v:=gH (c:=c) (i:=0) (j:=9) V1;have z:=gH (c:=c) (i:=1) (j:=9) V1;have q:c.sz 0=ft c.T:=rfl;have u:c.sz 1=ft c.X:=rfl;have e:=g.put h (w:=c.T) (o:=c.off 0) V1;have p:=e.put h (w:=c.X) (o:=c.off 1) V1;exact⟨e,p,eY.put h (eY.put h (eY.refl W) g (i:=0) V1<|Nat.le_of_eq q.symm) e (i:=1) V1<|Nat.le_of_eq u.symm⟩
def Q2 (h:c.Ok):xB c.words=O (zeros<|fu c.words):=by
 have f:=yi h;have n:=h.num;have e:=n.words;unfold xB rS;rw[Ze,zD,Ze,zD,zG,zA V2,zD,gdz V1];rfl
def RA (h:c.Ok):BR c.words=O (0,0,c.words):=by
 have n:=h.num;have e:=n.words;unfold BR qc;rw[zA (show¬(0:Int)<0 by omega),zA (show¬c.words<0 by omega)];rfl
def HN {o n:Nat}(h:o+n<=ft W)(e:ft W<=1048576):dp (n:Int) (o:Int) W=O ((o:Int),0,((o+n:Nat):Int)):=by
 unfold dp sX;rw[Ze,zD,zG,ad (n:=(ft W:Int)-o) V1,Ze,zD,ad (n:=(o:Int)+n) V1]
 congr 2
def bF7 (h:c.Ok)(z:c.mode=3)(e:gy c.mode c.X.length c.T.length c.R c.l c.Q c.k c.len c.words=(c.fixed,c.tp,c.sl,c.ns,0)):
  tu c.mode c.X c.T c.R c.l c.Q c.k c.len c.words=O (.inr<|.inl (c.fixed,c.tp,c.sl,c.ns,c.mode,c.R,c.Q,c.len,c.words,c.len,c.X,c.T,c.l,c.k,c.P,c.tk,c.fixed,c.fixed,c.words,(new1 c).W)):=by
 have f:=yi h;have n:=h.num;have E:=n.words;have D:=n.mul;have C:=h.off9_le;have v:c.off 9=c.off 8+(c.sl*c.ns).toNat:=Pk;have p:(zeros c.words.toNat).length=c.words.toNat:=cb _;obtain⟨A,F,H⟩:=Ka h<|DG (c:=c);unfold tu;rw[Kf h e];simp only[zG,ci];rw[Q2 h,RA h];simp only[zG];rw[qH V1 V1 V1 V1];simp only[zG];rw[show ix 8 c.P.length=O 8 from bl (k:=8) Z9];simp only[zG];rw[Cx.P_get (show 8<10 by omega)];simp only[zG];rw[show dp (c.off 8:Int) 0 (zeros c.words.toNat)=O (((0:Nat):Int),0,((0+c.off 8:Nat):Int))from HN (o:=0) (n:=c.off 8) (by rw[bB,p];omega) V1];unfold dk;simp only[zG];rw[zB z,zC,Int.mul_comm,ad (n:=c.sl*c.ns) V1,show c.sl*c.ns=((c.sl*c.ns).toNat:Int)by omega,HN V1 V1]
 simp only[zG,gM];have g:((0+c.off 8+(c.sl*c.ns).toNat:Nat):Int)=c.tk:=by unfold Cx.tk;omega
 rw[g,put1 (ii:=0) (i:=0) h DG rfl V1 (aD _)];simp only[zG];rw[put1 (ii:=1) (i:=1) h A rfl V1 (aD _)];simp only[zG];have q:(0:Int)+c.fixed=c.fixed:=by omega
 have u:max (0:Int) c.fixed=c.fixed:=by omega
 rw[q,u];rfl
def bt1 (h:c.Ok)(v:c.mode≠3)(e:gy c.mode c.X.length c.T.length c.R c.l c.Q c.k c.len c.words=(c.fixed,c.tp,c.sl,c.ns,0)):
  tu c.mode c.X c.T c.R c.l c.Q c.k c.len c.words=O (.inr<|.inr (c.fixed,c.tp,c.sl,c.ns,c.mode,c.R,c.Q,c.len,c.words,c.len,c.X,c.T,c.l,c.k,c.P,c.tk,(c.off 8:Int),c.ns,(c.X.length:Int),c.fixed,c.fixed,c.words,(new2 c).W)):=by
 have f:=yi h;have n:=h.num;have I:=n.words;have H:=n.mul;have J:=n.x;have D:=h.ns;have F:=h.off9_le;have C:c.off 9=c.off 8+(c.sl*c.ns).toNat:=Pk;have u:(zeros c.words.toNat).length=c.words.toNat:=cb _;have g:=n.sl;rw[zF v]at g;have w0:Wd c<|put (zeros c.words.toNat) (c.off 8)<|zeros (c.sl*c.ns).toNat:=(DG (c:=c)).put h Z5;obtain⟨E,K,L⟩:=Ka h w0;unfold tu;rw[Kf h e];simp only[zG,ci];rw[Q2 h,RA h];simp only[zG];rw[qH V1 V1 V1 V1];simp only[zG];rw[show ix 8 c.P.length=O 8 from bl (k:=8) Z9];simp only[zG];rw[Cx.P_get (show 8<10 by omega)];simp only[zG];rw[show dp (c.off 8:Int) 0 (zeros c.words.toNat)=O (((0:Nat):Int),0,((0+c.off 8:Nat):Int))from HN (o:=0) (n:=c.off 8) (by rw[bB,u];omega) V1];unfold dk
 simp only[zG];rw[zA v,zD];unfold F1 lR fi;rw[zB (show 0<=c.ns by omega),zB (show c.ns<=1048576 by omega),zB (show 1<=(c.X.length:Int)by omega),zB (show(c.X.length:Int)<=64 by omega)];simp only[zC,zD,Bool.not_true,zG];rw[ad (n:=(c.X.length:Int)+1) V1,<-g,Int.mul_comm c.ns,ad (n:=c.sl*c.ns) V1];have p:c.sl*c.ns=(((c.sl*c.ns).toNat:Nat):Int):=by omega
 rw[show dp (c.sl*c.ns) ((0+c.off 8:Nat):Int) (zeros c.words.toNat)=O (((0+c.off 8:Nat):Int),0,((0+c.off 8+(c.sl*c.ns).toNat:Nat):Int))from by
  conv=>lhs;rw[p]
  exact HN V1 V1]
 simp only[zG];rw[zA V2,zD,gdz V1,show List.replicate (c.sl*c.ns).toNat (0:Int)=zeros (c.sl*c.ns).toNat from rfl,tD (by rw[cb];exact aD _) V1 V1,bB];simp only[zG,ci];have q:((c.off 8+(c.sl*c.ns).toNat:Nat):Int)=c.tk:=by unfold Cx.tk;omega
 rw[q,LC (ii:=0) (i:=0) h w0 rfl V1 (aD _)];simp only[zG];rw[LC (ii:=1) (i:=1) h E rfl V1 (aD _)];simp only[zG];have z:(0:Int)+c.fixed=c.fixed:=by omega
 have A:max (0:Int) c.fixed=c.fixed:=by omega
 rw[z,A];rfl
def aD3 (h:c.Ok)(g:c.mode=3):InvB c<|new1 c:=by
 have f:=yi h;have n:=h.num;have o:=n.len;refine⟨(Ka h DG).2.1,rfl,⟨aB _,by show 0<=c.len;omega⟩,⟨by show(-1:Int)<= -1;omega,by show(-1:Int)<=c.len;omega⟩,λe=> ?_, ?_,⟨aB _,f.2.1⟩⟩
 .have e:(0:Int)<= -1:=e;omega
 show c.fixed=c.fixed+c.sl*0;omega
theorem J9 (h:c.Ok)(o:c.mode≠3)(g:k<fu c.ns):ib c (new2 c).W k=0:=by
 have q:=h.off9_le;have u:=h.num.words;have e:c.off 9=c.off 8+fu (c.sl*c.ns):=Pk;have w0:Wd c<|put (zeros<|fu c.words) (c.off 8)<|zeros<|fu<|c.sl*c.ns:=(DG (c:=c)).put h Z5;have⟨z,A,p⟩:=Ka h w0;show ib c (TG c _) k=0;rw[p.tag];have⟨v,_,_⟩:=sw h o g;unfold ib rg;rw[Int.toNat_natCast,List.getD_eq_getElem?_getD,Kh (by rw[cb,cb];omega)];unfold zeros
 grind
def aD4 (h:c.Ok)(g:c.mode≠3):Inv c<|new2 c:=by
 have f:=yi h;have n:=h.num;have u:=n.len;have v:=n.words;have q:=h.off9_le;have o:c.off 9=c.off 8+fu (c.sl*c.ns):=Pk;have w0:Wd c<|put (zeros<|fu c.words) (c.off 8)<|zeros<|fu<|c.sl*c.ns:=(DG (c:=c)).put h Z5
 have p:jz c (new2 c).W=0:=by
  unfold jz;rw[List.countP_eq_zero];intro k e;rw[J9 h g<|cJ.1 e];decide
 refine⟨(Ka h w0).2.1,⟨by show 0<=c.len;omega,by show c.len<=65535;omega⟩,⟨aB _,by show 0<=c.len;omega⟩,⟨by show(-1:Int)<= -1;omega,by show(-1:Int)<=c.len;omega⟩,λk e=> ?_, ?_,⟨aB _,f.2.1⟩⟩
 .rw[J9 h g e];exact⟨aB _,by show(0:Int)<=c.len+1;omega⟩
 rw[p];show c.fixed=c.fixed+c.sl*0;omega
end
end
section
open Go.IntKind renaming wrap->zH,i64->zI,u64->zJ
open Bool renaming not_true->aB
open Int renaming mul_comm->aD,mul_le_mul_of_nonneg_left->bB
def dne {i:Decidable<|x≠x}: @Zc (x≠x) i=Zb:=zA λk=>k rfl
section
variable {c:Cx}
def aq4 (c:Cx)(s:Dy):Int×Int×Int×Int×Int×Int×Int×Int×Int×Int×Int×Int×Int×Int×Int×Int:=
 (zH zJ c.mode,zH zJ s.L,zH zJ s.p,zH zJ<|zH zI<|s.q+1,zH zJ c.ns,zH zJ s.c0,zH zJ s.c1,zH zJ s.c2,zH zJ s.c3,zH zJ s.lv,zH zJ s.pk,s.z,0,0,0,0)
theorem as2 (p:ft l<1000000):am (iu l) cj (0,0)=O ((l.countP λt=>Zc (0<=t):Nat):Int):=by
 have h: ∀i,((l.take i).countP λt=>Zc<|0<=t)<=ft l:=λi=>Nat.le_trans List.countP_le_length V3
 have e:am (iu l) cj (0,(((l.take 0).countP λt=>Zc (0<=t):Nat):Int))=O (((l.take<|ft l).countP λt=>Zc (0<=t):Nat):Int):=by
  refine bz (n:=ft l) (λi=>(((l.take i).countP λt=>Zc (0<=t):Nat):Int)) V1 (λi hi=> ?_) ?_
  .have o:=h i;unfold iu;simp only;rw[zB (show(i:Int)<(ft l:Int)by omega),zC,bl hi,zG,List.getElem?_eq_getElem hi,zG,ad (n:=(i:Int)+1) V1,List.take_succ_eq_append_getElem hi,List.countP_append,ah];by_cases g:0<=l[i]
   .rw[zE g,Zi];simp[g]
   rw[zF g];simp[g]
  unfold iu
  grind
 rw[List.take_length]at e;exact e
theorem as3 (W:Zd):((iC c W).countP λt=>Zc<|0<=t)=jz c W:=by
 unfold iC jz;rw[List.countP_map];apply List.countP_congr
 grind
theorem Ui (h:c.Ok)(g:c.mode≠3)(u:Wd c W)(z: ∀k,k<fu c.ns->0<=ib c W k/\ib c W k<=65536):sR (c.off 8:Int) c.ns (ft c.X:Int) c.tk W=O (.inr ((c.off 8:Int),c.ns,(ft c.X:Int))):=by
 have n:=h.num;have J:=n.x;have D:=h.ns;have C:=n.mul;have I:=n.words;have e:=n.sl;rw[zF g]at e;have H:=h.off9_le;have v:c.off 9=c.off 8+fu (c.sl*c.ns):=Pk;have⟨E,F⟩:=u.tk h;unfold sR lR fi;rw[zB (show 0<=c.ns by omega),zB (show c.ns<=1048576 by omega),zB (show 1<=(ft c.X:Int)by omega),zB (show(ft c.X:Int)<=64 by omega)];simp only[zC,zD,aB,zG];rw[ad (n:=(ft c.X:Int)+1) V1,<-e,aD c.ns,ad (n:=c.sl*c.ns) V1]
 have p:ec (c.off 8:Int) (c.sl*c.ns) c.tk W=O (0,seg W (c.off 8)<|fu<|c.sl*c.ns):=by
  have:=Be (W:=W) (o:=c.off 8) (n:=fu<|c.sl*c.ns) (tk:=c.off 9) V1 E F;rw[Int.toNat_of_nonneg C]at this;exact this
 rw[p,zG,zA V2,zD]
 have q:am (og (c.off 8:Int) c.ns (ft c.X:Int) c.tk W) cj 0=O (.inr ()):=by
  refine nr (n:=fu c.ns) V1 (λi hi=> ?_) ?_
  .have A:=z i hi;unfold og;rw[Zf,zC,Bu h g hi,zG,Kz h g u hi,zG,Ze,zD,Zi];rfl
  unfold og
  grind
 rw[q];rfl
def ab5 (c:Cx)(s:Dy):Int×Int×Int×Int×Int×Int×Int×Int×Int×Int×Int×Int×Int×Int×Int×Int×Int×Zd×Zd×(List<|Int×Int×Int×Int×Int)×(List<|Int×Int×Int×Int×Int)×Zd×Int×Int×Int×Int×Zd:=
 (c.fixed,c.tp,c.sl,c.ns,c.mode,c.R,c.Q,c.len,c.words,s.L,s.p,s.q,s.c0,s.c1,s.c2,s.c3,s.z,c.X,c.T,c.l,c.k,c.P,c.tk,s.lv,s.pk,c.words,s.W)
def Rf (c:Cx)(s:Dy):Int×Int×Int×Int×Int×Int×Int×Int×Int×Int×Int×Int×Int×Int×Int×Int×Int×Zd×Zd×(List<|Int×Int×Int×Int×Int)×(List<|Int×Int×Int×Int×Int)×Zd×Int×Int×Int×Int×Int×Int×Int×Zd:=
 (c.fixed,c.tp,c.sl,c.ns,c.mode,c.R,c.Q,c.len,c.words,s.L,s.p,s.q,s.c0,s.c1,s.c2,s.c3,s.z,c.X,c.T,c.l,c.k,c.P,c.tk,(c.off 8:Int),c.ns,(ft c.X:Int),s.lv,s.pk,c.words,s.W)
def wIU {n:Int}(h:0<=n/\n<=9223372036854775807):zH zI (zH zJ n)=n:=by
 rw[Zk,Zi]
def Oc (h:c.Ok)(e:Wd c W):zu W=O (.inr W):=by
 have f:=yi h;have g:=h.num.words;unfold Wd at e;unfold zu rS;rw[Ze,zD,Ze,zD,zG,zA V2,zD,ya V1];rfl
theorem VP {lv pk:Int}(h:0<=lv)(e:lv<=pk)(g:pk<=b):qc b lv pk=O (.inr (lv,pk,b)):=by
 unfold qc
 grind
def Ji (c:Cx)(s:Dy):Prop:=c.mode≠2->s.L=c.len
def bi0 (h:c.Ok)(A:c.mode≠3)(e:gy c.mode c.X.length c.T.length c.R c.l c.Q c.k c.len c.words=(c.fixed,c.tp,c.sl,c.ns,0))(hi:Inv c s)(hL:Ji c s)(hc:FT B s)(hB:B<=2305843009213693952):
  iG c.mode c.X c.T c.R c.l c.Q c.k c.len c.words s.W (zH zJ c.mode) (zH zJ s.L) (zH zJ s.p) (zH zJ<|zH zI<|s.q+1) (zH zJ c.ns) (zH zJ s.c0) (zH zJ s.c1) (zH zJ s.c2) (zH zJ s.c3) (zH zJ s.lv) (zH zJ s.pk) s.z 0 0 0 0=O (.inr<|.inr<|Rf c s):=by
 have n:=h.num;have f:=yi h;have nw:=n.words;have nns:=h.ns;have nm:=n.mul;have M:=n.len;have J:=n.mode;have C:=hi.w;have hp:=hi.p;have hq:=hi.q;have H:=hi.L;have D:=hi.pk;obtain⟨k0,k1,k2,k3⟩:=hc.in' hB;obtain⟨N,g2,g3,g4⟩:=J4 h hi;have h9:=h.off9_le;have Z:c.off 9=c.off 8+(c.sl*c.ns).toNat:=Pk;obtain⟨t1,t2⟩:=C.tk h;have hWl:s.W.length=c.words.toNat:=C;unfold iG;rw[Kf h e];simp only[zG,ci];rw[cn (n:=((s.W.length:Nat):Int)) V1,cn (n:=c.words) V1,zA (show¬(((s.W.length:Nat):Int)≠c.words)by omega),zD,dne,zD,dne,zD]
 have v:iN (zH zJ s.L) c.fixed c.tp c.sl c.ns c.mode c.R c.Q c.len c.words c.len 0 (-1) 0 0 0 0 0 c.X c.T c.l c.k c.P=O Za:=by
  unfold iN;rw[ah];by_cases F:c.mode=2
  .rw[zE F,Zk,Zf]
  .rw[zF F,hL F,zB rfl]
 rw[v];simp only[zG,aB,zD];have I:zH zI (s.q+1)=s.q+1:=ad V1;rw[I,cn (n:=s.L) V1,cn (n:=s.p) V1,cn (n:=s.q+1) V1,cn (n:=s.L+1) V1,cn (n:=s.lv) V1,cn (n:=s.pk) V1,zA (show¬s.L<s.p by omega),zD,zA (show¬s.L+1<s.q+1 by omega),zD,zA (show¬c.words<s.lv by omega),zD,zA (show¬c.words<s.pk by omega),zD,Oc h C];simp only[zG,ci];rw[show ix 8 c.P.length=O 8 from bl (k:=8) Z9];simp only[zG];rw[Cx.P_get (show 8<10 by omega)];simp only[zG]
 have E:dp (zH zI<|(c.off 8:Int)+zH zI (c.ns*c.sl)) 0 s.W=O (0,0,c.tk):=by
  rw[aD,ad (n:=c.sl*c.ns) V1,Zi,show(c.off 8:Int)+c.sl*c.ns=((c.off 9:Nat):Int)by omega];have:=HN (o:=0) (n:=c.off 9) (W:=s.W) V1 V1;rw[Nat.zero_add]at this;exact this
 rw[E];simp only[zG];rw[ad (n:=s.L) V1,ad (n:=s.p) V1,ad (n:=s.q+1) V1,ad (n:=s.q+1-1) V1,show s.q+1-1=s.q by omega];unfold jE fK;simp only[zG];rw[zA A,zD,show ix 8 c.P.length=O 8 from bl (k:=8) Z9];simp only[zG];rw[Cx.P_get (show 8<10 by omega)];simp only[zG];have g: ∀k,k<c.ns.toNat->0<=ib c s.W k/\ib c s.W k<=65536:=λk hk=>by have:=hi.tag k hk;omega
 rw[Ui h A C g];simp only[zG,ci];unfold pi
 have u:(iC c s.W).length<1000000:=by
  rw[oW];rcases Nat.eq_zero_or_pos c.ns.toNat with h0|h0
  .omega
  .have:=(sw h A h0).2.2;omega
 rw[KA h A C g];simp only[zG];rw[EH H hp hq u<|KB hi.tag];simp only[zG,ci,aB,zD];unfold pm dk;simp only[zG];rw[zA A,Bool.not_false,zC];unfold qo;rw[KA h A C g];simp only[zG];rw[as2 u,as3];simp only[zG];have hlv:=hi.lv;have hul:=ag3 c s.W;have K:1<=c.sl:=by have:=n.sl;rw[zF A]at this;omega
 have h8:c.sl*(jz c s.W:Int)<=c.sl*c.ns:=bB V1 V1;have V:0<=c.sl*(jz c s.W:Int):=Int.mul_nonneg V1 V1;rw[aD ((jz c s.W:Nat):Int),ad (n:=c.sl*(jz c s.W:Int)) V1,ad (n:=c.fixed+c.sl*(jz c s.W:Int)) V1,ad (n:=s.lv) V1,zA (show¬(s.lv≠c.fixed+c.sl*(jz c s.W:Int))by omega),zD];simp only[zG,ci];rw[ad (n:=s.pk) V1,VP N D.1 D.2];simp only[zG,ci];rw[wIU V1,wIU V1,wIU V1,wIU V1];rfl
theorem bh9 (h:c.Ok)(A:c.mode=3)(e:gy c.mode (ft c.X) (ft c.T) c.R c.l c.Q c.k c.len c.words=(c.fixed,c.tp,c.sl,c.ns,0))(hi:InvB c s)(hc:FT B s)(V:B<=2305843009213693952):
  iG c.mode c.X c.T c.R c.l c.Q c.k c.len c.words s.W (zH zJ c.mode) (zH zJ s.L) (zH zJ s.p) (zH zJ<|zH zI<|s.q+1) (zH zJ c.ns) (zH zJ s.c0) (zH zJ s.c1) (zH zJ s.c2) (zH zJ s.c3) (zH zJ s.lv) (zH zJ s.pk) s.z 0 0 0 0=O (.inr<|.inl<|ab5 c s):=by
 have n:=h.num;have f:=yi h;have nw:=n.words;have nns:=h.ns;have nm:=n.mul;have J:=n.len;have F:=n.mode;have D:=hi.w;have hp:=hi.p;have hq:=hi.q;have Z:=hi.L;have v:=hi.pk;have hqp:=hi.qp;have⟨k0,k1,k2,k3⟩:=hc.in' V;have⟨K,g2,g3,g4,g5,g6,g7⟩:=X9 h A hi;have h9:=h.off9_le;have N:c.off 9=c.off 8+fu (c.sl*c.ns):=Pk;have⟨t1,t2⟩:=D.tk h;have hWl:ft s.W=fu c.words:=D;unfold iG;rw[Kf h e];simp only[zG,ci];rw[cn (n:=((ft s.W:Nat):Int)) V1,cn (n:=c.words) V1,zA (show¬(((ft s.W:Nat):Int)≠c.words)by omega),zD,dne,zD,dne,zD]
 have u:iN (zH zJ s.L) c.fixed c.tp c.sl c.ns c.mode c.R c.Q c.len c.words c.len 0 (-1) 0 0 0 0 0 c.X c.T c.l c.k c.P=O Za:=by
  unfold iN
  grind
 rw[u];simp only[zG,aB,zD];have E:zH zI (s.q+1)=s.q+1:=ad V1;rw[E,cn (n:=s.L) V1,cn (n:=s.p) V1,cn (n:=s.q+1) V1,cn (n:=s.L+1) V1,cn (n:=s.lv) V1,cn (n:=s.pk) V1,zA (show¬s.L<s.p by omega),zD,zA (show¬s.L+1<s.q+1 by omega),zD,zA (show¬c.words<s.lv by omega),zD,zA (show¬c.words<s.pk by omega),zD,Oc h D];simp only[zG,ci];rw[show ix 8 (ft c.P)=O 8 from bl (k:=8) Z9,zG,Cx.P_get (show 8<10 by omega),zG]
 have C:dp (zH zI<|(c.off 8:Int)+zH zI (c.ns*c.sl)) 0 s.W=O (0,0,c.tk):=by
  rw[aD,ad (n:=c.sl*c.ns) V1,Zi,show(c.off 8:Int)+c.sl*c.ns=((c.off 9:Nat):Int)by omega];have:=HN (o:=0) (n:=c.off 9) (W:=s.W) V1 V1;rw[Nat.zero_add]at this;exact this
 rw[C,zG,ad (n:=s.L) V1,ad (n:=s.p) V1,ad (n:=s.q+1) V1,ad (n:=s.q+1-1) V1,show s.q+1-1=s.q by omega];unfold jE fK;simp only[zG];rw[zB A,zC];simp only[zG,gM,aB,zD];unfold pj fK;simp only[zG];rw[zB A,aB,zD]
 have g:cond (Zc<|s.q<0) (O s.p) (O s.q)=O (iY s):=by
  unfold iY;rw[ah];split<;>rfl
 rw[g,zG];have hlv:=hi.lv;have H:0<=iY s/\iY s<=c.ns:=by unfold iY;split<;>omega
 have I:1<=c.sl:=by have:=n.sl;rw[zE A]at this;have:=n.R;omega
 have h8:c.sl*iY s<=c.sl*c.ns:=bB H.2 V1;have M:0<=c.sl*iY s:=Int.mul_nonneg V1 H.1;rw[aD<|iY s,ad (n:=c.sl*iY s) V1,ad (n:=c.fixed+c.sl*iY s) V1,ad (n:=s.lv) V1,zA (show¬(s.lv≠c.fixed+c.sl*iY s)by omega),zD];simp only[zG,ci,gM];rw[ad (n:=s.pk) V1,VP K v.1 v.2];simp only[zG,ci];rw[wIU V1,wIU V1,wIU V1,wIU V1];rfl
end
end
section
open List renaming length_take->aB
section
variable {c:Cx}
theorem aV7 (h:c.Ok)(D:c.mode=3)(hi:InvB c s)(a n:Int):InvB c (GP c a n s).2:=by
 have E:=h.num;have C:=hi.w;have F:=hi.L;have Q:=hi.p;have Z:=hi.q;have V:=hi.pk;have hqp:=hi.qp;have N:=h.ns;have nR:=E.R;have n1:=E.xtR;have nx:=E.x;have⟨g1,g2,g3,g4,K,g6,g7⟩:=X9 h D hi;have I:=E.tp;rw[zE D]at I;have l1:ft (seg s.W (c.off 1)<|ft c.X)=ft c.X:=ew<|C.in' h (i:=1) V1;have z1:c.sz 1=ft c.X:=rfl;have o1:=gH (c:=c) (i:=1) (j:=9) V1;unfold GP;by_cases a8:a=8
 .rw[zE a8];by_cases z:n≠0
  .rw[zE z];exact hi
  rw[zF z];by_cases u:0<=s.q
  .rw[zE u];exact hi
  rw[zF u];by_cases g:s.p=s.L
  .rw[zE g];exact hi
  rw[zF g];have e:iY s=s.p:=by unfold iY;rw[Zg]
  have A:fu s.p<fu c.ns:=by omega
  have⟨s1,s2,s3,s4⟩:=DD h D A;have⟨f1,f2,f3⟩:=iS h C s.p;have w1:=AB h C s.p;have H:ft ((stepR c s.W s.p).2.1++(stepR c s.W s.p).1)=fu c.sl:=by rw[List.length_append];omega
  have w2:=w1.put h (w:=(stepR c s.W s.p).2.1++(stepR c s.W s.p).1) (o:=jx c<|fu s.p) (by rw[H];exact s3);have M:=K (by rw[e];omega);refine⟨w2.put h Z4,F,⟨by show 0<=s.p+1;omega,by show s.p+1<=s.L;omega⟩,Z,λv=> ?_, ?_, ?_⟩
  .have v:0<=s.q:=v;omega
  .show s.lv+c.sl=c.fixed+c.sl*(if s.q<0 then s.p+1 else s.q);rw[Zg,hi.lv,e,Int.mul_add,Int.mul_one];omega
  grind
 rw[zF a8];by_cases a5:a=5
 .rw[zE a5];by_cases z:n≠0
  .rw[zE z];exact hi
  rw[zF z];by_cases u:0<=s.q
  .rw[zE u];exact hi
  rw[zF u];by_cases g:s.p≠s.L
  .rw[zE g];exact hi
  rw[zF g];refine⟨(EC h C l1).2,F,Q,⟨by show-1<=s.L;omega,Int.le_refl _⟩,λ_=>by show s.p=s.L;omega, ?_, ?_⟩
  .show s.lv=c.fixed+c.sl*(if s.L<0 then s.p else s.L);rw[Zh,hi.lv];unfold iY
   grind
  grind
 rw[zF a5];by_cases J:a=9
 .rw[zE J];by_cases z:n≠0
  .rw[zE z];exact hi
  rw[zF z];by_cases v:s.q<1
  .rw[zE v];exact hi
  rw[zF v];have A:fu (s.q-1)<fu c.ns:=by omega
  have⟨b1,b2,b3,b4,b5,b6⟩:=Md h D C A;have⟨v1,v2,v3⟩:=nG h (a:=(zp c s.W<|fu<|s.q-1).2.1) C V1 V1;refine⟨v3.put h Z4,F,⟨by show 0<=s.q-1;omega,by show s.q-1<=s.L;omega⟩,⟨by show-1<=s.q-1;omega,by show s.q-1<=s.L;omega⟩,λ_=>rfl, ?_, ?_⟩
  .show s.lv-c.sl=c.fixed+c.sl*(if s.q-1<0 then s.q-1 else s.q-1);have e:iY s=s.q:=by unfold iY;rw[Zh]
   rw[Zh,hi.lv,e,Int.mul_sub,Int.mul_one];omega
  show s.lv-c.sl<=s.pk/\s.pk<=c.words;have:=E.sl;rw[zE D]at this;omega
 rw[zF J];exact hi
def aV6 (g:FT B s)(a n:Int):FT (B+65536) (GP c a n s).2:=by
 have e:FT (B+65536) s:=by unfold FT at g⊢;omega
 unfold GP
 repeat' split
 all_goals first|exact e|(unfold FT at g⊢;simp only;omega)
def zr (c:Cx)(s:Dy):Int×Dy:=if c.mode≠2 then(19,s)else if 0<=s.q then(19,s)else if s.L=65535 then(14,s)else(0,{s with L:=s.L+1})
def RB (g:FT B s):FT (B+65536) (zr c s).2:=by
 have e:FT (B+65536) s:=by unfold FT at g⊢;omega
 unfold zr
 repeat' split
 all_goals first|exact e|(unfold FT at g⊢;simp only;omega)
def Ye (e:c.mode=3)(hi:InvB c s):InvB c (zr c s).2:=by
 unfold zr;rw[Zg];exact hi
def Yf (hi:Inv c s):Inv c (zr c s).2:=by
 unfold zr;split
 .exact hi
 split
 .exact hi
 split
 .exact hi
 have:=hi.L;have:=hi.p;have:=hi.q;exact⟨hi.w,⟨by show 0<=s.L+1;omega,by show s.L+1<=65535;omega⟩,⟨hi.p.1,by show s.p<=s.L+1;omega⟩,⟨hi.q.1,by show s.q<=s.L+1;omega⟩,λk e=>by have:=hi.tag k e;exact⟨this.1,by show ib c s.W k<=s.L+1+1;omega⟩,hi.lv,hi.pk⟩
def ao0 (g:Ji c s):Ji c (zr c s).2:=by
 intro e;unfold zr;rw[zE e];exact g e
theorem ay7 (a n:Int)(s:Dy):(yg c a n s).2.L=s.L:=by
 unfold yg;by_cases e:jb a n=Zb∨7<a
 .rw[zE e]
 grind
def aP4 (e:Ji c s)(a n:Int):Ji c (yg c a n s).2:=λg=>(ay7 a n s).trans<|e g
def aM9 (c:Cx)(x:Int×Int)(s:Dy):Int×Dy:=if x.1=0 then zr c s else GP c x.1 x.2 s
def bw5 (u:0<=s.L/\s.L<=65535):iT c.fixed c.tp c.sl c.ns c.mode c.R c.Q c.len c.words s.L s.p s.q s.c0 s.c1 s.c2 s.c3 s.z c.X c.T c.l c.k c.P c.tk (c.off 8:Int) c.ns (ft c.X:Int) s.lv s.pk c.words s.W=O ((zr c s).1,c.fixed,c.tp,c.sl,c.ns,c.mode,c.R,c.Q,c.len,c.words,(zr c s).2.L,s.p,s.q,s.c0,s.c1,s.c2,s.c3,s.z):=by
 unfold iT zr;rw[ah];by_cases e:c.mode≠2
 .rw[zE e,zE e]
 rw[zF e,zF e,ah];by_cases g:0<=s.q
 .rw[zE g,zE g]
 rw[zF g,zF g,ah];by_cases o:s.L=65535
 .rw[zE o,zE o]
 rw[zF o,zF o,Zi]
def au0 (c:Cx)(x:Int×Int)(s:Dy):Int×Dy:=if x.1=0 then zr c s else yg c x.1 x.2 s
structure Well1 (c:Cx)(i:Nat)(s:Dy):Prop where
 inv:InvB c s
 cnt:FT (65536*i) s
structure Well2 (c:Cx)(i:Nat)(s:Dy):Prop where
 inv:Inv c s
 cnt:FT (65536*i) s
 len:Ji c s
def Well1.act (h:c.Ok)(g:c.mode=3)(w:Well1 c i s)(x:Int×Int):Well1 c (i+1) (aM9 c x s).2:=by
 have e:(65536:Int)*((i+1:Nat):Int)=65536*i+65536:=by omega
 unfold aM9;split
 .exact⟨Ye g w.inv,by rw[e];exact RB w.cnt⟩
 exact⟨aV7 h g w.inv _ _,by rw[e];exact aV6 w.cnt _ _⟩
theorem Well2.act (h:c.Ok)(g:c.mode≠3)(w:Well2 c i s)(x:Int×Int):Well2 c (i+1) (au0 c x s).2:=by
 have e:(65536:Int)*((i+1:Nat):Int)=65536*i+65536:=by omega
 unfold au0;split
 .exact⟨Yf w.inv,by rw[e];exact RB w.cnt,ao0 w.len⟩
 exact⟨aP3 h g w.inv _ _,by rw[e];exact aP2 w.cnt _ _,aP4 w.len _ _⟩
def bo8 (f:(Int×Int)->Dy->Int×Dy)(l:List<|Int×Int)(s:Dy):Nat->Dy
 |0=>s
 |i+1=>(f (l.getD i (0,0))<|bo8 f l s i).2
def ad7 (s:Dy)(h:s.c0=0/\s.c1=0/\s.c2=0/\s.c3=0):FT (65536*(0:Nat)) s:=by
 unfold FT;omega
def Sc (h:c.Ok)(e:c.mode=3)(l:List<|Int×Int): ∀i,Well1 c i (bo8 (aM9 c) l (new1 c) i)
 |0=>⟨aD3 h e,ad7 _ ⟨rfl,rfl,rfl,rfl⟩⟩
 |i+1=>(Sc h e l i).act h e _
def Sd (h:c.Ok)(e:c.mode≠3)(l:List<|Int×Int): ∀i,Well2 c i (bo8 (au0 c) l (new2 c) i)
 |0=>⟨aD4 h e,ad7 _ ⟨rfl,rfl,rfl,rfl⟩,λ_=>rfl⟩
 |i+1=>(Sd h e l i).act h e _
def FP (c:Cx)(s:Dy):Int×Int×Zd×Zd:=if s.q≠0 then(0,19,[],[])else(s.z,0,seg s.W (c.off 5)<|ft c.X,seg s.W (c.off 6)<|ft c.T)
def aW4 (h:c.Ok)(g:Wd c s.W):kX c.fixed c.tp c.sl c.ns c.mode c.R c.Q c.len c.words s.L s.p s.q s.c0 s.c1 s.c2 s.c3 s.z c.X c.T c.l c.k c.P c.tk s.lv s.pk c.words s.W=O (FP c s):=by
 unfold kX FP;rw[ah];by_cases e:s.q≠0
 .rw[zE e,zE e]
 rw[zF e,zF e,VA (ii:=5) (i:=5) h g rfl V1,zG,VA (ii:=6) (i:=6) h g rfl V1];rfl
def bl9 (h:c.Ok)(e:Wd c s.W):lI c.fixed c.tp c.sl c.ns c.mode c.R c.Q c.len c.words s.L s.p s.q s.c0 s.c1 s.c2 s.c3 s.z c.X c.T c.l c.k c.P c.tk s.lv s.pk c.words s.W=O s.W:=by
 unfold lI jW;rw[ya (e.tk h).2];rfl
def ae8 (h:c.Ok)(g:Wd c s.W):jD c.fixed c.tp c.sl c.ns c.mode c.R c.Q c.len c.words s.L s.p s.q s.c0 s.c1 s.c2 s.c3 s.z c.X c.T c.l c.k c.P c.tk (c.off 8:Int) c.ns (ft c.X:Int) s.lv s.pk c.words s.W=O (FP c s):=by
 unfold jD FP;rw[ah];by_cases e:s.q≠0
 .rw[zE e,zE e]
 rw[zF e,zF e,QN (ii:=5) (i:=5) h g rfl V1,zG,QN (ii:=6) (i:=6) h g rfl V1];rfl
def aA8 (h:c.Ok)(e:Wd c s.W):kf c.fixed c.tp c.sl c.ns c.mode c.R c.Q c.len c.words s.L s.p s.q s.c0 s.c1 s.c2 s.c3 s.z c.X c.T c.l c.k c.P c.tk (c.off 8:Int) c.ns (ft c.X:Int) s.lv s.pk c.words s.W=O s.W:=by
 unfold kf jW;rw[ya (e.tk h).2];rfl
end
end
section
section
variable {c:Cx}
end
end
section
section
variable {a0:Int} {a1 a2:Zd} {a3:Int} {a4:List bx} {a5:Int} {a6:List bx} {a7 a8:Int}
theorem aX8 (v: ∀o∈a4,UC o)(z: ∀o∈a6,UC o):mf a0 a1 a2 a3 a4 a5 a6 a7 a8=O Zb∨(mf a0 a1 a2 a3 a4 a5 a6 a7 a8=O Za/\OpsOk a4/\OpsOk a6/\ft a1<=200/\ft a2<=200):=by
 unfold mf Co;by_cases g:(ft a4:Int)<=60
 .by_cases p:(ft a6:Int)<=60
  .by_cases q:(ft a1:Int)<=200
   .by_cases u:(ft a2:Int)<=200
    .have A:OpsOk a4:=⟨V1,v⟩;have C:OpsOk a6:=⟨V1,z⟩;rw[zB g,zB p,zB q,zB u];simp only[zC,zG,Bool.not_true,zD];rw[Kl A C V1 V1];simp only[zG,ah]
     have e: ∀b:Bool,(O b=O Zb)∨(O b=O Za/\OpsOk a4/\OpsOk a6/\ft a1<=200/\ft a2<=200):=λb=>by
      cases b
      .exact .inl rfl
      grind
     repeat' split
     all_goals exact e _
    grind
   grind
  grind
 grind
end
end
section
open Go.IntKind renaming wrap->zH,i64->zI,u64->zJ
open Int renaming tdiv_eq_ediv_of_nonneg->bB,tmod_eq_emod_of_nonneg->bD
open List renaming range->aB,forall_mem_cons->aD
def yL (a:Int):Prop:=0<=a/\a<18446744073709551616
def wU (n:Int):zH zJ n=n % 18446744073709551616:=rfl
def bd3 {n:Int}(h:yL n):zH zJ n=n:=by rw[wU];unfold yL at h;omega
def LV (n:Int):yL<|zH zJ n:=by rw[wU];unfold yL;omega
def Cg (x y:Int):Prop:= ∃k,x=y+18446744073709551616*k
def Xu (x:Int):Cg (zH zJ x) x:=⟨-(x / 18446744073709551616),by rw[wU];omega⟩
def Cg.wrap (h:Cg x y)(w:yL x):x=zH zJ y:=by
 have⟨k,e⟩:=h;rw[wU];unfold yL at w;omega
def E1 :Zd->Int
 |[]=>0
 |d::r=>d+256*E1 r
def stN (s:Int×Int×Int)(d:Int):Int×Int×Int:=(zH zI<|Int.tdiv (zH zI<|s.1+d) 256,zH zJ<|s.2.1+zH zJ (zH zJ (Int.tmod (zH zI<|s.1+d) 256)*s.2.2),zH zJ<|s.2.2*256)
theorem Vt : ∀(l:Zd) (c n b:Int),(0<=c/\c<=1000000000)->(∀d∈l,0<=d/\d<=1000000000)->∃k,Cg (l.foldl stN (c,n,b)).2.1 (n+b*(c+E1 l-256 ^ (ft l)*k))
 |[],c,n,b,_,_=>⟨c,0,by simp[E1]⟩
 |d::l,c,n,b,H,g=>by
  have I:=g d V2;have⟨k,q,e⟩:=Vt l ((c+d) / 256) (zH zJ<|n+zH zJ ((c+d) % 256*b)) (zH zJ<|b*256) V1 λx p=>g x (by simp[p])
  have o:stN (c,n,b) d=((c+d) / 256,zH zJ<|n+zH zJ ((c+d) % 256*b),zH zJ<|b*256):=by
   unfold stN;simp only;rw[ad (n:=c+d) V1,bB V1,bD V1,Zi,bd3 (n:=(c+d) % 256) (by unfold yL;omega)]
  have⟨z,D⟩:=Xu<|(c+d) % 256*b;have⟨A,E⟩:=Xu<|n+zH zJ ((c+d) % 256*b);have⟨C,F⟩:=Xu<|b*256;have J:c+d=256*((c+d) / 256)+(c+d) % 256:=by omega
  refine⟨k,z+A+C*((c+d) / 256+E1 l-256 ^ (ft l)*k)+q, ?_⟩;show(l.foldl stN<|stN (c,n,b) d).2.1=n+b*(c+(d+256*E1 l)-256 ^ (ft l+1)*k)+_;rw[o,e,F,E,D,Int.pow_succ];generalize (c+d) / 256=u at*;generalize (c+d) % 256=v at*
  grind
def Lx {g o p u v z A C:Int}(h: ∀d∈[g,o,p,u,v,z,A,C],0<=d/\d<=1000000000):mM g o p u v z A C=O (zH zJ<|E1 [g,o,p,u,v,z,A,C]):=by
 have e:mM g o p u v z A C=O ([g,o,p,u,v,z,A,C].foldl stN (0,0,1)).2.1:=by kernel_rfl
 have⟨k,q,w⟩:=Vt _ 0 0 1 V1 h;rw[e];refine congrArg O<|Cg.wrap ⟨q-k, ?_⟩ (LV _);rw[w];simp only[List.length_cons,List.length_nil];omega
def dgs (a:Int):Int×Int×Int×Int×Int×Int×Int×Int:=(a % 256,a / 256 % 256,a / 256 / 256 % 256,a / 256 / 256 / 256 % 256,a / 256 / 256 / 256 / 256 % 256,a / 256 / 256 / 256 / 256 / 256 % 256,a / 256 / 256 / 256 / 256 / 256 / 256 % 256,a / 256 / 256 / 256 / 256 / 256 / 256 / 256 % 256)
def Di (h:yL a):jw a=O (dgs a):=by
 have e: ∀(u m:Int->Int),(u=λx=>IntKind.u64.wrap<|Int.tdiv x 256)->(m=λx=>IntKind.i64.wrap<|Int.tmod x 256)->jw a=O (m a,m<|u a,m<|u<|u a,m<|u<|u<|u a,m<|u<|u<|u<|u a,m<|u<|u<|u<|u<|u a,m<|u<|u<|u<|u<|u<|u a,m<|u<|u<|u<|u<|u<|u<|u a):=λu m p q=>by
  subst p q;kernel_rfl
 have o: ∀x,yL x->IntKind.u64.wrap (Int.tdiv x 256)=x / 256/\yL (x / 256):=λx h=>by
  unfold yL at*;rw[bB h.1,wU];omega
 have g: ∀x,yL x->IntKind.i64.wrap (Int.tmod x 256)=x % 256:=λx h=>by
  unfold yL at h;rw[bD h.1,Zi]
 rw[e _ _ rfl rfl];have⟨p,v⟩:=o _ h;have⟨q,z⟩:=o _ v;have⟨F,A⟩:=o _ z;have⟨H,C⟩:=o _ A;have⟨I,D⟩:=o _ C;have⟨J,E⟩:=o _ D;have⟨K,L⟩:=o _ E;simp only[p,q,F,H,I,J,K,g _ h,g _ v,g _ z,g _ A,g _ C,g _ D,g _ E,g _ L];rfl
def OF (h:yL a): ∃e g o p q u v z:Int,dgs a=(e,g,o,p,q,u,v,z)/\(∀d∈[e,g,o,p,q,u,v,z],0<=d/\d<=255)/\a=E1 [e,g,o,p,q,u,v,z]:=by
 refine⟨_,_,_,_,_,_,_,_,rfl,λd A=> ?_, ?_⟩
 .simp only[List.mem_cons,List.not_mem_nil,or_false]at A;omega
 unfold yL at h;simp only[E1];omega
def bE0 {α β:Type}{x:Option α}{a:α}{f:α->Option β}{r:Option β}(h:x=O a)(e:f a=r):x.bind f=r:=by rw[h];exact e
def lX {d:Int}(h:0<=d/\d<=1000000000):zH zI d=d:=ad V1
def Zp {d:Int}(h:0<=d/\d<=1000000000:=by omega):zH zI d=d:=lX h
def IV (e:yL a)(g:yL b):qL a b=O (zH zJ<|a+b):=by
 have⟨A,C,D,E,F,H,I,J,o,q,v⟩:=OF e;have⟨K,L,M,N,Q,V,X,Z,p,u,z⟩:=OF g;unfold qL;rw[Di e,Di g,o,p];refine bE0 rfl (bE0 rfl (bE0 (a:=(zH zI<|A+K,zH zI<|C+L,zH zI<|D+M,zH zI<|E+N,zH zI<|F+Q,zH zI<|H+V,zH zI<|I+X,zH zI<|J+Z)) V4 ?_));simp only[aD]at q u;simp only;rw[Zp,Zp,Zp,Zp,Zp,Zp,Zp,Zp];refine bE0 (Lx (by simp only[aD];refine⟨?_, ?_, ?_, ?_, ?_, ?_, ?_, ?_,λ_ h=>by cases h⟩<;>omega)) ?_;rw[v,z];simp only[E1]
 congr 2
 omega
def RO (e:yL a):xH a=O (zH zJ<|-a):=by
 have⟨g,u,v,z,A,C,D,E,o,p,q⟩:=OF e;unfold xH;rw[Di e,o];refine bE0 rfl (bE0 (a:=(zH zI<|255-g,zH zI<|255-u,zH zI<|255-v,zH zI<|255-z,zH zI<|255-A,zH zI<|255-C,zH zI<|255-D,zH zI<|255-E)) V4 ?_);simp only[aD]at p;simp only;rw[lX (d:=255-g) V1,Zp,Zp,Zp,Zp,Zp,Zp,Zp,Zp];refine bE0 (Lx (by simp only[aD];refine⟨?_, ?_, ?_, ?_, ?_, ?_, ?_, ?_,λ_ h=>by cases h⟩<;>omega)) ?_;rw[q];simp only[E1,wU]
 congr 1
 omega
def cnv (x y:Zd)(k:Nat):Int:=(aB<|k+1).foldl (λs p=>IntKind.i64.wrap<|s+zH zI (x.getD p 0*y.getD (k-p) 0)) 0
theorem bj8 {x y:Zd}(z: ∀d∈x,0<=d/\d<=255)(A: ∀d∈y,0<=d/\d<=255)(k:Nat)(D:k<8):cnv x y k=((aB<|k+1).map λp=>x.getD p 0*y.getD (k-p) 0).sum/\0<=cnv x y k/\cnv x y k<=1000000000:=by
 have q: ∀(l:Zd) p,(∀d∈l,0<=d/\d<=255)->0<=l.getD p 0/\l.getD p 0<=255:=λl p h=>by
  rw[List.getD_eq_getElem?_getD];by_cases u:p<ft l
  .rw[List.getElem?_eq_getElem u];exact h _ (List.getElem_mem u)
  grind
 have g: ∀n,n<=8->(aB n).foldl (λs p=>IntKind.i64.wrap<|s+zH zI (x.getD p 0*y.getD (k-p) 0)) 0=((aB n).map λp=>x.getD p 0*y.getD (k-p) 0).sum/\0<=((aB n).map λp=>x.getD p 0*y.getD (k-p) 0).sum/\((aB n).map λp=>x.getD p 0*y.getD (k-p) 0).sum<=65025*n:=by
  intro n;induction n with
  |zero=>intro _;exact⟨rfl,V2,V2⟩
  |succ n C=>
   intro E;have⟨e,o,v⟩:=C V1;have a:=q x n z;have b:=q y (k-n) A;have F:=Int.mul_nonneg a.1 b.1;have H:x.getD n 0*y.getD (k-n) 0<=255*255:=Int.mul_le_mul a.2 b.2 b.1 V5;simp only[List.range_succ,List.foldl_append,List.foldl_cons,List.foldl_nil,List.map_append,List.map_cons,List.map_nil,List.sum_append,List.sum_cons,List.sum_nil];rw[e,ad (n:=x.getD n 0*y.getD (k-n) 0) V1,Zi];omega
 have⟨e,o,v⟩:=g (k+1) V1;unfold cnv;rw[e];exact⟨rfl,o,V1⟩
theorem GS (N:yL a)(o:yL b):pa a b=O (zH zJ<|a*b):=by
 have⟨L,A,z,v,u,q,p,g,Q,X,v1⟩:=OF N;have⟨M,D,E,F,H,I,J,K,V,Z,v2⟩:=OF o;have C:=bj8 X Z;unfold pa;rw[Di N,Di o,Q,V]
 have e: ∀f,f=cnv [L,A,z,v,u,q,p,g] [M,D,E,F,H,I,J,K]->am (CV (L,A,z,v,u,q,p,g) (M,D,E,F,H,I,J,K)) cj (0,0,0,0,0,0,0,0,0)=O (f 0,f 1,f 2,f 3,f 4,f 5,f 6,f 7):=λf e=>by
  subst e;kernel_rfl
 refine bE0 rfl (bE0 rfl (bE0 (e _ rfl) ?_));have o: ∀k,k<8->0<=cnv [L,A,z,v,u,q,p,g] [M,D,E,F,H,I,J,K] k/\cnv [L,A,z,v,u,q,p,g] [M,D,E,F,H,I,J,K] k<=1000000000:=λk hk=>(C k hk).2
 refine bE0 (Lx (by simp only[aD];exact⟨o 0 V1,o 1 V1,o 2 V1,o 3 V1,o 4 V1,o 5 V1,o 6 V1,o 7 V1,λ_ h=>by cases h⟩)) ?_;rw[(C 0 V1).1,(C 1 V1).1,(C 2 V1).1,(C 3 V1).1,(C 4 V1).1,(C 5 V1).1,(C 6 V1).1,(C 7 V1).1,v1,v2];refine congrArg O<|Eq.symm<|Cg.wrap ?_ (LV _);have⟨k,w⟩:=Xu<|E1 [L,A,z,v,u,q,p,g]*E1 [M,D,E,F,H,I,J,K];refine⟨k+(D*g+E*E1 [p,g]+F*E1 [q,p,g]+H*E1 [u,q,p,g]+I*E1 [v,u,q,p,g]+J*E1 [z,v,u,q,p,g]+K*E1 [A,z,v,u,q,p,g]), ?_⟩;rw[w];simp only[E1,show aB (0+1)=[0]from rfl,show aB (1+1)=[0,1]from rfl,show aB (2+1)=[0,1,2]from rfl,show aB (3+1)=[0,1,2,3]from rfl,show aB (4+1)=[0,1,2,3,4]from rfl,show aB (5+1)=[0,1,2,3,4,5]from rfl,show aB (6+1)=[0,1,2,3,4,5,6]from rfl,show aB (7+1)=[0,1,2,3,4,5,6,7]from rfl,List.map_cons,List.map_nil,List.sum_cons,List.sum_nil]
 simp[List.getD]
 grind
end
section
open List renaming replicate->aB,append_assoc->bB,getElem?_append_right->bD,append_nil->cD,getElem_mem->cN
open Nat renaming le_refl->aD,sub_self->cB,add_zero->cK,mul_comm->cL,succ_mul->cM,le_mul_of_pos_left->cO,mul_le_mul_right->cP
def QQ {R:Int}{l:List bx}(h:OpsOk l)(A:ft l<=1500):sG R l=O (Bv R l):=by
 have e: ∀n:Nat,n<4->i8 R l (n:Int)=O (if Rz R l n≠0 then .inr (.inl<|Rz R l n)else .inl ((n+1:Nat):Int)):=by
  intro n C;unfold i8;simp only[ah];rw[Zg,IY h A,zG,ad (n:=(n:Int)+1) V1];split<;>rfl
 have v:i8 R l 4=O (.inr<|.inr ()):=rfl;unfold sG Bv
 have o:am (i8 R l) cj 0=O (if J5 l≠0 then .inl (J5 l)else if Jb R l≠0 then .inl (Jb R l)else if Jc l≠0 then .inl (Jc l)else if IP l≠0 then .inl (IP l)else .inr ()):=by
  have z:cj=18446744073709551611+1+1+1+1+1:=rfl;rw[z,bh];have g:=e 0 V1;have p:=e 1 V1;have q:=e 2 V1;have u:=e 3 V1;rw[show Rz R l 0=J5 l from rfl]at g;rw[show Rz R l 1=Jb R l from rfl]at p;rw[show Rz R l 2=Jc l from rfl]at q;rw[show Rz R l 3=IP l from rfl]at u;have g:i8 R l 0=_:=g;rw[g,zG];split
  .rfl
  simp only[be];rw[bh,p,zG];split
  .rfl
  simp only[be];rw[bh,q,zG];split
  .rfl
  simp only[be];rw[bh,u,zG];split
  .rfl
  rfl
 rw[o,zG];split
 .rfl
 split
 .rfl
 split
 .rfl
 split
 .rfl
 rename_i h;rw[show IP l=0 by omega];rfl
def bi4 (k:Int): ∃x,gF k=O (Zc<|1<=k/\k<=6,x):=by
 have h: ∀b c:Bool×Bool×Bool,∀p q:Bool,p=q->∃x,(O (p,b):Option<|Bool×Bool×Bool×Bool)=O (q,x):=λb _ p q e=>⟨b,by rw[e]⟩
 unfold gF;simp only[ah]
 repeat' split
 all_goals (simp only[zG,gM,ci,ah])
 all_goals (repeat' split)
 all_goals (refine h _ (Za,Za,Za) _ _ ?_;symm;first|exact zB V1|exact zA V1)
section
variable {l:List bx} {R:Int} {f:Fo}
theorem Wr (g:Prg R l f)(V:l.length<=1500): ∃m S,jj l=O (0,m)/\MOK l m/\xe l=O (0,S)/\Y4 l m S:=by
 have hl:=g.ops.len;have J:bt l 0=O 0:=by rw[<-g.src];exact Fo.scan0 g.ok
 rcases GU (l:=l) V1 with⟨_,m,Q,H⟩|⟨h,_⟩
 .obtain⟨r,hr,r1,r2,E⟩:=Ku (l:=l) V1 g.ops.v;have X:=g.w;rcases E with⟨E,_⟩|⟨_,_,r4,r5,Z⟩
  .rw[X]at E;exact(E rfl).elim
  refine⟨m,r.2.2.1,Q,H, ?_,bc2 H r4 (λo D=>g.ops.v o D) Z⟩;unfold xe;rw[Aj V g.ops.v,X];simp only[zG];rw[zA V2,zD,Q];simp only[zG]
  have key:=bz (f:=qO l (0,m)) (n:=l.length) (λi=>r.2.2.1.take i) (c:=r.2.2.1) V1
   (λi hi=>by
    obtain⟨a,b,C,h2,N⟩:=Z i hi
    have K:(if l[i].1=7 then(mg l m (i:Int))else O (if l[i].1=0 then 0 else 1))=O a:=by
     by_cases p:l[i].1=7
     .rw[zE p];obtain⟨q,e,A,b',w,mi,q1,q2,q3,q4,q5,q6,q7,q8,q9,L⟩:=Eu V g.ops.v H J hi p;obtain⟨F,h5⟩:=(N hi).1 p q e A q1 q2 q3;obtain⟨e1,e2⟩:=L _ F;rw[q6,e1]
      have I:0<=b:=by
       obtain⟨M,w1,w2⟩: ∃M,I0 b=M/\0<=M:=⟨w,e2.symm,q9⟩
       unfold I0 at w1;split at w1<;>omega
      rw[(JO I (g.ops.v _ (cN hi)).1 h5).1]
     rw[zF p];obtain⟨_,F⟩:=(N hi).2 p;rw[F]
    have hk0:0<=l[i].1/\l[i].1<=7:=by
     have: ∀(l:List bx) (d:Nat),bt l d≠Y->∀o∈l,0<=o.1/\o.1<=7:=by
      intro l;induction l with
      |nil=>intro d _ o D;cases D
      |cons x l ih=>
       intro d hd o D;simp only[bt]at hd
       grind
     exact this l 0 (by rw[J];simp) _ (cN hi)
    unfold qO;simp only[ah];rw[Zg,bq hi];simp only[zG]
    have z:(if l[i].1=7 then((mg l m (i:Int)).bind λr7=>O r7)else((gF l[i].1).bind λr9=>cond r9.1 (O (1:Int)) (O 0)))=O a:=by
     by_cases p:l[i].1=7
     .rw[zE p]at K⊢;rw[K];rfl
     rw[zF p]at K⊢;obtain⟨x,hx⟩:=bi4 l[i].1
     grind
    rw[z];simp only[zG];rw[au (by rw[List.length_take];omega) V1,Zi]
    have:r.2.2.1.take (i+1)=r.2.2.1.take i++[a]:=by
     have u:i<r.2.2.1.length:=by omega
     rw[List.getElem?_eq_getElem u]at C;injection C with C
     rw[List.take_succ_eq_append_getElem u,C]
    grind)
   (by
    unfold qO
    rw[Ze,zD,List.take_of_length_le V1])
  grind
 exact(h J).elim
theorem TO {m S:Zd}{out:List bx}(D:ft l<=1500)(E:ft out<=1500){x:bx}(u:l[i]?=O x)(h:x.1≠7∨∃n,S[i]?=O n/\n≠0):
  jQ l (0,m) (0,S) ((i:Int),out)=O (.inl (((i+1:Nat):Int),out++[x])):=by
 have⟨hi,e⟩:=List.getElem?_eq_some_iff.1 u;unfold jQ;simp only[ah];rw[Zg,bq hi,e,zG]
 have q:(if x.1=7 then(gn (ix (i:Int)<|ft S) λv=>gn (S[v]?) λA=>if A=0 then(gn (ix (i:Int)<|ft m) λz=>gn (m[z]?) λo=>O<|.inl o)else O<|.inr (i:Int))else O<|.inr (i:Int))=O (Sum.inr (i:Int):Int⊕Int):=by
  by_cases g:x.1=7
  .rcases h with h|⟨n,p,C⟩
   .exact(h g).elim
   rw[zE g,bl (List.getElem?_eq_some_iff.1 p).1]
   grind
  .rw[zF g]
 rw[q];simp only[zG,ci];rw[bq hi,e,zG,au V1 V1,Zi];rfl
def aW1 {m S:Zd}{out:List bx}(v:l.length<=1500){x:bx}(q:l[i]?=O x)(p:x.1=7)(o:S[i]?=O 0)(g:m[i]?=O (j:Int))(u:j<=2000):
  jQ l (0,m) (0,S) ((i:Int),out)=O (.inl (((j+1:Nat):Int),out)):=by
 obtain⟨hi,e⟩:=List.getElem?_eq_some_iff.1 q;unfold jQ;simp only[ah];rw[Zg,bq hi,e];simp only[zG];rw[zE p,bl (List.getElem?_eq_some_iff.1 o).1];simp only[zG];rw[o];simp only[zG];rw[zE trivial,bl (List.getElem?_eq_some_iff.1 g).1];simp only[zG];rw[g];simp only[zG,gM];rw[Zi];rfl
theorem Pp {m S:Zd}(p:ft l<=1500)(v:Y4 l m S): ∀(f:Fo) (A B:List bx) (out:List bx),l=A++f.src++B->f.Ok->ft out<=ft A->
  ∃k,k<=f.len/\Reach (jQ l (0,m) (0,S)) k ((ft A:Int),out) (((ft A+f.len:Nat):Int),out++f.bare.src)
 | .nil,A,B,out,g,_,_=>by
  refine⟨0,aD _, ?_⟩;simp only[Fo.bare,Fo.src,Fo.len,cD,cK];exact Reach.refl
 | .op o r,A,B,out,g,C,ho=>by
  have F:ft (A++[o])=ft A+1:=by simp
  have J:ft l=ft A+(r.len+1)+ft B:=by rw[g];simp[Fo.src,Fo.src_len];omega
  have D:l[ft A]?=O o:=by rw[g,bB,bD<|aD _,cB];rfl
  have⟨k,M,E⟩:=Pp p v r (A++[o]) B (out++[o]) ZI C.2 V3;refine⟨1+k,by simp only[Fo.len];omega, ?_⟩;have z:=(Reach.one<|TO (m:=m) (S:=S) (out:=out) p V1 D<|.inl (by have:=C.1;omega)).trans (show Reach _ k _ _ from by rw[F]at E;exact E);simp only[Fo.bare,Fo.src,Fo.len]
  grind
 | .rep o b e r,A,B,out,g,C,ho=>by
  have⟨⟨M,E⟩,Q,V⟩:=C;have J:ft l=ft A+(b.len+r.len+2)+ft B:=by rw[g];simp[Fo.src,Fo.src_len];omega
  have D:l[ft A]?=O o:=by rw[g,bB,bD<|aD _,cB];rfl
  have⟨hm,I⟩:=v.2.2 A (r.src++B) o e b ZI Q M E;have u:ft (A++o::(b.src++[e]))=ft A+1+b.len+1:=by simp[Fo.src_len];omega
  simp only[Fo.bare,Fo.len];by_cases L:b.n*rj o=0
  .rw[zE L];rw[L]at I;have⟨k,Z,q⟩:=Pp p v r (A++o::(b.src++[e])) B out ZI V V1;refine⟨1+k,V1, ?_⟩;have z:=(Reach.one<|aW1 (out:=out) p D M I hm V1).trans (show Reach _ k _ _ from by rw[u]at q;exact q)
   grind
  .rw[zF L];have F:ft (A++[o])=ft A+1:=by simp
   have H:ft (A++o::b.src)=ft A+1+b.len:=by simp[Fo.src_len];omega
   have K:l[ft A+1+b.len]?=O e:=by
    rw[show l=(A++o::b.src)++(e::(r.src++B))by rw[g];simp[Fo.src],<-H,bD<|aD _,cB];rfl
   have⟨kb,b1,N⟩:=Pp p v b (A++[o]) (e::(r.src++B)) (out++[o]) ZI Q V3;rw[F]at N;have hbl:=b.bare_len;have⟨k,Z,q⟩:=Pp p v r (A++o::(b.src++[e])) B (out++[o]++b.bare.src++[e]) ZI V (by simp[Fo.src_len];omega);rw[u]at q;refine⟨1+kb+1+k,V1, ?_⟩;have z:=(((Reach.one<|TO (m:=m) (out:=out) p V1 D<|.inr ⟨_,I,V1⟩).trans N).trans<|Reach.one<|TO (m:=m) (S:=S) p (by simp[Fo.src_len];omega) K<|.inl V1).trans q;rw[show ft A+(b.len+r.len+2)=ft A+1+b.len+1+r.len by omega];have X:out++[o]++b.bare.src++[e]++r.bare.src=out++(Fo.rep o b.bare e r.bare).src:=by simp[Fo.src]
   rw[X]at z;exact z
theorem YA (e:Prg R l f)(o:ft l<=1500):zP l=O f.bare.src:=by
 have⟨m,S,p,z,q,u⟩:=Wr e o;have A:=o;unfold zP;rw[p,q,zG];have⟨k,C,v⟩:=Pp V1 u f [] [] [] (by simp[e.src]) e.ok V2;have g:f.len=ft l:=by rw[<-Fo.src_len,e.src]
 have:=wN (c:=f.bare.src) v V1 (by
  simp only[jQ];rw[zA (by rw[g];simp),zD]
  rfl)
 grind
end
section
variable {l:List bx} {m:Zd}
def MOf (l:List bx)(m:Zd):Prop:= ∀(A B:List bx) (o e:bx) (b:Fo),l=A++o::(b.src++e::B)->b.Ok->o.1=7->e.1=0->m[ft A]?=O ((ft A+1+b.len:Nat):Int)
theorem mOf (D:MOK l m):MOf l m:=λA B o e b q v E C=>by
 have u:ft l=ft A+1+(b.len+(ft B+1)):=by rw[q];simp[Fo.src_len];omega
 have p:ft A<ft l:=by omega
 have g:l[ft A]=o:=by
  grind
 have z:l.drop (ft A+1)=b.src++e::B:=by rw[q,List.drop_append,List.drop_of_length_le V1,show ft A+1-ft A=1 by omega];rfl
 have:=D.at' (ft A) p (by rw[g];exact E) b.src e B z C<|Fo.scan0 v;rw[Fo.src_len]at this;exact this
def aS7 {K:List bx->Zd->Int->Int->Option (List bx×Int)}{st:Nat}{a3:Int}{out:List bx}(u:l.length<=1500)(v:out.length<=1000000)(p:st<=1000000000000){x:bx}(q:l[i]?=O x)(o:x.1≠7)(g:(i:Int)<a3):
  iQ K l m a3 ((i:Int),(st:Int),out)=O (.inl (((i+1:Nat):Int),((st+1:Nat):Int),out++[x])):=by
 obtain⟨hi,e⟩:=List.getElem?_eq_some_iff.1 q;unfold iQ;simp only[ah];rw[zE g,bq hi,e];simp only[zG];rw[zE o,au V1 V1,Zi,Zi];rfl
def VG {u:List bx}{nb:Nat}{s:Int×Int×List bx}(v:s.1=(i:Int)){x:bx}(E:l[i]?=O x)(z:UC x)(st:Nat)(out:List bx)(C:st+rj x*(nb+1)<=1000000000000)(I:ft out+rj x*ft u<=1000000)(D:rj x<=100000):
  am (oI l s (u,(nb:Int))) cj (0,(st:Int),out)=O (((st+rj x*(nb+1):Nat):Int),out++(aB (rj x) u).flatten):=by
 have⟨hi,o⟩:=List.getElem?_eq_some_iff.1 E;unfold UC at z;have g:x.2.2.2.2=((rj x:Nat):Int):=(Int.toNat_of_nonneg z.1).symm
 have p:=bz (f:=oI l s (u,(nb:Int))) (n:=rj x) (λk=>(((st+k*(nb+1):Nat):Int),out++(aB k u).flatten)) (c:=(((st+rj x*(nb+1):Nat):Int),out++(aB (rj x) u).flatten)) V1
  (λk q=>by
   have F:k*(nb+1)+(nb+1)<=rj x*(nb+1):=by
    rw[<-cM];exact cP _ q
   have H:k*ft u+ft u<=rj x*ft u:=by
    rw[<-cM];exact cP _ q
   unfold oI;simp only;rw[v,bq hi,o];simp only[zG,ah];rw[zE (by rw[g];omega)];have e:ft (out++(aB k u).flatten)=ft out+k*ft u:=by simp
   rw[e]
   have A:dh (ft out+k*ft u+ft u) 40=Za:=by
    unfold dh;rw[Zf];rfl
   rw[show∀y:Option<|(Int×Int×List bx)⊕(Int×List bx),gd (dh (ft out+k*ft u+ft u) 40) y=y from λy=>by rw[A];rfl,bd3 ⟨V1,V1⟩,ad (n:=((st+k*(nb+1):Nat):Int)+nb) V1,Zi,show(k:Int)+1=((k+1:Nat):Int)by omega,show((st+k*(nb+1):Nat):Int)+nb+1=((st+(k+1)*(nb+1):Nat):Int)by rw[cM];omega,bB]
   rw[show(aB (k+1) u).flatten=(aB k u).flatten++u by
    rw[List.replicate_succ',List.flatten_append];simp])
  (by
   unfold oI;simp only;rw[v,bq hi,o];simp only[zG,ah]
   rw[zF (by rw[g];omega)])
 simp only[Nat.zero_mul,cK,List.replicate_zero,List.flatten_nil,cD]at p;exact p
def kW : ∀g:Fo,ft g.unroll=g.n
 | .nil=>rfl
 | .op o r=>by simp only[Fo.unroll,Fo.n,List.length_cons,kW r];omega
 | .rep o b e r=>by simp[Fo.unroll,Fo.n,kW r,kW b,cL]
theorem J3 (M:l.length<=1500)(I:MOf l m): ∀(g:Fo) (z:Nat) (A B:List bx) (st:Nat) (out:List bx) (a3:Int),l=A++g.src++B->g.Ok->g.Pos->(∀o∈g.src,UC o)->g.hi<=z->out.length+g.n<=100000->st+g.steps<=1000000000000->((A.length+g.len:Nat):Int)<=a3->
  ∃k,k<=g.len/\Reach (iQ (gE z) l m a3) k ((A.length:Int),(st:Int),out) (((A.length+g.len:Nat):Int),((st+g.steps:Nat):Int),out++g.unroll)
 | .nil,z,A,B,st,out,a3,q,_,_,_,_,_,_,_=>by
  refine⟨0,aD _, ?_⟩;simp only[Fo.unroll,Fo.steps,Fo.len,cD,cK];exact Reach.refl
 | .op o r,z,A,B,st,out,a3,q,L,hp,H,J,hn,C,Q=>by
  simp only[Fo.n,Fo.steps,Fo.len,Fo.hi]at hn C Q J;have D:(A++[o]).length=A.length+1:=by simp
  have X:l.length=A.length+(r.len+1)+B.length:=by rw[q];simp[Fo.src,Fo.src_len];omega
  have v:l[A.length]?=O o:=by rw[q,bB,bD (aD _),cB];rfl
  obtain⟨k,k1,N⟩:=J3 M I r z (A++[o]) B (st+1) (out++[o]) a3 ZT L.2 hp (λx v=>H x (by simp[Fo.src,v])) J V3 V1 (by rw[D];omega);refine⟨1+k,by simp only[Fo.len];omega, ?_⟩;have h1:=(Reach.one (aS7 (m:=m) (K:=gE z) (a3:=a3) (out:=out) (st:=st) M V1 V1 v (by have:=L.1;omega) V1)).trans (show Reach _ k _ _ from by rw[D]at N;exact N);simp only[Fo.unroll,Fo.steps,Fo.len]
  grind
 | .rep o b e r,z,A,B,st,out,a3,q,L,hp,H,J,hn,C,Q=>by
  obtain⟨⟨k1,N⟩,k3,k4⟩:=L;obtain⟨p1,p2,p3⟩:=hp;simp only[Fo.n,Fo.steps,Fo.len,Fo.hi]at hn C Q J;have X:l.length=A.length+(b.len+r.len+2)+B.length:=by rw[q];simp[Fo.src,Fo.src_len];omega
  have v:l[A.length]?=O o:=by rw[q,bB,bD (aD _),cB];rfl
  have hm:=I A (r.src++B) o e b ZT k3 k1 N;have D:(A++[o]).length=A.length+1:=by simp
  have E:(A++o::(b.src++[e])).length=A.length+1+b.len+1:=by simp[Fo.src_len];omega
  obtain⟨g,rfl⟩: ∃g,z=g+1:=⟨z-1,V1⟩
  have p:0<rj o/\0<b.n:=by
   grind
  have hbn:b.n<=b.n*rj o:=Nat.le_mul_of_pos_right _ p.1;have hvn:rj o<=b.n*rj o:=cO _ p.2;have hbs:b.steps+1<=rj o*(b.steps+1):=cO _ p.1;obtain⟨kb,b1,b2⟩:=J3 M I b g (A++[o]) (e::(r.src++B)) 0 [] (((A.length+1+b.len:Nat):Int)) ZT k3 p2 (λx v=>H x (by simp[Fo.src,v])) V1 V3 V1 (by rw[D];omega);rw[D]at b2
  have V:gE (g+1) l m ((A.length+1:Nat):Int) ((A.length+1+b.len:Nat):Int)=O (b.unroll,(b.steps:Int)):=by
   show tR (gE g) l m _ _=_;unfold tR
   have:=wN (c:=((b.steps:Int),b.unroll)) b2 V1 (by
    simp only[iQ];rw[Ze,zD]
    simp)
   grind
  have F:iQ (gE (g+1)) l m a3 ((A.length:Int),(st:Int),out)=O (.inl (((A.length+1+b.len+1:Nat):Int),((st+1+rj o*(b.steps+1):Nat):Int),out++(aB (rj o) b.unroll).flatten)):=by
   obtain⟨hi,hx'⟩:=List.getElem?_eq_some_iff.1 v;unfold iQ;simp only[ah];rw[Zg,bq hi,hx'];simp only[zG];rw[Zh]
   have Z:rd m ((A.length:Nat):Int)=O ((A.length+1+b.len:Nat):Int):=by
    obtain⟨q1,q2⟩:=List.getElem?_eq_some_iff.1 hm;rw[bq q1,q2]
   rw[Z];simp only[zG];rw[Zi,show(A.length:Int)+1=((A.length+1:Nat):Int)by omega,V];simp only[zG];rw[Zi,show(st:Int)+1=((st+1:Nat):Int)by omega];rw[VG (i:=A.length) (nb:=b.steps) (u:=b.unroll) (by rfl) v (H o ZQ) (st+1) out V1 (by rw[kW,cL];omega) V1];simp only[zG];rw[Zi];rfl
  obtain⟨k,g1,g2⟩:=J3 M I r (g+1) (A++o::(b.src++[e])) B (st+1+rj o*(b.steps+1)) (out++(aB (rj o) b.unroll).flatten) a3 ZT k4 p3 (λx v=>H x (by simp[Fo.src,v])) V1 (by
    have:((aB (rj o) b.unroll).flatten).length=rj o*b.n:=by simp[kW]
    rw[List.length_append,this,cL];omega) V1 (by rw[E];omega)
  rw[E]at g2;refine⟨1+k,by simp only[Fo.len];omega, ?_⟩;have h1:=(Reach.one F).trans g2;simp only[Fo.unroll,Fo.steps,Fo.len]
  grind
end
section
variable {l:List bx} {R:Int} {f:Fo}
def TV (e:Prg R l f)(u:l.length<=1500):uq R l=O (f.unroll,0):=by
 unfold uq;rw[QQ e.ops u];simp only[zG];rw[e.z,zA V2,zD,YA e u];simp only[zG];have p:f.len<=1500:=by rw[<-Fo.src_len,e.src];exact u
 have A:f.bare.src.length<=1500:=by rw[Fo.src_len];exact Nat.le_trans f.bare_len p
 have g:=f.bare_ok e.ok;rcases GU (l:=f.bare.src) V1 with⟨_,m,D,C⟩|⟨h,_⟩
 .rw[D];simp only[zG];have H:f.bare.n<=65536:=by rw[f.bare_n];exact e.n
  have q:f.bare.hi<=3999:=Nat.le_trans f.bare_hi (by have:=e.deep;omega);obtain⟨k,I,F⟩:=J3 V1 (mOf C) f.bare 3999 [] [] 0 [] ((f.bare.src.length:Nat):Int) V2 g f.bare_pos (λo E=>e.ops.v o (by rw[<-e.src];exact f.bare_mem E)) q V3 (by have:=e.steps;omega) (by rw[Fo.src_len];simp);unfold DJ;show((tR (gE 3999) _ _ _ _).bind _)=_;unfold tR
  have:=wN (c:=(((f.bare.steps:Nat):Int),f.bare.unroll)) F (by have:=f.bare_len;have:=e.len;omega) (by
   simp only[iQ];rw[zA (by rw[Fo.src_len];simp),zD]
   simp)
  rw[show((0:Int),(0:Int),([]:List bx))=(((([]:List bx).length:Nat):Int),((0:Nat):Int),([]:List bx))from rfl,this];simp only[zG];rw[f.bare_unroll]
 exact(h (Fo.scan0 g)).elim
end
end
section
open List renaming append_assoc->aB
def ce (r:Zd):Prop:= ∀x∈r,yL x
def w0 :yL 0:=by unfold yL;omega
def Kq (h:ce r)(k:Int):yL<|rg r k:=by
 unfold rg;rw[List.getD_eq_getElem?_getD];by_cases e:fu k<ft r
 .rw[List.getElem?_eq_getElem e];exact h _ (List.getElem_mem e)
 rw[List.getElem?_eq_none V1];exact w0
def ce.set (h:ce r){v:Int}(e:yL v)(k:Nat):ce<|r.set k v:=λx g=>by
 rcases List.mem_or_eq_of_mem_set g with h1|h1
 .exact h x h1
 .rw[h1];exact e
def ce.app {s:Zd}(h:ce r)(k:ce s):ce<|r++s:=λx e=>(cI.1 e).elim (h x)<|k x
def ce.rep (n:Nat):ce<|List.replicate n 0:=λx e=>by rw[(List.mem_replicate.1 e).2];exact w0
def ce.fill {R:Int}(h:ce r):ce<|fill R r:=h.app<|ce.rep _
def ce.drop (h:ce r)(n:Nat):ce<|r.drop n:=λx e=>h x<|List.mem_of_mem_drop e
def ce.take (h:ce r)(n:Nat):ce<|r.take n:=λx e=>h x<|List.mem_of_mem_take e
def bb4 {o:bx}(e:UC o)(g:yL x)(p:yL y):yL<|app o x y:=by
 unfold Go.V.app;unfold UC at e
 repeat' split
 all_goals first|exact LV _|exact g|exact w0|(unfold yL;omega)
def La {f:Int×Zd->Option ((Int×Zd)⊕Zd)}(o:ft r<=1000000)(s:Zd)(p:ft s<=1000000)
  (g: ∀s,f s=cond (Zc<|s.1<((ft r:Nat):Int)) (gn (rd r s.1) λx=>gd (dh (ft s.2+1) 8)<|O<|.inl (IntKind.i64.wrap<|s.1+1,s.2++[x])) (O<|.inr s.2)):
  am f cj (0,s)=O (s++r):=by
 have e:=bz (f:=f) (n:=ft r) (λi=>s++r.take i) (c:=s++r) V1
  (λi hi=>by
   rw[g,zB ZF,zC,bq hi,zG,au (by rw[List.length_append,List.length_take];omega) V1,Zi,List.take_succ_eq_append_getElem hi,aB]
   rfl)
  (by rw[g,zA V2,zD,List.take_length])
 rw[List.take_zero,List.append_nil]at e;exact e
def TW {a b c:Zd}(e:ft a<=100000)(g:ft b<=100000)(o:ft c<=100000):ur a b c=O (a++(b++c)):=by
 unfold ur;rw[La (r:=a) (f:=fF a) V1 [] V2 (λs=>rfl),zG,La (r:=b) (f:=fF b) V1 _ V3 (λs=>rfl),zG,La (r:=c) (f:=fF c) V1 _ V3<|λs=>rfl];simp only[zG,List.nil_append,aB]
def bv6 (n:Nat)(l:List bx):Prop:= ∀o∈l,VC n o/\UC o
def OW (l:List bx): ∀s:FS,ft (pG M6 l s).1=ft s.1:=by
 induction l with
 |nil=>intro s;rfl
 |cons o l e=>intro s;show(ft (pG M6 l<|M6 o s).1)=_;rw[e];unfold M6;simp
def aA2 (l:List bx): ∀s:FS,ce s.1->(∀o∈l,UC o)->ce (pG M6 l s).1:=by
 induction l with
 |nil=>intro s h _;exact h
 |cons o l p=>
  intro s h e;exact p (M6 o s) (h.set (bb4 (e o V2) (Kq h _)<|Kq h _) _)<|λx g=>e x (by simp[g])
section
variable {l:List bx} {R:Int} {f:Fo}
def wS : ∀(g:Fo),g.Ok->∀o∈g.unroll,o∈g.src/\0<o.1/\o.1<7
 | .nil,_,o,ho=>by cases ho
 | .op x r,h,o,ho=>by
  rcases bf.1 ho with rfl|ho
  .exact⟨ZQ,h.1⟩
  .obtain⟨p,q⟩:=wS r h.2 o ho;exact⟨by simp[Fo.src,p],q⟩
 | .rep x b e r,h,o,ho=>by
  simp only[Fo.unroll]at ho;rcases cI.1 ho with ho|ho
  .obtain⟨u,v,ho⟩:=List.mem_flatten.1 ho;rw[(List.mem_replicate.1 v).2]at ho;have⟨p,q⟩:=wS b h.2.1 o ho;exact⟨by simp[Fo.src,p],q⟩
  .obtain⟨p,q⟩:=wS r h.2.2 o ho;exact⟨by simp[Fo.src,p],q⟩
def Prg.goodU (h:Prg R l f):bv6 (fu R) f.unroll:=λo p=>by
 have⟨e,g⟩:=wS f h.ok o p;rw[h.src]at e;exact⟨h.regs o e g,h.ops.v o e⟩
def Prg.ulen (h:Prg R l f):ft f.unroll=f.n/\f.n<=65536:=⟨kW f,h.n⟩
def OX (l:List bx): ∀s:TS,ft (pG iB l s).1=ft s.1/\ft (pG iB l s).2.1=ft s.2.1/\(pG iB l s).2.2=s.2.2+ft l:=by
 induction l with
 |nil=>intro s;exact⟨rfl,rfl,rfl⟩
 |cons o l q=>
  intro s;have⟨e,g,p⟩:=q<|iB o s;exact⟨e.trans (by unfold iB;simp),g.trans (by unfold iB;simp),p.trans (by unfold iB;simp;omega)⟩
def bl1 (l:List bx): ∀s:TS,ce s.1->ce s.2.1->(∀o∈l,UC o)->ce (pG iB l s).1/\ce (pG iB l s).2.1:=by
 induction l with
 |nil=>intro s h k _;exact⟨h,k⟩
 |cons o l p=>
  intro s h k e;exact p (iB o s) (h.set (bb4 (e o V2) (Kq h _)<|Kq h _) _) (k.set (Kq h _) _)<|λx g=>e x (by simp[g])
end
end
section
open List renaming replicate->aB
def aH5 {a:Zd}(h:k<ft a):a.set k (rg a (k:Int))=a:=by
 have:=ia h;rw[List.getElem?_eq_getElem h]at this;injection this with this
 rw[<-this];exact List.set_getElem_self h
def bo4 {o:bx}{a:Zd}{t:Int}(g:ce r)(e:ce a)(p:yL t):ce (FN o r a t).1/\ce (FN o r a t).2:=by
 unfold FN;exact⟨g.set p _,((e.set w0 _).set (LV _) _).set (LV _) _⟩
section
variable {l:List bx} {R:Int} {f:Fo}
def aO0 (C:ce t)(l:List bx): ∀s:BS,ce s.1->ce s.2.1->ft (Fc (ri t) l s).1=ft s.1/\ft (Fc (ri t) l s).2.1=ft s.2.1/\(Fc (ri t) l s).2.2=s.2.2-ft l/\ce (Fc (ri t) l s).1/\ce (Fc (ri t) l s).2.1:=by
 induction l with
 |nil=>intro s h k;exact⟨rfl,rfl,rfl,h,k⟩
 |cons o l A=>
  intro s h k;have⟨p,q,u,v,z⟩:=A s h k;have e:=Kg o (Fc (ri t) l s).1 (Fc (ri t) l s).2.1<|rg t (((Fc (ri t) l s).2.2-1:Nat):Int);have g:=bo4 (o:=o) v z<|Kq C (((Fc (ri t) l s).2.2-1:Nat):Int);refine⟨e.1.trans p,e.2.trans q, ?_,g.1,g.2⟩;show(Fc (ri t) l s).2.2-1=_;rw[u,List.length_cons];omega
def IU (h:Prg R l f)(v:ce r)(z:ce t):ce (tO f r t).1/\ce (tO f r t).2.1/\ft (tO f r t).1=ft r/\ft (tO f r t).2.1=ft t:=by
 have⟨e,g⟩:=bl1 f.unroll (r,t,0) v z<|λo u=>(h.goodU o u).2;have⟨p,q,_⟩:=OX f.unroll (r,t,0);exact⟨e,g,p,q⟩
def Wk (R:Int)(f:Fo)(r w:Zd):Zd:=(jM f (tO f (fill R r)<|aB f.n 0).1 (fill R w) (tO f (fill R r)<|aB f.n 0).2.1).2.1
def Ms (h:Prg R l f)(F:ft r<=fu R)(q:ft w<=fu R)(u:ce r)(v:ce w):ft (Wk R f r w)=fu R/\ce (Wk R f r w):=by
 have⟨o,p,D,E⟩:=IU h (r:=fill R r) (t:=aB f.n 0) u.fill<|ce.rep _;have⟨z,e,A,C,g⟩:=aO0 p f.unroll ((tO f (fill R r)<|aB f.n 0).1,fill R w,f.n) o v.fill;exact⟨e.trans<|fA q,g⟩
def PE (h:Prg R l f)(g:ce r):ft (EU f r)=ft r/\ce (EU f r):=⟨OW _ _,aA2 _ _ g λo e=>(h.goodU o e).2⟩
def bl0 (l:List bx): ∀(r t:Zd) (k n:Nat),(pG iB l (r,t,k)).1=(pG M6 l (r,n)).1:=by
 induction l with
 |nil=>intro r t k n;rfl
 |cons o l e=>intro r t k n;exact e _ _ _ _
def RN (f:Fo)(r t:Zd):(tO f r t).1=EU f r:=bl0 _ _ _ _ _
end
end
section
open List renaming length_take->aD
open Nat renaming le_refl->aB,lt_or_gt_of_ne->bB
def ce.put (h:ce W)(k:ce w)(o:Nat):ce<|put W o w:=(h.take o).app<|k.app<|h.drop _
def ce.seg (h:ce W)(o n:Nat):ce<|seg W o n:=(h.drop o).take n
def Xy (x:Nat)(g a:Zd):ce<|vq x g a:=λv e=>by
 unfold vq at e;obtain⟨i,_,rfl⟩:=List.mem_map.1 e;exact LV _
section
variable {c:Cx}
structure Has (c:Cx)(W st ax at':Zd):Prop where
 wd:Wd c W
 w:ce W
 t:seg W 0 (ft c.T)=c.T
 s:seg W (c.off 1) (ft c.X)=st
 x:seg W (c.off 5) (ft c.X)=ax
 a:seg W (c.off 6) (ft c.T)=at'
def R0 (h:c.Ok)(e:Wd c W)(hi:i<9)(g:ft w<=c.sz i):c.off i+ft w<=ft W:=by
 have:=e.in' h hi;omega
def Has.put (h:c.Ok)(H:Has c W st ax at')(hi:i<9)(A:ft w<=c.sz i)(C:ce w)(o:i≠0)(p:i≠1)(q:i≠5)(u:i≠6):Has c (put W (c.off i) w) st ax at':=by
 have z:=R0 h H.wd hi A
 have e: ∀j n,j≠i->n<=c.sz j->j<9->seg (Go.V.put W (c.off i) w) (c.off j) n=seg W (c.off j) n:=λj n v E D=>by
  refine oG z ?_;rcases bB v with g|hgt
  .exact .inl (by have:=gH (c:=c) g;omega)
  exact .inr (by have:=gH (c:=c) hgt;omega)
 refine⟨H.wd.put h (by have:=gH (c:=c) (show i<9 from hi);omega),H.w.put C _, ?_, ?_, ?_, ?_⟩
 .have:=e 0 (ft c.T) (Ne.symm o) (aB _) V1;exact this.trans H.t
 .exact(e 1 (ft c.X) (Ne.symm p) (aB _) V1).trans H.s
 .exact(e 5 (ft c.X) (Ne.symm q) (aB _) V1).trans H.x
 exact(e 6 (ft c.T) (Ne.symm u) (aB _) V1).trans H.a
def Bx (h:c.Ok)(o:Wd c W){n:Nat}(e:j≠i)(hi:i<9)(q:j<9)(u:n<=c.sz j)(p:ft w<=c.sz i):seg (put W (c.off i) w) (c.off j) n=seg W (c.off j) n:=by
 refine oG (R0 h o hi p) ?_;rcases bB e with g|hgt
 .exact .inl (by have:=gH (c:=c) g;omega)
 exact .inr (by have:=gH (c:=c) hgt;omega)
def Has.put1 (h:c.Ok)(H:Has c W st ax at')(g:ft w=ft c.X)(o:ce w):Has c (Go.V.put W (c.off 1) w) w ax at':=by
 have e:ft w<=c.sz 1:=Nat.le_of_eq g;refine⟨H.wd.put h (by have:=gH (c:=c) (show 1<9 by omega);omega),H.w.put o _,(Bx h H.wd (i:=1) (j:=0) V1 V1 V1 (aB _) e).trans H.t, ?_,(Bx h H.wd (i:=1) (j:=5) V1 V1 V1 (aB _) e).trans H.x,(Bx h H.wd (i:=1) (j:=6) V1 V1 V1 (aB _) e).trans H.a⟩;rw[<-g];exact vH<|R0 h H.wd V1 e
def Has.back (h:c.Ok){a:Zd}(H:Has c W st ax at')(N:ft c.X+ft c.T<=ft a)(z:ft a<=max (fu c.R) (fu c.Q))(F:ce a):Has c (Bf c W a) st (a.take<|ft c.X)<|vq (ft c.X) at' a:=by
 have H4:=H.put h (i:=4) V1 (w:=a) z F V1 V1 V1 V1;unfold Bf;generalize Go.V.put W (c.off 4) a=W1 at*;have E:ft (a.take<|ft c.X)<=c.sz 5:=by rw[aD];exact Nat.min_le_left _ _
 have M:ft (a.take<|ft c.X)=ft c.X:=by rw[aD];omega
 have u:=H4.wd.put h (o:=c.off 5) (w:=a.take<|ft c.X) (by have:=gH (c:=c) (show 5<9 by omega);omega);have p:=λj (A:j≠5) (v:j<9)=>Bx h H4.wd (i:=5) (j:=j) A V1 v (aB _) E
 have K:seg (Go.V.put W1 (c.off 5)<|a.take<|ft c.X) (c.off 5) (ft c.X)=a.take (ft c.X):=by
  have:=vH<|R0 h H4.wd (i:=5) V1 E;rw[M]at this;exact this
 have L:=(p 6 V1 V1).trans H4.a;have I:=(p 0 V1 V1).trans H4.t;have J:=(p 1 V1 V1).trans H4.s;have a5:ce<|Go.V.put W1 (c.off 5)<|a.take<|ft c.X:=H4.w.put (F.take _) _;generalize Go.V.put W1 (c.off 5) (a.take<|ft c.X)=W2 at*;have e:seg W2 (c.off 6) (ft c.T)=at':=L;rw[e];have C:ft at'=ft c.T:=by rw[<-e];exact ew (u.in' h (i:=6) V1)
 have D:ft (vq (ft c.X) at' a)=ft c.T:=by rw[qz,C]
 have g:ft (vq (ft c.X) at' a)<=c.sz 6:=Nat.le_of_eq D;have q:=λj (A:j≠6) (v:j<9)=>Bx h u (i:=6) (j:=j) A V1 v (aB _) g
 refine⟨u.put h (by have:=gH (c:=c) (show 6<9 by omega);omega),a5.put (Xy _ _ _) _,(q 0 V1 V1).trans I,(q 1 V1 V1).trans J,(q 5 V1 V1).trans K, ?_⟩;have:=vH<|R0 h u (i:=6) V1 g;rw[D]at this;exact this
def wH (c:Cx)(t:Int)(x:Zd):Zd:=x++(c.T++[IntKind.u64.wrap t])
def BA (c:Cx)(t:Int)(x:Zd):Zd:=(EU c.fl<|fill c.R<|wH c t x).take<|ft c.X
def lossV (c:Cx)(x:Zd):Int:=rg (EU c.fk<|fill c.Q<|x++(c.T++[])) 0
def ru (c:Cx)(t:Int)(x e:Zd):Zd:=Wk c.R c.fl (wH c t x) e
def yl (c:Cx)(x:Zd):Zd:=Wk c.Q c.fk (x++(c.T++[])) [1]
def Cx.Ok.lens (h:c.Ok):((ft c.X:Int)+ft c.T+1<=c.R/\(ft c.X:Int)+ft c.T<=c.Q)/\(1<=c.R/\c.R<=64)/\(1<=c.Q/\c.Q<=64)/\1<=ft c.X/\ft c.X<=64/\ft c.T<=64:=by
 have n:=h.num;have e:=HB h.hc;exact⟨Re (by have:=n.x;omega) (by have:=n.t;omega) e.2,n.R,n.Q,n.x.1,n.x.2,n.t⟩
def vw (t:Int){x:Zd}(e:ft x=ft c.X):ft (wH c t x)=ft c.X+ft c.T+1:=by unfold wH;simp[e];omega
def Oi {t:Int}{x:Zd}(g:ce x)(wT:ce c.T):ce<|wH c t x:=g.app (wT.app λv e=>by rw[dy.1 e];exact LV _)
variable (h:c.Ok) (wT:ce c.T)
include h wT
theorem Ci {t:Int}{x:Zd}(o:ft x=ft c.X)(p:ce x):ft (BA c t x)=ft c.X/\ce (BA c t x):=by
 have⟨⟨v,z⟩,u,q,C,D,A⟩:=h.lens;have⟨e,g⟩:=PE h.pl (r:=fill c.R<|wH c t x) (Oi p wT).fill;rw[fA (by rw[vw t o];omega)]at e;unfold BA;exact⟨by rw[aD,e];omega,g.take _⟩
theorem Cc {t:Int}{x e:Zd}(g:ft x=ft c.X)(p:ce x)(v:ft e=ft c.X)(o:ce e):ft (ru c t x e)=fu c.R/\ce (ru c t x e):=by
 have⟨⟨z,A⟩,u,q,D,E,C⟩:=h.lens;exact Ms h.pl (by rw[vw t g];omega) V1 (Oi p wT) o
theorem bx1 :ce [1]:=λv e=>by rw[dy.1 e];unfold yL;omega
theorem GQ {x:Zd}(g:ft x=ft c.X)(o:ce x):ft (yl c x)=fu c.Q/\ce (yl c x):=by
 have⟨⟨u,z⟩,q,p,C,D,A⟩:=h.lens;exact Ms h.pk (by simp[g];omega) V3 (o.app (wT.app λv e=>by cases e))<|bx1 h wT
end
end
section
open Nat renaming le_of_eq->aB
section
variable {c:Cx} (h:c.Ok) (wT:ce c.T) {W st ax at':Zd}
def jy (c:Cx)(t:Int)(x:Zd):TS:=tO c.fl (fill c.R<|wH c t x)<|zeros c.fl.n
include h wT
theorem Has.lens (H:Has c W st ax at'):ft st=ft c.X/\ft ax=ft c.X/\(ft at')=ft c.T/\ce st/\ce ax/\ce at':=by
 refine⟨?_, ?_, ?_, ?_, ?_, ?_⟩
 .rw[<-H.s];exact ew (H.wd.in' h (i:=1) V1)
 .rw[<-H.x];exact ew (H.wd.in' h (i:=5) V1)
 .rw[<-H.a];exact ew (H.wd.in' h (i:=6) V1)
 .rw[<-H.s];exact H.w.seg _ _
 .rw[<-H.x];exact H.w.seg _ _
 rw[<-H.a];exact H.w.seg _ _
theorem BC {t:Int}{x:Zd}(q:ft x=ft c.X)(u:ce x):ce (jy c t x).1/\ce (jy c t x).2.1/\ft (jy c t x).1=fu c.R/\ft (jy c t x).2.1=c.fl.n/\(jy c t x).1.take (ft c.X)=BA c t x:=by
 have⟨⟨A,C⟩,z,v,E,F,D⟩:=h.lens;have⟨e,g,o,p⟩:=IU h.pl (r:=fill c.R<|wH c t x) (t:=zeros c.fl.n) (Oi u wT).fill<|ce.rep _;refine⟨e,g,o.trans<|fA (by rw[vw t q];omega),p.trans<|cb _, ?_⟩;unfold jy BA;rw[RN]
omit wT in
theorem Has.stepR (H:Has c W st ax at')(p:Int):stepR c W p=jy c p st:=by
 unfold Go.V.stepR jy wH;rw[H.s,H.t]
omit wT in
theorem Has.lossR (H:Has c W st ax at')(x:Zd):lossR c W x=tO c.fk (fill c.Q<|x++(c.T++[])) (zeros c.fk.n):=by
 unfold Go.V.lossR;rw[H.t]
theorem Has.lossV (H:Has c W st ax at')(x:Zd):rg (Go.V.lossR c W x).1 0=lossV c x:=by
 rw[H.lossR h,RN];rfl
theorem Has.taped (H:Has c W st ax at')(p:Int):Has c (Go.V.put W (c.off 2) (Go.V.stepR c W p).1) st ax at':=by
 have⟨o,A,C,q,D,E⟩:=H.lens h wT;have⟨e,u,g,v,z⟩:=BC h wT (t:=p) o q;rw[H.stepR h];exact H.put h (i:=2) V1 (aB g) e V1 V1 V1 V1
theorem Has.endd (H:Has c W st ax at'){x:Zd}(o:ft x=ft c.X)(p:ce x):Has c (Lg c W x) st ((yl c x).take<|ft c.X)<|vq (ft c.X) at'<|yl c x:=by
 have⟨⟨J,K⟩,F,E,N,V,M⟩:=h.lens;have I:ft (x++(c.T++[]))=ft c.X+ft c.T:=by simp[o]
 have A:ce<|x++(c.T++[]):=p.app (wT.app λv u=>by cases u);have⟨q,C,g,D⟩:=IU h.pk (r:=fill c.Q<|x++(c.T++[])) (t:=zeros c.fk.n) A.fill<|ce.rep _;rw[fA V1]at g;have⟨L,z⟩:=GQ h wT o p;unfold Lg;rw[H.lossR h];have H3:=H.put h (i:=3) V1 (aB g) q V1 V1 V1 V1;have e:(jM c.fk (tO c.fk (fill c.Q<|x++(c.T++[]))<|zeros c.fk.n).1 (fill c.Q [1]) (tO c.fk (fill c.Q<|x++(c.T++[]))<|zeros c.fk.n).2.1).2.1=yl c x:=rfl;rw[e];exact H3.back h V1 V1 z
theorem Has.turn (H:Has c W st ax at'){p:Int}{x:Zd}(g:ft x=ft c.X)(v:ce x):Has c (PU c W (jy c p x).1 (jy c p x).2.1) st ((ru c p x ax).take<|ft c.X)<|vq (ft c.X) at'<|ru c p x ax:=by
 have⟨⟨I,J⟩,A,z,M,N,L⟩:=h.lens;have⟨C,o,D,E,q,F⟩:=H.lens h wT;have⟨K,u⟩:=Cc h wT (t:=p) g v o q;unfold PU;rw[H.x];have e:(jM c.fl (jy c p x).1 (fill c.R ax) (jy c p x).2.1).2.1=ru c p x ax:=rfl;rw[e];exact H.back h V1 V1 u
theorem Has.adv1 (H:Has c W st ax at')(p:Int):Has c (Go.V.adv1 c W p) (BA c p st) ax at':=by
 have⟨⟨J,K⟩,C,A,M,N,L⟩:=h.lens;have⟨o,D,E,q,F,I⟩:=H.lens h wT
 have e:Mx c W p=EU c.fl (fill c.R<|wH c p st):=by
  unfold Mx wH;rw[H.s,H.t]
 have⟨g,u⟩:=PE h.pl (r:=fill c.R<|wH c p st) (Oi q wT).fill;rw[fA (by rw[vw p o];omega)]at g;have⟨v,z⟩:=Ci h wT (t:=p) o q;unfold Go.V.adv1;rw[e];exact(H.put h (i:=2) V1 (aB g) u V1 V1 V1 V1).put1 h v z
def I4 (c:Cx)(t:Int)(x:Zd):Nat->Zd
 |0=>x
 |i+1=>BA c (t+(i:Int))<|I4 c t x i
theorem Has.advW (H:Has c W st ax at')(p:Int): ∀i,Has c (Go.V.advW c W p i) (I4 c p st i) ax at'
 |0=>H
 |i+1=>(Has.advW H p i).adv1 h wT _
theorem EX {t:Int}{x:Zd}(e:ft x=ft c.X)(g:ce x): ∀i,ft (I4 c t x i)=ft c.X/\ce (I4 c t x i)
 |0=>⟨e,g⟩
 |i+1=>Ci h wT (EX e g i).1 (EX e g i).2
theorem Has.rev (H:Has c W st ax at')(p:Int):Has c (aq2 c W p) st ((ru c p st ax).take<|ft c.X)<|vq (ft c.X) at'<|ru c p st ax:=by
 have⟨e,o,q,g,u,v⟩:=H.lens h wT;unfold aq2;have:=(H.taped h wT p).turn h wT (p:=p) e g;rw[H.stepR h]at this⊢;exact this
theorem Has.both (H:Has c W st ax at')(p:Int):Has c (Q6 c W p) st ((ru c p st<|(yl c<|BA c p st).take<|ft c.X).take<|ft c.X)<|vq (ft c.X) (vq (ft c.X) at'<|yl c<|BA c p st)<|ru c p st<|(yl c<|BA c p st).take<|ft c.X:=by
 have⟨e,D,E,g,F,I⟩:=H.lens h wT;have⟨v,z,A,C,o⟩:=BC h wT (t:=p) e g;have⟨q,u⟩:=Ci h wT (t:=p) e g;unfold Q6;have H2:=H.taped h wT p;rw[H.stepR h]at H2⊢;rw[o];exact(H2.endd h wT q u).turn h wT (p:=p) e g
end
end
section
open Nat renaming le_refl->aB,mul_add->aD,eq_zero_or_pos->bB
def ch :Nat->Nat->Nat
 |_,0=>1
 |0,_+1=>0
 |n+1,k+1=>ch n k+ch n (k+1)
def H5 (n:Nat):ch n 0=1:=by cases n<;>rfl
def Ey (n k:Nat):ch (n+1) (k+1)=ch n k+ch n (k+1):=rfl
def Tk : ∀n k,ch (n+1) (k+1)*(k+1)=ch n k*(n+1)
 |0,0=>rfl
 |0,k+1=>by rw[Ey];simp[ch]
 |n+1,0=>by
  have h:=Tk n 0;rw[H5]at h;rw[Ey (n+1) 0,H5];omega
 |n+1,k+1=>by
  have e:=Tk n k;have g:=Tk n<|k+1;rw[Ey (n+1)<|k+1,Nat.add_mul,g,show k+1+1=(k+1)+1 from rfl,aD<|ch (n+1)<|k+1,e,Nat.mul_one,Ey n k,aD (ch n k+ch n (k+1)) (n+1) 1,Nat.add_mul];omega
def IH : ∀{n k:Nat},k<=n->1<=ch n k
 |n,0,_=>by rw[H5];exact aB _
 |n+1,k+1,h=>by rw[Ey];have:=IH (n:=n) (k:=k) V1;omega
def Ex : ∀{n k:Nat},n<k->ch n k=0
 |0,k+1,_=>rfl
 |n+1,k+1,h=>by rw[Ey,Ex V1,Ex V1]
def Ng (n:Nat):ch n n=1:=by
 induction n with
 |zero=>rfl
 |succ n e=>rw[Ey,e,Ex V1]
def Ae : ∀s a b,a+b=s->ch s a=ch s b
 |0,a,b,h=>by rw[show a=0 by omega,show b=0 by omega]
 |s+1,0,b,h=>by rw[show b=s+1 by omega,H5,Ng]
 |s+1,a+1,0,h=>by rw[show a=s by omega,H5,Ng]
 |s+1,a+1,b+1,h=>by
  rw[Ey,Ey,Ae s a (b+1) V1,Ae s (a+1) b V1];omega
def bb8 (d i:Nat):ch (d+i) i<=ch (d+(i+1)) (i+1):=by
 rw[show d+(i+1)=(d+i)+1 by omega,Ey];omega
def Oz (d:Nat)(h:i<=j):ch (d+i) i<=ch (d+j) j:=by
 induction j with
 |zero=>rw[show i=0 by omega];exact aB _
 |succ j e=>
  by_cases hi:i=j+1
  .rw[hi];exact aB _
  exact Nat.le_trans (e V1)<|bb8 d j
def Hm {s:Nat}(e:1<=s): ∀l,l+1<=ch (s+l) l
 |0=>by rw[H5];exact aB _
 |l+1=>by
  rw[show s+(l+1)=(s+l)+1 by omega,Ey];have:=Hm e l;have:=IH (n:=s+l) (k:=l+1) V1;omega
def ax3 (r:Nat):ch (1+r) r=r+1:=by
 induction r with
 |zero=>rfl
 |succ r e=>rw[show 1+(r+1)=(1+r)+1 by omega,Ey,e,Nat.add_comm 1 r,Ng]
def lm :Nat:=1099511627776
def QD (n k:Int):Int:=if n<0∨k<0∨n<k then 0 else((min lm (ch (fu n)<|fu k):Nat):Int)
def aa7 (hi:1<=i):ch (d+(i-1)) (i-1)*(d+i) / i=ch (d+i) i:=by
 have:=Tk (d+(i-1))<|i-1;rw[show i-1+1=i by omega,show d+(i-1)+1=d+i by omega]at this;rw[<-this];exact Nat.mul_div_cancel _ V1
def al6 (c m i:Nat):c*(m / i)+c*(m % i) / i=c*m / i:=by
 rcases bB i with rfl|h
 .simp
 conv=>rhs;rw[<-Nat.div_add_mod m i,aD,Nat.mul_left_comm,Nat.mul_add_div h]
structure IsRep (l s r:Nat):Prop where
 up:l<=ch (s+r) r
 low: ∀x,x<r->ch (s+x) x<l
def IsRep.eq {l s r e:Nat}(h:IsRep l s r)(g:IsRep l s e):r=e:=by
 rcases Nat.lt_trichotomy r e with k|k|k
 .have:=g.low _ k;have:=h.up;omega
 .exact k
 have:=h.low _ k;have:=g.up;omega
def IsRep.le {l s r:Nat}(h:IsRep l s r)(e:1<=s):r<=l:=by
 rcases Nat.lt_or_ge l r with k|k
 .have:=h.low _ k;have:=Hm e l;omega
 exact k
def aW2 (l:Nat):IsRep l 1<|l-1:=⟨by rw[ax3];omega,λx e=>by rw[ax3];omega⟩
def bo5 {l s r:Nat}(h:l<=ch (s+r) r)(h':r=0∨ch (s+(r-1)) (r-1)<l):IsRep l s r:=
 ⟨h,λx e=>by
  rcases h' with h'|h'
  .omega
  .exact Nat.lt_of_le_of_lt (Oz s (show x<=r-1 by omega)) h'⟩
def spI (n c r:Int):Int:=max 1<|max (QD (c+r-2) c)<|n-QD (c+r-1) (c-1)
def Ew {n:Nat}(h:k<=n):QD (n:Int) (k:Int)=((min lm (ch n k):Nat):Int):=by
 unfold QD;rw[Zh];rfl
def ax2 (n k:Int):0<=QD n k/\QD n k<=1099511627776:=by
 unfold QD lm;split<;>omega
def bp3 {n r:Nat}(D:2<=n)(C:1<=c)(p:IsRep n c r)(A:n<=65536):1<=spI n c r/\spI n c r<=n-1/\(c=1->spI n c r=n-1):=by
 have E:1<=r:=by
  rcases bB r with h|h
  .have:=p.up;rw[h,H5]at this;omega
  exact h
 have o:=p.low (r-1) V1
 have a1:QD ((c:Int)+r-2) c<=(n:Int)-1:=by
  unfold QD;split
  .omega
  rename_i h;rw[show(fu<|(c:Int)+r-2)=c+r-2 by omega,Int.toNat_natCast];have v:ch (c+(r-1)) (r-1)=ch (c+(r-1)) c:=Ae _ _ _ V1
  have z:ch (c+r-2) c<=ch (c+(r-1)) c:=by
   obtain⟨e,rfl⟩: ∃e,c=e+1:=⟨c-1,V1⟩
   rw[show e+1+(r-1)=(e+1+r-2)+1 by omega,Ey];omega
  omega
 have u:1<=QD ((c:Int)+r-1) (c-1):=by
  rw[show(c:Int)+r-1=((c+r-1:Nat):Int)by omega,show(c:Int)-1=((c-1:Nat):Int)by omega,Ew V1];have:=IH (n:=c+r-1) (k:=c-1) V1;unfold lm;omega
 unfold spI;refine⟨V1,V1,λg=> ?_⟩;subst g
 have q:QD (((1:Nat):Int)+r-1) (((1:Nat):Int)-1)=1:=by
  rw[show((1:Nat):Int)+r-1=((r:Nat):Int)by omega,show((1:Nat):Int)-1=((0:Nat):Int)by omega,Ew V1,H5];rfl
 rw[q];omega
end
section
structure Mc where
 L:Int
 p:Int
 q:Int
 t:Zd
def mac (a:Int×Int)(m:Mc):Option Mc:=
 if a.1=1 then(if 1<=a.2/\a.2<=65535/\m.p+a.2<=m.L then O {m with p:=m.p+a.2}else Y)
 else if a.1=2 then(if 0<=a.2/\a.2<ft m.t/\m.t.getD (fu a.2) 0<0 then O {m with t:=m.t.set (fu a.2) m.p}else Y)
 else if a.1=3 then(if 0<=a.2/\a.2<ft m.t/\0<=m.t.getD (fu a.2) 0 then O {m with p:=m.t.getD (fu a.2) 0}else Y)
 else if a.1=4 then(if 0<=a.2/\a.2<ft m.t/\0<=m.t.getD (fu a.2) 0 then O {m with t:=m.t.set (fu a.2)<|-1}else Y)
 else if a.1=5 then(if a.2=0/\m.q= -1/\m.p=m.L then O {m with q:=m.p}else Y)
 else if a.1=6 then(if a.2=0/\m.q= -1/\m.p=m.L-1 then O {m with q:=m.p}else Y)
 else if a.1=7 then(if a.2=0/\0<m.q/\m.p=m.q-1 then O {m with q:=m.p}else Y)
 else Y
inductive Run (nx:Mc->Option (Int×Int)):Mc->List (Int×Int)->Mc->Prop
 |nil (m:Mc):Run nx m [] m
 |cons {m m' m'':Mc} {a:Int×Int} {l:List<|Int×Int}:nx m=O a->mac a m=O m'->Run nx m' l m''->Run nx m (a::l) m''
def Run.append {g:Mc->Option (Int×Int)}{m m' e:Mc}{l l':List<|Int×Int}(h:Run g m l m')(o:Run g m' l' e):Run g m (l++l') e:=by
 induction h with
 |nil=>exact o
 |cons a b _ p=>exact .cons a b<|p o
def Run.one {e:Mc->Option (Int×Int)}{m m':Mc}{a:Int×Int}(g:e m=O a)(o:mac a m=O m'):Run e m [a] m':= .cons g o<|.nil _
def nI (t:Zd):Int:=t.foldl max<|-1
def yq (t:Zd)(x:Int):Nat:=t.findIdx λy=>Zc<|y=x
def Fg (t:Zd):Nat:=t.countP λy=>Zc<|y<0
def P1 (t:Zd):Nat:=t.findIdx λy=>Zc<|y<0
def yR (l s:Nat):Nat:=((List.range<|l+1).find? λr=>Zc<|l<=ch (s+r) r).getD 0
theorem Ko (l:Nat){s:Nat}(g:1<=s):IsRep l s<|yR l s:=by
 unfold yR;cases h:(List.range<|l+1).find? λr=>Zc (l<=ch (s+r) r)with
 |none=>
  have:=List.find?_eq_none.1 h l (cJ.2 V1);have:=Hm g l
  grind
 |some r=>
  have⟨e,o⟩:=List.find?_range_eq_some.1 h;refine⟨of_decide_eq_true e,λx p=> ?_⟩
  grind
def Dt (m:Mc):Option<|Int×Int:=
 let e:=if m.q<0 then m.L else m.q
 if 0<=m.q/\e<=nI m.t then O (4,yq m.t<|nI m.t)
 else if m.q=0 then Y
 else if m.q<0/\m.p=m.L then O (5,0)
 else if m.p=e-1 then(if 0<=m.q then O (7,0)else O (6,0))
 else if nI m.t<0 then(if e<=m.p then Y else O (2,0))
 else if m.p<nI m.t∨e<=m.p then O (3,yq m.t<|nI m.t)
 else if nI m.t<m.p/\0<Fg m.t then O (2,P1 m.t)
 else if nI m.t<m.p then O (1,e-1-m.p)
 else O (1,spI (e-nI m.t) (Fg m.t+1)<|yR (fu<|e-nI m.t)<|Fg m.t+1)
theorem wJ (t:Zd): ∀x,x<=t.foldl max x/\(∀y∈t,y<=t.foldl max x)/\(t.foldl max x=x∨t.foldl max x∈t):=by
 induction t with
 |nil=>exact λx=>⟨Int.le_refl _,λy hy=>by(cases hy), .inl rfl⟩
 |cons z t g=>
  intro x;have⟨o,e,p⟩:=g<|max x z;rw[List.foldl_cons];refine⟨V1,λy hy=> ?_, ?_⟩
  .rcases bf.1 hy with rfl|hy
   .omega
   exact e y hy
  grind
theorem LP (o: -1<=x)(e: ∀y∈t,y<=x)(g:x= -1∨x∈t):nI t=x:=by
 have⟨a,b,c⟩:=wJ t<|-1;unfold nI
 grind
theorem bq1 (g:0<=x)(e: ∀y∈t,y<x):nI t<x:=by
 have⟨a,b,c⟩:=wJ t<|-1;unfold nI
 grind
def J8 (h:y∈t.set k a):y∈t∨y=a:=List.mem_or_eq_of_mem_set h
def aY5 (o:0<=a)(e:k<ft t)(h: ∀y∈t,y<a):nI (t.set k a)=a:=
 LP V1 (λy g=>by rcases J8 g with k|k;exact Int.le_of_lt<|h y k;omega) (.inr<|List.mem_set e a)
theorem aX7 (e:k<ft t)(h: ∀y∈t,y<a):yq (t.set k a) a=k:=by
 unfold yq;rw[List.findIdx_eq (by rw[List.length_set];exact e)];refine⟨V2,λj g=> ?_⟩;have:=h t[j] (List.getElem_mem _)
 grind
def aJ2 (h:0<Fg t): ∃e:P1 t<ft t,t[P1 t]<0:=by
 unfold Fg at h;have⟨y,o,g⟩:=List.countP_pos_iff.1 h;have e:P1 t<ft t:=List.findIdx_lt_length_of_exists ⟨y,o,g⟩;refine⟨e,of_decide_eq_true<|List.findIdx_getElem (w:=e)⟩
theorem aR1 (e:0<=a)(g:k<ft t)(h:t[k]<0):Fg (t.set k a)+1=Fg t:=by
 unfold Fg
 grind
end
section
open Int renaming toNat_natCast->aB,reduceEq->aD
open List renaming getElem_mem->bB
def RW (n c:Nat):Nat:=fu<|spI n c<|yR n c
def PO {n:Nat}(o:2<=n)(e:1<=c)(g:n<=65536):1<=RW n c/\RW n c+1<=n/\(c=1->RW n c+1=n)/\((RW n c:Nat):Int)=spI n c (yR n c):=by
 have⟨p,q,u⟩:=bp3 o e (Ko n e) g;unfold RW;omega
def hld (t:Zd):List Bool:=t.map λy=>Zc<|0<=y
def pt :Nat->Bool->Nat->Nat->Nat->List Bool->Bool->List (Int×Int)
 |0,_,_,_,_,_,_=>[]
 |f+1,Zb,n,c,_,h,e=>if n=1 then [(if e then 6 else 7,0)]else(2,((h.findIdx λb=> !b:Nat):Int))::pt f Za n c (h.findIdx λb=> !b) (h.set (h.findIdx λb=> !b) Za) e
 |f+1,Za,n,c,k,h,e=>if n<=1 then [(7,0),(4,(k:Int))]else(1,(RW n c:Int))::(pt f Zb (n-RW n c) (c-1) 0 h e++(3,(k:Int))::pt f Za (RW n c) c k h Zb)
theorem aS3 (t:Zd):((hld t).findIdx λb=> !b)=P1 t:=by
 unfold hld P1;rw[List.findIdx_map]
 congr 1
 grind
def aS2 (t:Zd)(k:Nat)(e:0<=a):hld (t.set k a)=(hld t).set k Za:=by
 unfold hld;rw[List.map_set,zB e]
theorem VB (e:k<ft t):(t.set k a).getD k 0=a:=by
 grind
structure At30 (L q a:Int)(n:Nat)(last:Bool):Prop where
 fa:0<=a
 fn:1<=n/\n<=65535
 fe:(if q<0 then L else q)=a+n
 fl:last=Za->q= -1
 fm:last=Zb->0<=q
 fL:a+n<=L
theorem aH0 : ∀(f:Nat),(∀(n c k:Nat) (t:Zd) (e:Bool) (L q a:Int),2*n<=f->At30 L q a n e->(∀y∈t,y<a)->(∀y∈t,-1<=y)->Fg t=c->(2<=n->1<=c)->Run Dt ⟨L,a,q,t⟩ (pt f Zb n c k (hld t) e) ⟨L,a,a,t⟩)/\
  (∀(n c k:Nat) (t:Zd) (e:Bool) (L q a:Int),2*n<=f+1->At30 L q a n e->(n=1->e=Zb)->(∀y∈t,y<a)->(∀y∈t,-1<=y)->(v:k<ft t)->t[k]<0->Fg t=c->Run Dt ⟨L,a,q,t.set k a⟩ (pt f Za n c k (hld<|t.set k a) e) ⟨L,a,a,t⟩)
 |0=>⟨λn c k t e L q a z J=>by have:=J.fn;omega,λn c k t e L q a z J=>by have:=J.fn;omega⟩
 |f+1=>by
  have⟨ihp,H⟩:=aH0 f;refine⟨λn c k t e L q a hf K g u M N=> ?_,λn c k t e L q a hf K X g u v F M=> ?_⟩
  .obtain⟨A,hn,p,I,D,hL⟩:=K;have o:=bq1 (t:=t) A g;unfold pt;by_cases z:n=1
   .rw[zE z];cases e with
    |true=>
     have hq:=I rfl;rw[Zg]at p;rw[zE rfl];refine .one (m':=⟨L,a,a,t⟩) ?_ ?_
     .unfold Dt
      grind
     .unfold mac
      grind
    |false=>
     have hq:=D rfl;rw[Zh]at p;rw[zF V5];refine .one (m':=⟨L,a,a,t⟩) ?_ ?_
     .unfold Dt
      grind
     .unfold mac
      grind
   .rw[zF z,aS3,<-aS2 t _ A];have V:0<Fg t:=by have:=N V1;omega
    have⟨hv,hv0⟩:=aJ2 V;refine .cons (m':=⟨L,a,q,t.set (P1 t) a⟩) ?_ ?_ (H n c (P1 t) t e L q a V1 ⟨A,hn,p,I,D,hL⟩ (λh=>absurd h z) g u hv hv0 M)
    .unfold Dt;simp only;rw[p,Zh,zF ZU,zF ZU,Zh];by_cases ht:nI t<0
     .rw[zE ht,Zh]
      have:P1 t=0:=by
       unfold P1;rw[List.findIdx_eq V1];refine⟨zB ?_,λj hj=>by omega⟩;have:=(wJ t<|-1).2.1 _<|bB (show 0<(ft t) by omega);unfold nI at ht;omega
      rw[this];rfl
     grind
    .unfold mac;simp only[aD,true_and,if_false,if_true,aB]
     grind
  .obtain⟨A,hn,p,I,D,hL⟩:=K;have o:=aY5 A v g;have E:=aX7 v g;have hfre:=aR1 A v F;have hsl:k<ft (t.set k a):=by rw[List.length_set];exact v
   have C:(t.set k a).set k (-1)=t:=by
    have Z:t[k]= -1:=by have:=u _<|bB v;omega
    rw[List.set_set,<-Z,List.set_getElem_self]
   unfold pt;by_cases z:n<=1
   .have hn1:n=1:=by omega
    have hq:=D<|X hn1;rw[Zh]at p;rw[zE z];refine .cons (m':=⟨L,a,a,t.set k a⟩) ?_ ?_ (.one (m':=⟨L,a,a,t⟩) ?_ ?_)
    .unfold Dt;simp only[o]
     grind
    .unfold mac
     grind
    .unfold Dt
     grind
    .unfold mac;simp only[aD,true_and,if_false,if_true,aB,VB v,C]
     grind
   .rw[zF z];have⟨m1,m2,m3,m4⟩:=PO (n:=n) (c:=c) V1 V1 V1;generalize hm':RW n c=m at*;refine .cons (m':=⟨L,a+m,q,t.set k a⟩) ?_ ?_ (.append (m':=⟨L,a+m,a+m,t.set k a⟩) (ihp (n-m) (c-1) 0 (t.set k a) e L q (a+m) V1 ⟨V1,V1,V1,I,D,V1⟩ (λy hy=>(J8 hy).elim (λh=>by have:=g y h;omega) λh=>by omega) (λy hy=>(J8 hy).elim (λh=>u y h) λh=>by omega) V1<|λh=> ?_)<|.cons (m':=⟨L,a,a+m,t.set k a⟩) ?_ ?_ (H m c k t Zb L (a+m) a V1 ⟨A,V1,by rw[Zh],(λh=>by cases h),λ_=>by omega,V1⟩ (λ_=>rfl) g u v F M))
    .unfold Dt;simp only[o];rw[p,Zh,zF ZU,zF ZU,Zh,Zh,Zh,Zh,Zh,show a+(n:Int)-a=(n:Int)by omega,aB,show((Fg (t.set k a):Nat):Int)+1=(c:Int)by omega,show Fg (t.set k a)+1=c by omega,m4]
    .unfold mac
     grind
    .by_cases Q:c=1
     .have:=m3 Q;omega
     .omega
    .unfold Dt;simp only[o,E];rw[zF (show¬a+(m:Int)<0 by omega),Zh,Zh,Zh,Zh,Zh,Zg]
    .unfold mac;simp only[aD,true_and,if_false,if_true,aB,VB v]
     grind
end
section
open Int renaming toNat_natCast->bB
open List renaming getElem?_eq_getElem->bD,getElem?_eq_none->cB,map_congr_left->cD
open Nat renaming mul_div_cancel->aB,pow_succ->aD,mul_le_mul_left->cK,one_lt_two_pow->cL,pow_le_pow_right->cM
structure IsStr (k s d:Nat):Prop where
 pw: ∃e,d=2 ^ e
 gt:k<s*d
 lo:d=1∨s*(d / 2)<=k
def IsStr.pos {s:Nat}(h:IsStr k s d):1<=d:=by
 obtain⟨e,rfl⟩:=h.pw;exact Nat.one_le_two_pow
theorem IsStr.eq {s o:Nat}(h:IsStr k s d)(p:IsStr k s o):d=o:=by
 have z: ∀{d o:Nat},IsStr k s d->IsStr k s o->¬d<o:=λ{d o} h p q=>by
  obtain⟨e,rfl⟩:=h.pw;obtain⟨g,rfl⟩:=p.pw;have E:e<g:=(Nat.pow_lt_pow_iff_right V1).1 q;have u:2 ^ e<=2 ^ (g-1):=cM V1 V1
  have v:2 ^ g / 2=2 ^ (g-1):=by
   conv=>lhs;rw[show g=(g-1)+1 by omega,aD]
   exact aB _ V1
  have A:=h.gt;have C:s*2 ^ e<=s*2 ^ (g-1):=cK _ u;have D:1<2 ^ g:=cL V1;rcases p.lo with h6|h6
  .omega
  rw[v]at h6;omega
 grind
def pX (k s:Nat):Nat:=2 ^ (((List.range 17).find? λe=>Zc<|k<s*2 ^ e).getD 0)
theorem lY {s:Nat}(u:k<65536)(v:1<=s):IsStr k s<|pX k s:=by
 unfold pX;cases h:(List.range 17).find? λe=>Zc (k<s*2 ^ e)with
 |none=>
  have:=List.find?_eq_none.1 h 16 (cJ.2 V1)
  grind
 |some e=>
  have⟨g,o⟩:=List.find?_range_eq_some.1 h;have g:=of_decide_eq_true g;refine⟨⟨e,rfl⟩,g, ?_⟩;rcases Nat.eq_zero_or_pos e with he|he
  .left;subst he;rfl
  right;have p:=o.2 (e-1) V1;simp only[Bool.not_eq_true',decide_eq_false_iff_not]at p;show s*(2 ^ e / 2)<=k
  have q:2 ^ e / 2=2 ^ (e-1):=by
   conv=>lhs;rw[show e=(e-1)+1 by omega,aD]
   exact aB _ V1
  rw[q];omega
def IsStr.next {s o:Nat}(h:IsStr k s d)(p:IsStr (k+1) s o):d ∣ o:=by
 obtain⟨e,rfl⟩:=h.pw;obtain⟨g,rfl⟩:=p.pw;refine Nat.pow_dvd_pow 2 ?_;rcases Nat.lt_or_ge g e with v|hge
 .exfalso;have q:2 ^ g<=2 ^ (e-1):=cM V1 V1
  have u:2 ^ e / 2=2 ^ (e-1):=by
   conv=>lhs;rw[show e=(e-1)+1 by omega,aD]
   exact aB _ V1
  have A:1<2 ^ e:=cL V1;have z:s*2 ^ g<=s*2 ^ (e-1):=cK _ q;have C:=p.gt;rcases h.lo with h7|h7
  .omega
  rw[u]at h7;omega
 exact hge
def aU2 (d:Nat)(t:Zd):Zd:=t.filter λx=>Zc<|0<=x/\x % (d:Int)≠0
def Yh (d:Nat)(t:Zd):Option Int:=(aU2 d t).min?
def rO (e:Bool)(m:Mc):Option<|Int×Int:=
 let d:=pX (fu m.L) (ft m.t)
 if m.q<0 then
  (if m.p<m.L then O (1,m.L-m.p)
  else match Yh d m.t with
   |some x=>O (4,yq m.t x)
   |none=>if m.L % (d:Int)=0/\m.L∉m.t/\(-1:Int)∈m.t then O (2,yq m.t<|-1)else if e then O (5,0)else Y)
 else if 0<=nI m.t/\m.q<=nI m.t then O (4,yq m.t<|nI m.t)
 else if m.q=0 then Y
 else if m.p=m.q-1 then O (7,0)
 else if 0<=nI m.t/\(m.p<nI m.t∨m.q<=m.p)then O (3,yq m.t<|nI m.t)
 else if m.p<m.q then O (1,m.q-1-m.p)
 else Y
structure Gd (k:Nat)(t:Zd)(d:Nat):Prop where
 ins: ∀x∈t,x= -1∨(0<=x/\x<k/\x % (d:Int)=0)
 all: ∀j:Nat,j<k->j % d=0->(j:Int)∈t
 one: ∀i j (hi:i<ft t) (hj:j<ft t),t[i]=t[j]->0<=t[i]->i=j
def G0 (h:x∈t): ∃e:yq t x<ft t,t[yq t x]=x:=by
 have e:yq t x<ft t:=List.findIdx_lt_length_of_exists ⟨x,h,zB rfl⟩;exact⟨e,of_decide_eq_true<|List.findIdx_getElem (w:=e)⟩
def frd (d n:Nat)(t:Zd):Zd:=t.map λx=>if 0<=x/\x<(n:Int)/\x % (d:Int)≠0 then-1 else x
def I9 (d:Nat):Nat->Zd->List (Int×Int)×Zd
 |0,t=>([],t)
 |n+1,t=>if n % d≠0/\(n:Int)∈(I9 d n t).2 then((I9 d n t).1++[(4,(yq (I9 d n t).2 n:Int))],(I9 d n t).2.set (yq (I9 d n t).2 n)<|-1)else I9 d n t
def bv0 (t:Zd):frd d 0 t=t:=by
 unfold frd
 conv=>rhs;rw[<-List.map_id t]
 refine cD λx e=> ?_
 rw[Zh];rfl
theorem JW {n:Nat}(hi:i<ft t):(frd d n t)[i]?=O (if 0<=t[i]/\t[i]<(n:Int)/\t[i] % (d:Int)≠0 then-1 else t[i]):=by
 unfold frd
 grind
def sW {n:Nat}:ft (frd d n t)=ft t:=by unfold frd;rw[List.length_map]
theorem ab7 {n:Nat}(e:0<=x):x∈frd d n t↔x∈t/\¬(x<(n:Int)/\x % (d:Int)≠0):=by
 unfold frd
 grind
theorem Vv {n:Nat}(z: ∀i j (hi:i<ft t) (A:j<ft t),t[i]=t[j]->0<=t[i]->i=j)(C:n % d≠0)(u:(n:Int)∈frd d n t):(frd d n t).set (yq (frd d n t) n) (-1)=frd d (n+1) t:=by
 have⟨p,e⟩:=G0 u;generalize yq (frd d n t) n=k at*;have q:k<ft t:=by rw[sW]at p;exact p
 have o:=JW (d:=d) (n:=n) q;rw[bD p,e]at o;injection o with o
 have v:t[k]=(n:Int):=by
  omega
 apply List.ext_getElem?;intro i;by_cases hi:i<ft t
 .rw[JW hi,List.getElem?_set];by_cases g:k=i
  .subst g
   grind
  rw[zF g,JW hi]
  grind
 rw[cB (by rw[List.length_set,sW];omega),cB (by rw[sW];omega)]
theorem az7 {n:Nat}(h: ¬(n % d≠0/\(n:Int)∈frd d n t)):frd d n t=frd d (n+1) t:=by
 unfold frd at*;refine cD λx e=> ?_
 grind
theorem VX :x∈aU2 d t↔x∈t/\0<=x/\x % (d:Int)≠0:=by
 unfold aU2
 grind
def VW (h:x∈t)(e:0<=x/\x % (d:Int)≠0)(g: ∀y∈t,0<=y->y % (d:Int)≠0->x<=y):Yh d t=O x:=by
 unfold Yh;rw[List.min?_eq_some_iff];exact⟨VX.2 ⟨h,e⟩,λy o=>by have:=VX.1 o;exact g y this.1 this.2.1 this.2.2⟩
theorem Pl (h: ∀y∈t,0<=y->y % (d:Int)=0):Yh d t=Y:=by
 unfold Yh
 have:aU2 d t=[]:=List.filter_eq_nil_iff.2 λx e=>by
  grind
 rw[this];rfl
def YI {k d s:Nat}{t:Zd}{en:Bool}(u:d=pX k s)(v:ft t=s)(p: ∀i j (hi:i<ft t) (D:j<ft t),t[i]=t[j]->0<=t[i]->i=j): ∀n,(I9 d n t).2=frd d n t/\Run (rO en) ⟨k,k,-1,t⟩ (I9 d n t).1 ⟨k,k,-1,frd d n t⟩
 |0=>by rw[bv0];exact⟨rfl, .nil _⟩
 |n+1=>by
  have⟨g,o⟩:=YI (en:=en) u v p n;unfold I9;rw[g];by_cases h:n % d≠0/\(n:Int)∈frd d n t
  .rw[zE h,Vv p h.1 h.2];refine⟨rfl,o.append<|.one ?_ ?_⟩
   .unfold rO;simp only;rw[Zg,Zh,sW,v,bB,<-u,VW h.2 V1 λy A z C=>by have:=(ab7 z).1 A;omega]
   .obtain⟨q,e⟩:=G0 h.2;unfold mac;simp only[Int.reduceEq,if_false,if_true,bB];rw[List.getD_eq_getElem?_getD,bD q,e];simp only[Option.getD_some];rw[Zg,Vv p h.1 h.2]
  .rw[zF h,<-az7 h];exact⟨g,o⟩
theorem Ph : ∀(N:Nat) (l:List Nat),l.Nodup->(∀x∈l,x<N)->ft l<=N
 |0,l,_,h=>by
  cases l with
  |nil=>exact Nat.le_refl _
  |cons x r=>have:=h x<|List.mem_cons_self ..;omega
 |N+1,l,e,h=>by
  by_cases o:N∈l
  .have:=Ph N (l.erase N) (e.erase N) λx g=>by
    grind
   grind
  .have:=Ph N l e λx g=>by
    grind
   omega
end
section
open Go.IntKind renaming wrap->zH,i64->zI,u64->zJ
open Int renaming tdiv->aB,natCast_add->aD,eq_ofNat_of_zero_le->cL,natCast_mul->cM
open IntKind renaming bits->cN
open Nat renaming add_sub_cancel->bB,div_le_self->bD,min_eq_left->cB,min_eq_right->cD,mul_le_mul->cK,le_div_iff_mul_le->cO
def wUn {n:Nat}(h:n<18446744073709551616):zH zJ (n:Int)=(n:Int):=cn V1
def QU {n:Nat}(h:n<=9223372036854775807):zH zI (n:Int)=(n:Int):=ad V1
def Zq {n:Nat}(h:n<=9223372036854775807:=by omega):zH zI (n:Int)=(n:Int):=QU h
def K3 {a:Nat}(p:a<18446744073709551616):vx .u64 (· &&& ·) (a:Int) 4294967295=((a % 4294967296:Nat):Int):=by
 have e:BitVec.ofInt 64 (a:Int)&&& BitVec.ofInt 64 4294967295=BitVec.ofNat 64 (a % 4294967296):=by
  apply BitVec.eq_of_toNat_eq;rw[BitVec.toNat_and,BitVec.toNat_ofInt,BitVec.toNat_ofInt,BitVec.toNat_ofNat];have g:((a:Int) % ((2 ^ 64:Nat):Int)).toNat=a:=by omega
  have o:((4294967295:Int) % ((2 ^ 64:Nat):Int)).toNat=2 ^ 32-1:=by decide
  rw[g,o,Nat.and_two_pow_sub_one_eq_mod];omega
 unfold vx;show zH zJ ((BitVec.ofInt 64 (a:Int)&&& BitVec.ofInt 64 4294967295).toNat:Int)=_;rw[e,BitVec.toNat_ofNat,Zk];omega
def Vs (a:Nat):Int.fdiv (a:Int) (2 ^ (min (Int.toNat 32)<|cN .u64))=((a / 4294967296:Nat):Int):=by
 rw[show(2:Int) ^ (min (Int.toNat 32)<|cN .u64)=4294967296 from rfl,Int.fdiv_eq_ediv_of_nonneg _ V1];rfl
def bw6 {a b:Nat}(o:a<=1099511627776)(g:b<=4194304):pO (a:Int) (b:Int)=O (0,((a*b:Nat):Int)):=by
 have u:a / 4294967296*b<=256*4194304:=cK V1 g;have v:a % 4294967296*b<=4294967295*4194304:=cK V1 g;have z:a*b<=1099511627776*4194304:=cK o g;have e: ∀{n:Nat},n<18446744073709551616->IntKind.u64.wrap (n:Int)=(n:Int):=λh=>cn V1
 unfold pO;rw[Vs a,Vs b,K3 (a:=a) V1,K3 (a:=b) V1,show b / 4294967296=0 by omega,show b % 4294967296=b by omega];simp only[<-cM];rw[e (n:=a % 4294967296*b) V1,e (n:=a / 4294967296*b) V1,e (n:=a / 4294967296*0) V1,e (n:=a % 4294967296*0) V1,e (n:=a*b) V1,Vs];simp only[<-aD];generalize a / 4294967296*b=p at*;generalize a % 4294967296*b=q at*;rw[e (n:=p+q / 4294967296) V1,Vs,K3 V1];simp only[<-aD,Nat.mul_zero,Nat.add_zero,Nat.zero_add];rw[e (n:=(p+q / 4294967296) % 4294967296) V1,Vs,e (n:=(p+q / 4294967296) / 4294967296) V1];simp only[<-aD];rw[e V1,show(p+q / 4294967296) / 4294967296+(p+q / 4294967296) % 4294967296 / 4294967296=0 by omega];rfl
def bu2 {a b:Nat}(e:a<18446744073709551616)(g:1<=b):pN 0 (a:Int) (b:Int)=O (((a / b:Nat):Int),((a % b:Nat):Int)):=by
 unfold pN;have:=bD a b;rw[Ze,zD,Ze,zD,zB rfl,zC,Zf,bp,bp,show aB (a:Int) (b:Int)=((a / b:Nat):Int)from rfl,show Int.tmod (a:Int) (b:Int)=((a % b:Nat):Int)from rfl,wUn<|Nat.lt_of_le_of_lt this e]
def fd {a b:Nat}(e:a<=1099511627776)(g:b<=4194304)(hi:1<=i/\i<=4194304):tU (a:Int) (b:Int) (i:Int)=O ((min lm (a*b / i):Nat):Int):=by
 have o:a*b<=1099511627776*4194304:=cK e g;have p:a*b / i<=a*b:=bD _ _;unfold tU lm;rw[cn (n:=(a:Int)) V1,cn (n:=(b:Int)) V1,cn (n:=(i:Int)) V1,bw6 e g,zG,Ze,zD,bu2 V1 hi.1,zG];generalize a*b / i=q at*;by_cases h:1099511627776<q
 .rw[Zf,zC,cB V1];rfl
 rw[Ze,zD,cD V1,Zi]
def bj6 (hi:1<=i)(e:ch (d+(i-1)) (i-1)<lm):min lm (min lm (ch (d+(i-1))<|i-1)*(d+i) / i)=min lm (ch (d+i) i):=by
 rw[cD<|Nat.le_of_lt e,aa7 hi]
theorem XR {n:Nat}(A:2*k<=n)(C:n<=2097152): ∀f:Int×Int->Option ((Int×Int)⊕Int),(∀i c:Nat,1<=i->i<=k->c<lm->c<=lm->f ((i:Int),(c:Int))=O (.inl (((i+1:Nat):Int),((min lm (c*(n-k+i) / i):Nat):Int))))->(∀i c:Nat,(k<i∨lm<=c)->i<=k+1->c<=lm->f ((i:Int),(c:Int))=O (.inr (c:Int)))->am f cj (1,1)=O ((min lm (ch n k):Nat):Int):=by
 intro f q u;refine J7 (λs=> ∃i:Nat,s=((i:Int),((min lm (ch (n-k+(i-1))<|i-1):Nat):Int))/\1<=i/\i<=k+1) (λs=>k+1-fu s.1) ⟨1, ?_,V1,V1⟩ V3 ?_
 .rw[show 1-1=0 from rfl,H5];rfl
 rintro s ⟨i,rfl,g,p⟩;by_cases hi:i<=k/\ch (n-k+(i-1)) (i-1)<lm
 .left;refine⟨_,q i _ g hi.1 V1<|Nat.min_le_left _ _,⟨i+1, ?_,V1,V1⟩,by simp only;omega⟩;rw[bj6 g hi.2];rfl
 right;rw[u i _ V1 p<|Nat.min_le_left _ _]
 congr 2
 have e:n-k+k=n:=by omega
 by_cases o:i=k+1
 .subst o;rw[bB,e]
 have v:lm<=ch (n-k+(i-1)) (i-1):=by omega
 have z:=Oz (n-k) (show i-1<=k by omega)
 grind
def aa6 (n k:Nat)(e:k<=n):ch n (min k<|n-k)=ch n k:=by
 rcases Nat.le_total k (n-k)with h|h
 .rw[cB h]
 rw[cD h];exact Ae n _ _ V1
theorem CP {n k:Int}(C:n<=2097152):lE n k=O (QD n k):=by
 unfold lE QD;by_cases e:n<0
 .rw[zB e,zE<|.inl e];rfl
 by_cases o:k<0
 .rw[zA e,zB o,zE<|.inr<|.inl o];rfl
 by_cases p:n<k
 .rw[zA e,zA o,zB p,zE<|.inr<|.inr p];rfl
 rw[zA e,zA o,zA p,Zh];simp only[zD];obtain⟨n,rfl⟩:=cL (show 0<=n by omega);obtain⟨k,rfl⟩:=cL (show 0<=k by omega)
 have A:min (k:Int) (zH zI<|(n:Int)-(k:Int))=((min k (n-k):Nat):Int):=by
  rw[Zi];omega
 have q:=XR (n:=n) (k:=min k<|n-k) V1 V1 (nK (n:Int) (k:Int)) (λi c v z u g=>by
  unfold nK;unfold lm at u g;simp only[A];rw[Zf,zC,zB (show(c:Int)<1099511627776 by omega),zC,ad (n:=(n:Int)-((min k (n-k):Nat):Int)) V1,ad (n:=(n:Int)-((min k (n-k):Nat):Int)+(i:Int)) V1,show(n:Int)-((min k (n-k):Nat):Int)+(i:Int)=((n-min k (n-k)+i:Nat):Int)by omega,fd g V1 V1,zG,Zi]
  rfl) (λi c h hi u=>by
  unfold nK;unfold lm at h
  grind)
 rw[q,aa6 n k V1];rfl
theorem aG5 {x:Nat}:zK (x:Int)=O ((min lm x:Nat):Int):=by
 unfold zK lm
 grind
theorem EQ {n k:Int}(hn:n<=2097152):kH n k=O (QD n k):=by
 unfold kH QD;by_cases q:n<0
 .rw[zB q,zE<|.inl q];rfl
 by_cases v:k<0
 .rw[zA q,zB v,zE<|.inr<|.inl v];rfl
 by_cases A:n<k
 .rw[zA q,zA v,zB A,zE<|.inr<|.inr A];rfl
 rw[zA q,zA v,zA A,Zh];simp only[zD];obtain⟨n,rfl⟩:=cL (show 0<=n by omega);obtain⟨k,rfl⟩:=cL (show 0<=k by omega)
 have X:(cond (Zc<|zH zI ((n:Int)-(k:Int))<(k:Int)) (O<|zH zI<|(n:Int)-(k:Int)) (O (k:Int)):Option Int)=O ((min k (n-k):Nat):Int):=by
  rw[Zi,ah]
  grind
 rw[X,zG];have Z:2*min k (n-k)<=n:=by omega
 have D:=aa6 n k V1;generalize min k (n-k)=g at*
 obtain⟨r,e,h⟩:=nq (f:=ul (n:Int) (g:Int)) (a:=(1,1)) (λs=> ∃i:Nat,s=((i:Int),((ch (n-g+(i-1)) (i-1):Nat):Int))/\1<=i/\i<=g+1/\ch (n-g+(i-1)) (i-1)<lm) (λs=>g+1-fu s.1) (λr=>(be r (λ_=>O (1099511627776:Int)) λw=>O w)=O ((min lm (ch n g):Nat):Int)) ⟨1,by rw[show 1-1=0 from rfl,H5];rfl,V1,V1,by rw[show 1-1=0 from rfl,H5];unfold lm;omega⟩ V3 (by
  rintro s ⟨i,rfl,q,v,Q⟩
  have p:i<=g->ch (n-g+i) i<=ch n g:=λhi=>by
   have:=Oz (n-g) hi
   grind
  have u:=aa7 (d:=n-g) q;have c1:1<=ch (n-g+(i-1)) (i-1):=IH V1;generalize z:ch (n-g+(i-1)) (i-1)=c at*;unfold lm at Q;unfold ul;simp only;by_cases hi:i<=g
  .have p:=p hi;rw[zB (show(i:Int)<=(g:Int)by omega),zC,zB (show(i:Int)≠0 by omega),zB (show(c:Int)≠0 by omega),bp,bp]
   have I:zH zI (zH zI ((n:Int)-(g:Int))+(i:Int))=((n-g+i:Nat):Int):=by
    rw[ad (n:=(n:Int)-(g:Int)) V1,Zi];omega
   rw[I];have F:n-g+i<=4194304:=by omega
   obtain⟨m,E⟩: ∃m,m=n-g+i:=⟨_,rfl⟩
   rw[<-E]at F p u⊢;have d2:m / i<=m:=bD _ _;have d3:1099511627776 / c<=1099511627776:=bD _ _
   have J:zH zI (aB (m:Int) (i:Int))=((m / i:Nat):Int):=by
    rw[show aB (m:Int) (i:Int)=((m / i:Nat):Int)from rfl,Zq]
   have K:zH zI (aB 1099511627776 (c:Int))=((1099511627776 / c:Nat):Int):=by
    rw[show aB 1099511627776 (c:Int)=((1099511627776 / c:Nat):Int)from rfl,Zq]
   have o:=al6 c m i;rw[J,K];by_cases hw:1099511627776 / c<m / i
   .rw[zB (show((1099511627776 / c:Nat):Int)<((m / i:Nat):Int)by omega),zC];refine .inr ⟨_,rfl, ?_⟩;have: ¬m / i*c<=1099511627776:=λh=>by have:=(cO V1).2 h;omega
    rw[Nat.mul_comm]at this;have C:c*(m / i)<=ch m i:=by rw[<-u,<-o];exact Nat.le_add_right _ _
    have V:1099511627776<ch n g:=Nat.lt_of_lt_of_le (Nat.lt_of_not_le this)<|Nat.le_trans C p;rw[gM,cB Z6];rfl
   rw[zA (show¬((1099511627776 / c:Nat):Int)<((m / i:Nat):Int)by omega),zD,bp,bp];have p1:m / i*c<=1099511627776:=(cO V1).1 V1;rw[Nat.mul_comm]at p1;have r1:m % i<i:=Nat.mod_lt _ V1;have p2:c*(m % i)<=1099511627776*2097152:=cK V1 V1
   have L:zH zI ((c:Int)*((m / i:Nat):Int))=((c*(m / i):Nat):Int):=by
    rw[<-cM,Zq]
   have M:zH zI ((c:Int)*Int.tmod (m:Int) (i:Int))=((c*(m % i):Nat):Int):=by
    rw[show Int.tmod (m:Int) (i:Int)=((m % i:Nat):Int)from rfl,<-cM,Zq]
   have q1:c*(m % i) / i<=c*(m % i):=bD _ _
   have N:zH zI (aB ((c*(m % i):Nat):Int) (i:Int))=((c*(m % i) / i:Nat):Int):=by
    rw[show aB ((c*(m % i):Nat):Int) (i:Int)=((c*(m % i) / i:Nat):Int)from rfl,Zq]
   rw[L,M,N,<-aD,Zq,o,u,aG5,zG];by_cases H:lm<=ch m i
   .rw[cB H,show Zc ((lm:Int)=1099511627776)=Za from rfl,zC];refine .inr ⟨_,rfl, ?_⟩;rw[gM,cB V1];rfl
   unfold lm at H;rw[zA Z6,zD];refine .inl ⟨_,rfl,⟨i+1, ?_,V1,V1, ?_⟩, ?_⟩
   .rw[Zi,bB,cD Z6,E];rfl
   .rw[bB,<-E];unfold lm;omega
   rw[Zi];omega
  rw[zA (show¬(i:Int)<=(g:Int)by omega),zD];refine .inr ⟨_,rfl, ?_⟩;rw[ci];have:i=g+1:=by omega
  subst this;rw[bB,show n-g+g=n by omega]at z
  rw[z,cD Z6])
 simp_all
def Wz {r s:Nat}(g:1<=s/\s<=1048576)(e:r<=65536):sJ (r:Int) (s:Int)=O (((min lm (ch (s+r) r):Nat):Int),0):=by
 unfold sJ;rw[Ze,zD,Ze,zD,Ze,zD,Ze,zD,Zi,EQ V1,show(s:Int)+(r:Int)=((s+r:Nat):Int)by omega,Ew V1];rfl
def aT0 {r s:Nat}(g:1<=s/\s<=1048576)(e:r<=65536):uF (r:Int) (s:Int)=O ((min lm (ch (s+r) r):Nat):Int):=by
 unfold uF;rw[Ze,zD,Zi,CP V1,show(s:Int)+(r:Int)=((s+r:Nat):Int)by omega,Ew V1,Ae (s+r) s r rfl];rfl
theorem WA {l s:Nat}(v:l<65536)(o:1<=s/\s<=1048576): ∃r:Nat,uw (l:Int) (s:Int)=O ((r:Int),0)/\IsRep l s r:=by
 unfold uw;rw[Ze,zD,Ze,zD,Ze,zD,Ze,zD];by_cases p:s=1
 .subst p;refine⟨l-1, ?_,aW2 l⟩;rw[Zf,zC,Zi,show max ((l:Int)-1) 0=((l-1:Nat):Int)by omega]
 rw[Ze,zD]
 obtain⟨c,e,r,rfl,g⟩:=nq (f:=yD (l:Int) (s:Int)) (a:=0) (λa=> ∃r:Nat,a=(r:Int)/\(∀x,x<r->ch (s+x) x<l)) (λr=>l+1-fu r) (λc=> ∃r:Nat,c=(r:Int)/\IsRep l s r) ⟨0,rfl,λx u=>by omega⟩ V1 (by
  rintro a ⟨r,rfl,g⟩
  have q:r<=l:=by
   rcases Nat.lt_or_ge l r with k|k
   .have:=g _ k;have:=Hm o.1 l;omega
   exact k
  unfold yD;rw[Wz o V1,zG];by_cases h:l<=ch (s+r) r
  .rw[zB Z6,zC];exact .inr ⟨_,rfl,r,rfl,h,g⟩
  rw[zA Z6,zD,Zi];refine .inl ⟨_,rfl,⟨r+1,rfl,λx u=> ?_⟩,V1⟩
  grind)
 rw[e];exact⟨r,rfl,g⟩
def aq1 {l s:Nat}(D:l<65536)(q:1<=s/\s<=1048576): ∃r:Nat,BV (l:Int) (s:Int)=O ((r:Int),0)/\IsRep l s r:=by
 unfold BV DP;rw[Ze,zD,Ze,zD,Zf,zC,Zf];simp only[zG,Bool.not_true,zD];unfold DO
 obtain⟨c,e,r,rfl,z⟩:=nq (f:=yF (l:Int) (s:Int)) (a:=(0,(l:Int))) (λa=> ∃g hi:Nat,a=((g:Int),(hi:Int))/\g<=hi/\hi<=l/\l<=ch (s+hi) hi/\(g=0∨ch (s+(g-1)) (g-1)<l)) (λa=>(a.2-a.1).toNat) (λc=> ∃r:Nat,c=(r:Int)/\IsRep l s r) ⟨0,l,rfl,V1,V1,by have:=Hm q.1 l;omega, .inl rfl⟩ V3 (by
  rintro a ⟨g,hi,rfl,A,C,o,p⟩;unfold yF Cq;simp only;by_cases h:g<hi
  .have u:zH zI (aB (zH zI<|(g:Int)+(hi:Int)) 2)=(((g+hi) / 2:Nat):Int):=by
    rw[ad (n:=(g:Int)+(hi:Int)) V1,<-aD,show aB ((g+hi:Nat):Int) 2=(((g+hi) / 2:Nat):Int)from rfl,Zq]
   rw[Zf,zC,u,aT0 q V1];simp only[zG];by_cases v:l<=ch (s+(g+hi) / 2) ((g+hi) / 2)
   .rw[zB Z6,zC];exact .inl ⟨_,rfl,⟨g,(g+hi) / 2,rfl,V1,V1,v,p⟩,by simp only;omega⟩
   rw[zA Z6,zD,Zi];exact .inl ⟨_,rfl,⟨(g+hi) / 2+1,hi,rfl,V1,V1,o, .inr (by rw[bB];omega)⟩,by simp only;omega⟩
  rw[Ze,zD];have:g=hi:=by omega
  subst this
  exact .inr ⟨_,rfl,g,rfl,bo5 o p⟩)
 rw[e];exact⟨r,rfl,z⟩
def am9 (a b:Int):sO [1,a,b]=O (max 1<|max a b):=by
 have e:sO [1,a,b]=O (max (max (max 1 1) a) b):=rfl;rw[e]
 congr 1
 omega
def W0 {n:Nat}(q:2<=n/\n<65536)(e:1<=c/\c<=1048576):uE (n:Int) (c:Int)=O (spI n c<|yR n c,0):=by
 obtain⟨r,o,p⟩:=aq1 (l:=n) (s:=c) q.2 e;have g:=Ko n e.1;have:r=yR n c:=p.eq g;subst this;have D:=g.le e.1;have C:=ax2 ((c:Int)+(yR n c:Int)-1)<|(c:Int)-1;have u:zH zI ((c:Int)+(yR n c:Int))=(c:Int)+(yR n c:Int):=ad V1;have v:zH zI ((c:Int)+(yR n c:Int)-2)=(c:Int)+(yR n c:Int)-2:=ad V1;have z:zH zI ((c:Int)+(yR n c:Int)-1)=(c:Int)+(yR n c:Int)-1:=ad V1;have A:zH zI ((c:Int)-1)=(c:Int)-1:=ad V1;unfold uE;rw[Ze,zD,o];simp only[zG];rw[zA V2,zD,u,v,z,A,CP V1,CP V1];simp only[zG];rw[Zi,am9];rfl
def YQ {n:Nat}(o:2<=n/\n<65536)(e:1<=c/\c<=1048576):uE (n:Int) (c:Int)=O (spI n c (yR n c),0)/\xh (n:Int) (c:Int)=O (spI n c (yR n c),0):=by
 refine⟨W0 o e, ?_⟩;obtain⟨u,p,q⟩:=WA (l:=n) (s:=c) o.2 e;have g:=Ko n e.1;have:u=yR n c:=q.eq g;subst this;have E:=g.le e.1;have D:=ax2 ((c:Int)+(yR n c:Int)-1) ((c:Int)-1);have v:zH zI ((c:Int)+(yR n c:Int))=(c:Int)+(yR n c:Int):=ad V1;have z:zH zI ((c:Int)+(yR n c:Int)-2)=(c:Int)+(yR n c:Int)-2:=ad V1;have A:zH zI ((c:Int)+(yR n c:Int)-1)=(c:Int)+(yR n c:Int)-1:=ad V1;have C:zH zI ((c:Int)-1)=(c:Int)-1:=ad V1;unfold xh;rw[Ze,zD,p];simp only[zG];rw[zA V2,zD,v,z,A,C,EQ V1,EQ V1];simp only[zG];rw[Zi];rfl
end
section
def aY4 (l:Zd)(x:Int):nI (l++[x])=max (nI l) x:=by
 unfold nI;rw[List.foldl_append];rfl
def aI9 (l:Zd): -1<=nI l:=(wJ l<|-1).1
def bq2 (l:Zd)(h:y∈l):y<=nI l:=(wJ l<|-1).2.1 _ h
def Un (h:0<=nI l):nI l∈l:=by
 rcases(wJ l<|-1).2.2 with k|k
 .unfold nI at*;omega
 exact k
theorem aX5 (h:x∉l):yq (l++[x]) x=ft l:=by
 unfold yq
 grind
theorem aX6 (h:y∈l):yq (l++[x]) y=yq l y:=by
 unfold yq
 grind
theorem aR0 (l:Zd)(x:Int):Fg (l++[x])=Fg l+(if x<0 then 1 else 0):=by
 unfold Fg
 grind
def ab8 (l:Zd):Fg l<=ft l:=List.countP_le_length
theorem bv1 (h:Fg l=0): ∀y∈l,0<=y:=λy e=>by
 have:=List.countP_eq_zero.1 h y e
 grind
theorem aY7 (h:Fg l=0)(o:x<0):P1 (l++[x])=ft l:=by
 unfold P1;have g:l.findIdx (λy=>Zc<|y<0)=ft l:=List.findIdx_eq_length_of_false λy e=>zA (by have:=bv1 h y e;omega)
 grind
def Ut (h:0<Fg l):P1 (l++[x])=P1 l:=by
 unfold P1;have:=(aJ2 h).1;unfold P1 at this;rw[List.findIdx_append,zE this]
def Xd (t:Zd):Int:=nI t
def Xf (t:Zd):Int:=if nI t<0 then 0 else(yq t (nI t):Int)
def Xe (t:Zd):Int:=(Fg t:Int)
def aJ4 (t:Zd):Int:=if Fg t=0 then-1 else(P1 t:Int)
def aT1 {L p q:Int}(I:ft t<1000000000):uG L p q t=O (p,q,t,(if q<0 then L else q),Xd t,Xf t,Xe t,aJ4 t):=by
 unfold uG
 have E:((cond (Zc<|q<0) (O (p,q,t,p,q,t,L))<|O (p,q,t,p,q,t,q)):Option<|Int×Int×Zd×Int×Int×Zd×Int)=O (p,q,t,p,q,t,(if q<0 then L else q)):=by
  rw[ah];split<;>rfl
 rw[E,zG];generalize (if q<0 then L else q)=e
 have v:=bz (f:=lQ (p,q,t,p,q,t,e)) (n:=ft t) (λi=>(p,q,t,p,q,t,e,Xd<|t.take i,Xf<|t.take i,Xe<|t.take i,aJ4<|t.take i)) (c:=(p,q,t,p,q,t,e,Xd t,Xf t,Xe t,aJ4 t)) V1
  (λi hi=>by
   have g:ft (t.take i)=i:=by rw[List.length_take];omega
   have F:=ab8<|t.take i;have H:=aI9<|t.take i;simp only[lQ];rw[Zf,zC,bq hi,List.take_succ_eq_append_getElem hi,zG];generalize t[i]=x;generalize J:t.take i=u at*;rw[ad (n:=(i:Int)+1) V1];unfold Xd Xf Xe aJ4;rw[ad (n:=(Fg u:Int)+1) V1,aY4,aR0];by_cases D:nI u<x
   .rw[zB D,zC,Int.max_eq_right V1,zF (show¬x<0 by omega),zF (show¬x<0 by omega),aX5 (λh=>by have:=bq2 u h;omega),g];simp only[Nat.add_zero]
    have:(if Fg u=0 then(-1:Int)else(P1 (u++[x]):Int))=if Fg u=0 then(-1:Int)else(P1 u:Int):=by
     split
     .rfl
     rw[Ut V1]
    rw[this];rfl
   rw[zA D,zD,Int.max_eq_left V1]
   have C:(if nI u<0 then(0:Int)else(yq (u++[x]) (nI u):Int))=if nI u<0 then(0:Int)else(yq u (nI u):Int):=by
    split
    .rfl
    rw[aX6<|Un V1]
   rw[C];by_cases o:x<0
   .rw[zB o,zC,zE o,zF (show¬Fg u+1=0 by omega)];by_cases A:Fg u=0
    .rw[zE A,Zf,zC,aY7 A o,g];rfl
    rw[zF A,Ze,zD,Ut V1];rfl
   rw[zA o,zD,zF o];simp only[Nat.add_zero]
   have:(if Fg u=0 then(-1:Int)else(P1 (u++[x]):Int))=if Fg u=0 then(-1:Int)else(P1 u:Int):=by
    split
    .rfl
    rw[Ut V1]
   rw[this]
   rfl)
  (by
   simp only[lQ]
   rw[zA V2,zD,List.take_length])
 rw[List.take_zero]at v;have z:am (lQ (p,q,t,p,q,t,e)) cj (0,p,q,t,p,q,t,e,-1,0,0,-1)=_:=v;rw[z];rfl
def Xg (h: ¬nI t<0):Xf t=(yq t (nI t):Int):=zF h
def aY8 (h: ¬Fg t=0):aJ4 t=(P1 t:Int):=zF h
def bt6 :Option (Int×Int)->Int×Int×Bool
 |none=>(0,0,Zb)
 |some a=>(a.1,a.2,Za)
section
variable {c:Cx}
def bc6 (h:c.Ok)(g:c.mode≠3)(hi:Inv c s):fB c.fixed c.tp c.sl c.ns c.mode c.R c.Q c.len c.words s.L s.p s.q s.c0 s.c1 s.c2 s.c3 s.z c.X c.T c.l c.k c.P c.tk (c.off 8:Int) c.ns (ft c.X:Int) s.lv s.pk c.words s.W=O (s.p,s.q,iC c s.W):=by
 unfold fB;rw[KA h g hi.w λk e=>by have:=hi.tag k e;have:=hi.L;omega];rfl
def pW (c:Cx)(s:Dy):Mc:=⟨s.L,s.p,s.q,iC c s.W⟩
theorem Yi (h:c.Ok)(J:c.mode≠3)(hn:1<=c.ns)(hi:Inv c s)(g:Int)(en N:Bool):mH g en N c.fixed c.tp c.sl c.ns c.mode c.R c.Q c.len c.words s.L s.p s.q s.c0 s.c1 s.c2 s.c3 s.z c.X c.T c.l c.k c.P c.tk (c.off 8:Int) c.ns (c.X.length:Int) s.lv s.pk c.words s.W=O (bt6<|Dt<|pW c s):=by
 have hns:=h.ns;have V:=hi.L;have hp:=hi.p;have M:=hi.q;have I:(iC c s.W).length=c.ns.toNat:=oW;have v:=KB (c:=c) (W:=s.W) hi.tag;have K:=(sw h J (k:=0) V1).2.2;unfold mH de cu lJ;simp only[zG];rw[bc6 h J hi];simp only[zG];unfold Cr;rw[EH V hp M V1 v];simp only[zG,ci];rw[Zf,Bool.not_true,zD,aT1 V1];simp only[zG,mj,co,df,wA,nW,nX,nY,nZ,ob,oc,od,oe,iW,rG,qk,ql];unfold Dt pW Xd Xe;simp only;have hg:=aI9 (iC c s.W)
 have ht:nI (iC c s.W)<=s.L:=by
  rcases(wJ (iC c s.W)<|-1).2.2 with k|k
  .unfold nI;omega
  exact(v _ k).2
 have hf:=ab8<|iC c s.W;have he:0<=(if s.q<0 then s.L else s.q)/\(if s.q<0 then s.L else s.q)<=s.L:=by split<;>omega
 generalize (if s.q<0 then s.L else s.q)=e at*;have hq':=M;have hsp: ∀x,¬nI (iC c s.W)<s.p->x=nI (iC c s.W)->True:=λ_ _ _=>trivial
 generalize htg:iC c s.W=t at*;rw[ad (n:=e-1) V1,ad (n:=e-1-s.p) V1,ad (n:=e-nI t) V1,ad (n:=(Fg t:Int)+1) V1];by_cases A:0<=s.q/\e<=nI t
 .rw[zE A,zB A.1,zC,zB A.2];simp only[zG,zC];rw[Xg V1];rfl
 rw[zF A]
 have r1:(cond (Zc<|0<=s.q) (O<|Zc<|e<=nI t) (O Zb):Option Bool)=O Zb:=by
  grind
 rw[r1];simp only[zG,zD];by_cases C:s.q=0
 .rw[zE C,zB C,zC];rfl
 rw[zF C,zA C,zD]
 have r3:(cond (!Zc (0<=s.q)) (O<|Zc<|s.p=s.L) (O Zb):Option Bool)=O (Zc<|s.q<0/\s.p=s.L):=by
  grind
 rw[r3];simp only[zG];by_cases D:s.q<0/\s.p=s.L
 .rw[zE D,zB D,zC];rfl
 rw[zF D,zA D,zD];by_cases E:s.p=e-1
 .rw[zE E,zB E,zC];by_cases o:0<=s.q
  .rw[zE o,zB o];rfl
  rw[zF o,zA o];rfl
 rw[zF E,zA E,zD];by_cases o:nI t<0
 .rw[zE o,zB o,zC];by_cases u:e<=s.p
  .rw[zE u,zB u];rfl
  rw[zF u,zA u];rfl
 rw[zF o,zA o,zD]
 have r6:(cond (Zc<|s.p<nI t) (O Za) (O<|Zc<|e<=s.p):Option Bool)=O (Zc<|s.p<nI t∨e<=s.p):=by
  grind
 rw[r6];simp only[zG];by_cases u:s.p<nI t∨e<=s.p
 .rw[zE u,zB u,zC,Xg o];rfl
 rw[zF u,zA u,zD]
 have r7:(cond (Zc<|nI t<s.p) (O<|Zc<|0<(Fg t:Int)) (O Zb):Option Bool)=O (Zc<|nI t<s.p/\0<Fg t):=by
  by_cases k:nI t<s.p
  .rw[zB k,zC]
   simp_all
  grind
 rw[r7];simp only[zG];by_cases F:nI t<s.p/\0<Fg t
 .rw[zE F,zB F,zC,aY8 V1];rfl
 rw[zF F,zA F,zD];by_cases H:nI t<s.p
 .rw[zE H,zB H,zC];rfl
 rw[zF H,zA H,zD];have Z:e-nI t=(((e-nI t).toNat:Nat):Int):=by omega
 have:=W0 (n:=(e-nI t).toNat) (c:=Fg t+1) V1 V1;rw[<-Z,show((Fg t+1:Nat):Int)=(Fg t:Int)+1 by omega]at this;rw[this];rfl
end
end
end Go.V
