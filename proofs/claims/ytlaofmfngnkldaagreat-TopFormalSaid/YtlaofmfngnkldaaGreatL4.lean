/- A part of the proof. No condition. -/
import Derived.Test.YtlaofmfngnkldaaGreatL3
import Derived.Test.YtlaofmfngnkldaaGreatA11
set_option linter.all false
namespace Go.V
open Go.Ab
open Option renaming some->O,none->Z
open Bool renaming true->Za,false->Zb
open Decidable renaming decide->Zc
open List renaming mem_append->aF
open List renaming mem_cons->aA
open List renaming mem_map->aE
open List renaming mem_range->aH
open List renaming mem_singleton->aI
open List renaming length->b8
open Int renaming toNat->b9
variable {W W' at' ax r st t w x:Zd}{s:Dy}{i j k:Nat}{B a:Int}{l:List cg}
set_option maxRecDepth 100000
section
open Int renaming reduceEq->aD
open Nat renaming reduceSub->aB
def aQ1 (a n p q L b:Int)(l:Zd):Int×Int×Int×Int×Int×Zd:=
 if lD a n=Zb∨7<a then(2,p,q,L,b,l)
 else if(2<=a/\a<=4)/\(b8 l:Int)<=n then(2,p,q,L,b,l)
 else if a=1 then(if L-p<n then(17,p,q,L,b,l)else(0,p+n,q,L,b+n,l))
 else if a=2 then(if 0<=rg l n then(15,p,q,L,b,l)else(0,p,q,L,b,l.set (b9 n) p))
 else if a=3 then(if rg l n<0 then(16,p,q,L,b,l)else(0,rg l n,q,L,b,l))
 else if a=4 then(if rg l n<0 then(16,p,q,L,b,l)else(0,p,q,L,b,l.set (b9 n)<|-1))
 else if a=5 then(if q≠ -1 then(18,p,q,L,b,l)else if p≠L then(17,p,q,L,b,l)else(0,p,p,L,b,l))
 else if a=6 then(if q≠ -1 then(18,p,q,L,b,l)else if p≠L-1 then(17,p,q,L,b,l)else(0,p,p,L,b,l))
 else(if q<=0 then(18,p,q,L,b,l)else if p≠q-1 then(17,p,q,L,b,l)else(0,p,p,L,b,l))
def Wr :Nat.beq 0 0=Za:=rfl
def Wq (n:Nat):Nat.beq (n+1) 0=Zb:=rfl
theorem CB {n:Int}(h: ¬(lD a n=Zb∨7<a)):lD a n=Za/\(a=1∨a=2∨a=3∨a=4∨a=5∨a=6∨a=7):=by
 have b:lD a n=Za:=by
  grind
 refine⟨b, ?_⟩;have e: ¬a<1:=λd=>by unfold lD at b;rw[zE d]at b;cases b
 omega
theorem CC {n:Int}(h:lD a n=Za)(b:1<=a/\a<=4):0<=n/\n<1048576/\(a=1->1<=n/\n<65536):=by
 unfold lD at h
 grind
theorem Uv {n p q L d:Int}{l:Zd}(K:0<=L/\L<=65535)(M:0<=p/\p<=L)(N: -1<=q/\q<=L)(Q:0<=d/\d<=1000000000000):jG a n p q L d l=O (aQ1 a n p q L d l):=by
 unfold jG aQ1;rw[Pq];simp only[zG];by_cases v:lD a n=Zb∨7<a
 .rw[zE v]
  have e:(cond (!lD a n) (O Za)<|O<|Zc<|7<a)=O Za:=by
   grind
  rw[e];rfl
 rw[zF v];obtain⟨y,I⟩:=CB v;have H: ¬7<a:=λh=>v (.inr h)
 rw[y,zA H];simp only[Bool.not_true,zD,zG];by_cases u:(2<=a/\a<=4)/\(l.length:Int)<=n
 .rw[zE u,zB u.1.1,zB u.1.2,zB u.2];rfl
 rw[zF u]
 have e:(cond (Zc<|2<=a) (cond (Zc<|a<=4) (cond (Zc<|(l.length:Int)<=n) (O<|Sum.inl ())<|O<|Sum.inr ())<|O<|Sum.inr ()) (O<|Sum.inr ()):Option<|Unit⊕Unit)=O (.inr ()):=by
  grind
 rw[e];simp only[zG,di,mD]
 have b:(2<=a/\a<=4)->0<=n/\n.toNat<l.length/\ix n l.length=O n.toNat/\l[n.toNat]?=O (rg l n):=λJ=>by
  have A:=CC y ⟨V1,J.2⟩
  have o:n.toNat<l.length:=by
   omega
  have z:n=((n.toNat:Nat):Int):=by omega
  refine⟨A.1,o, ?_, ?_⟩
  .conv=>lhs;rw[z]
   exact bq o
  have:=jd o;rw[<-z]at this;exact this
 rcases I with rfl|rfl|rfl|rfl|rfl|rfl|rfl
 .have A:=CC y V1;rw[show ix 1 8=O 1 from rfl];simp only[zG,aB,Wr,Wq,zC,zD];rw[zE trivial];unfold lu;rw[ad (n:=L-p) V1,ap];by_cases g:L-p<n
  .rw[zE g,zE g];rfl
  rw[zF g,zF g,ad (n:=p+n) V1,ad (n:=d+n) V1];rfl
 .obtain⟨C,D,E,F⟩:=b V1;rw[show ix 2 8=O 2 from rfl];simp only[zG,aB,Wr,Wq,zC,zD];rw[zF V5,zE trivial];unfold mE
  grind
 .obtain⟨C,D,E,F⟩:=b V1;rw[show ix 3 8=O 3 from rfl];simp only[zG,aB,Wr,Wq,zC,zD];rw[zF V5,zF V5,zE trivial];unfold lw
  grind
 .obtain⟨C,D,E,F⟩:=b V1;rw[show ix 4 8=O 4 from rfl];simp only[zG,aB,Wr,Wq,zC,zD];rw[zF V5,zF V5,zF V5,zE trivial];unfold nv
  grind
 .rw[show ix 5 8=O 5 from rfl];simp only[zG,aB,Wr,Wq,zC,zD];rw[zF V5,zF V5,zF V5,zF V5,zE trivial];unfold ny iz;rw[ad (n:=L-0) V1,ap]
  grind
 .rw[show ix 6 8=O 6 from rfl];simp only[zG,aB,Wr,Wq,zC,zD];rw[zF V5,zF V5,zF V5,zF V5,zF V5,zE trivial];unfold nu iz;rw[ad (n:=L-1) V1,ap]
  grind
 rw[show ix 7 8=O 7 from rfl];simp only[zG,aB,Wr,Wq,zC,zD];rw[zF V5,zF V5,zF V5,zF V5,zF V5,zF V5];unfold ly;rw[ap];by_cases g:q<=0
 .rw[zE g,zE g];rfl
 rw[zF g,zF g,ad (n:=q-1) V1,ap]
 grind
section
variable {c:Cx}
theorem MD {L:Int}(d: ∀k,k<b9 c.ns->0<=jg c W k/\jg c W k<=L+1): ∀t∈mz c W,-1<=t/\t<=L:=λt b=>by
 unfold mz at b
 grind
theorem aE0 {n:Int}(h:0<=n)(b:b9 n<b9 c.ns):rg (mz c W) n=jg c W (b9 n)-1:=by
 have d:=Em (c:=c) (W:=W) b;have e:=jd (r:=mz c W) (k:=b9 n) (by rw[pW];exact b)
 grind
def Gq.in' (h:Gq B s)(b:B<=2305843009213693952):(0<=s.c0/\s.c0<=2305843009213693952)/\(0<=s.c1/\s.c1<=2305843009213693952)/\(0<=s.c2/\s.c2<=2305843009213693952)/\(0<=s.c3/\s.c3<=2305843009213693952):=by
 unfold Gq at h;omega
def aq0 (b:k<b9 c.ns)(d:0<jg c W k):0<oE c W:=by
 unfold oE;exact List.countP_pos_iff.2 ⟨k,aH.2 b,zB d⟩
def ae8 (h:c.Ok)(hi:Inv c s)(p:0<oE c s.W):c.sl<=s.lv:=by
 have n:=h.num;have d:=hi.lv;have e:=n.fixed;have b:=n.sl;have g:1<=c.sl:=by rw[b];have:=n.R;split<;>omega
 have o:c.sl*1<=c.sl*(oE c s.W:Int):=Int.mul_le_mul_of_nonneg_left V1 V1;have:=n.R;have:=n.Q;omega
def do2 (h:c.Ok)(C:c.mode≠3)(hi:Inv c s)(hc:Gq B s)(hB:B<=2305843009213693952){n:Int}:
  ko a n c.fixed c.tp c.sl c.ns c.mode c.R c.Q c.len c.words s.L s.p s.q s.c0 s.c1 s.c2 s.c3 s.z c.X c.T c.l c.k c.P c.tk (c.off 8:Int) c.ns (c.X.length:Int) s.lv s.pk c.words s.W=O (aN1 c<|CU c a n s):=by
 have nm:=h.num;have F:=hi.w;have V:=hi.L;have hp:=hi.p;have hq:=hi.q;have D:=hi.pk;have N:=h.ns;obtain⟨k0,k1,k2,k3⟩:=hc.in' hB;obtain⟨J,g2,K,g4⟩:=Kc h hi;have S:=nm.tp;rw[zF C]at S
 have e:(mz c s.W).length<1000000:=by
  rw[pW];rcases Nat.eq_zero_or_pos c.ns.toNat with h0|h0
  .omega
  .have:=(sd h C h0).2.2;omega
 unfold ko lr;simp only[zG];rw[zA C,zD];unfold fR;rw[Qt h C F (λk M=>by have:=hi.tag k M;omega)];simp only[zG];rw[F5 V hp hq e<|MD hi.tag];simp only[zG,di];rw[Uv V hp hq V1];simp only[zG];unfold aQ1 CU;by_cases E:lD a n=Zb∨7<a
 .rw[zE E,zE E,zB V2,zC];rfl
 rw[zF E,zF E];obtain⟨U,M⟩:=CB E;rw[pW,Int.toNat_of_nonneg N.1];by_cases I:(2<=a/\a<=4)/\c.ns<=n
 .rw[zE I,zE I,zB V2,zC];rfl
 rw[zF I,zF I]
 have v:(2<=a/\a<=4)->n=((n.toNat:Nat):Int)/\n.toNat<c.ns.toNat/\rg (mz c s.W) n=jg c s.W n.toNat-1:=λhs=>by
  have Y:=CC U ⟨V1,hs.2⟩
  have g:n.toNat<c.ns.toNat:=by
   omega
  exact⟨V1,g,aE0 Y.1 g⟩
 simp only[np,bi,ak,zG];have d: ∀l:Zd,l.length<1000000->gd (fS (0+l.length) 8) (O l)=O l:=λl hl=>bu V1 V1
 have y: ∀(i:Nat) (x:Int),((mz c s.W).set i x).length<1000000:=λi x=>by simp only[List.length_set];exact e
 rcases M with rfl|rfl|rfl|rfl|rfl|rfl|rfl
 .have Y:=CC U V1;simp only[aD,reduceIte];by_cases b:s.L-s.p<n
  .rw[zE b,zE b,zB V2,zC];rfl
  rw[zF b,zF b,zA V2,zD,show ix 1 8=O 1 from rfl];simp only[zG,aB,Wr,Wq,zC,zD];have A:n=((n.toNat:Nat):Int):=by omega
  have u:=YJ h F (m:=n.toNat) (L:=s.L) (p:=s.p) (q:=s.q) (c0:=s.c0) (c1:=s.c1) (c2:=s.c2) (c3:=s.c3) (z:=s.z) (sb:=(c.off 8:Int)) (sn:=c.ns) (sx:=(c.X.length:Int)) (lv:=s.lv) (pk:=s.pk) (bd:=c.words) V1 V1 V1;rw[<-A]at u;rw[u];simp only[zG];rw[d _ e];rfl
 .obtain⟨A,g,H⟩:=v V1;simp only[aD,reduceIte];rw[H];by_cases b:0<=jg c s.W n.toNat-1
  .rw[zE b,zE b,zB V2,zC];rfl
  rw[zF b,zF b,zA V2,zD,show ix 2 8=O 2 from rfl];simp only[zG,aB,Wr,Wq,zC,zD];have u:=aT8 h C hi g V1;rw[<-A]at u;rw[u];simp only[zG];rw[d _<|y _ _];rfl
 .obtain⟨A,g,H⟩:=v V1;simp only[aD,reduceIte];rw[H];by_cases b:jg c s.W n.toNat-1<0
  .rw[zE b,zE b,zB V2,zC];rfl
  rw[zF b,zF b,zA V2,zD,show ix 3 8=O 3 from rfl];simp only[zG,aB,Wr,Wq,zC,zD];have u:=am6 h C hi g V1;rw[<-A]at u;rw[u];simp only[zG];rw[d _ e];rfl
 .obtain⟨A,g,H⟩:=v V1;simp only[aD,reduceIte];rw[H];by_cases b:jg c s.W n.toNat-1<0
  .rw[zE b,zE b,zB V2,zC];rfl
  rw[zF b,zF b,zA V2,zD,show ix 4 8=O 4 from rfl];simp only[zG,aB,Wr,Wq,zC,zD];have u:=ba1 h C hi g V1<|ae8 h hi<|aq0 g V1;rw[<-A]at u;rw[u];simp only[zG];rw[d _<|y _ _];rfl
 .simp only[aD,reduceIte];by_cases b:s.q≠ -1
  .rw[zE b,zE b,zB V2,zC];rfl
  rw[zF b,zF b];by_cases o:s.p≠s.L
  .rw[zE o,zE o,zB V2,zC];rfl
  rw[zF o,zF o,zA V2,zD,show ix 5 8=O 5 from rfl];simp only[zG,aB,Wr,Wq,zC,zD];rw[bc2 h F J D.1 V1 K];simp only[zG];rw[d _ e,ad (n:=s.c2+1) V1,ad (n:=s.c3+1) V1];rfl
 .simp only[aD,reduceIte];by_cases b:s.q≠ -1
  .rw[zE b,zE b,zB V2,zC];rfl
  rw[zF b,zF b];by_cases o:s.p≠s.L-1
  .rw[zE o,zE o,zB V2,zC];rfl
  rw[zF o,zF o,zA V2,zD,show ix 6 8=O 6 from rfl];simp only[zG,aB,Wr,Wq,zC,zD];rw[aY8 h F J D.1 V1 K];simp only[zG];rw[d _ e,ad (n:=s.c1+1) V1,ad (n:=s.c2+1) V1,ad (n:=s.c3+1) V1,ad (n:=s.c3+1+1) V1];rfl
 .simp only[aD,reduceIte];by_cases b:s.q<=0
  .rw[zE b,zE b,zB V2,zC];rfl
  rw[zF b,zF b];by_cases o:s.p≠s.q-1
  .rw[zE o,zE o,zB V2,zC];rfl
  rw[zF o,zF o,zA V2,zD,show ix 7 8=O 7 from rfl];simp only[zG,aB,Wr,Wq,zC,zD];rw[bn6 h F J D.1 V1 K];simp only[zG];rw[d _ e,ad (n:=s.c1+1) V1,ad (n:=s.c3+1) V1];rfl
end
end
section
open Go.IntKind renaming wrap->zH,i64->zI,u64->zJ
open Int renaming reduceEq->aB,le_max_left->cB,toNat_natCast->cD
open List renaming getD_eq_getElem?_getD->aD,range->bD,length_take->cV,countP_append->cX
open Nat renaming le_of_eq->bB,le_refl->cW
section
variable {c:Cx}
def fH (c:Cx)(W W':Zd):Prop:= ∀i,c.off 8<=i->W'[i]?=W[i]?
def fH.refl (W:Zd):fH c W W:=λ_ _=>rfl
def fH.trans {W'':Zd}(h:fH c W W')(b:fH c W' W''):fH c W W'':=λi hi=>(b i hi).trans<|h i hi
def fH.put (h:c.Ok)(b:fH c W W')(d:Wd c W')(hi:i<8)(p:b8 w<=c.sz i):fH c W<|put W' (c.off i) w:=λj e=>by
 have g:=gS (c:=c) (i:=i) (j:=8) hi;have o:=d.in' h (i:=i) V1;rw[al3 V1<|.inr V1];exact b j e
def fH.rg (h:fH c W W')(hi:c.off 8<=i):rg W' (i:Int)=rg W (i:Int):=by
 unfold Go.V.rg;rw[cD,aD,aD,h i hi]
def fH.tag (h:fH c W W')(k:Nat):jg c W' k=jg c W k:=h.rg Zs
def fH.used (h:fH c W W'):oE c W'=oE c W:=by
 unfold oE
 congr 1
 funext k
 rw[h.tag k]
def fH.seg (h:fH c W W'){o n:Nat}(b:c.off 8<=o):seg W' o n=seg W o n:=by
 apply List.ext_getElem?;intro i;rw[zR,zR];split
 .exact h _ V1
 rfl
def LK (h:c.Ok){a:Zd}(d:Wd c W)(g:b8 c.X+b8 c.T<=b8 a)(b:b8 a<=max (b9 c.R) (b9 c.Q)):fH c W<|ye c W a:=by
 have⟨o,e,p⟩:=nb h d g b;unfold ye;refine fH.put h (fH.put h (fH.put h (fH.refl W) d V1 ?_) o V1 ?_) e V1 ?_
 .exact b
 .rw[cV];exact Nat.min_le_left _ _
 rw[pJ,fj (n:=b8 c.T)<|e.in' h (i:=6) V1];exact cW _
def G8 (h:c.Ok)(b:Wd c W)(e:b8 x=b8 c.X):fH c W<|Ic c W x:=by
 have n:=h.num;have v:=n.R;have u:=n.Q;have q:=n.xtQ;have z:=n.x;have y:=n.m;have⟨p,d,g⟩:=zx h b e;have⟨o,A⟩:=Ci h b e;have⟨_,r2,r3⟩:=pV h.pk d (a:=fill c.Q [1]) (t:=(lossR c W x).2.1) (iA V4) (bB g.symm) V1;exact(fH.put h (fH.refl W) b (i:=3) V1<|bB d).trans<|LK h o V1 V1
def R4 (h:c.Ok)(b:Wd c W)(d:b8 r=b9 c.R)(e:b8 t=c.fl.n):fH c W<|MI c W r t:=by
 have n:=h.num;have q:=n.R;have p:=n.xtR;have v:=n.x;have u:=n.n;have⟨g,o⟩:=HF h b d e;have⟨_,r2,r3⟩:=pV h.pl d g (bB e.symm) V1;exact LK h b V1 V1
def N8 (h:c.Ok)(b:Wd c W)(p:Int):fH c W<|put W (c.off 2) (stepR c W p).1:=
 fH.put h (fH.refl W) b (i:=2) V1 (bB (jc h b p).2.1)
def Kb (h:c.Ok)(b:Wd c W)(p:Int):fH c W (Ye c W p)/\Wd c (Ye c W p):=by
 have⟨o,d,e⟩:=jc h b p;have g:=xD h b p;exact⟨(N8 h b p).trans<|R4 h g d e,(HF h g d e).2⟩
def Yn (h:c.Ok)(b:Wd c W)(p:Int):b8 ((stepR c W p).1.take<|b8 c.X)=b8 c.X:=by
 have n:=h.num;have q:=n.R;have o:=n.xtR;have⟨d,e,g⟩:=jc h b p;rw[cV];omega
def G7 (h:c.Ok)(b:Wd c W)(p:Int):fH c W (NI c W p)/\Wd c (NI c W p):=by
 have⟨u,d,e⟩:=jc h b p;have o:=xD h b p;have g:=Yn h b p;have q:=(Ci h o g).2;exact⟨((N8 h b p).trans<|G8 h o g).trans<|R4 h q d e,(HF h q d e).2⟩
def ad7 (h:c.Ok)(b:Wd c W)(p:Int):fH c W<|adv1 c W p:=by
 have⟨_,d⟩:=Ej h b p;have⟨e,g⟩:=Ps h b p;refine fH.put h (fH.put h (fH.refl W) b (i:=2) V1<|bB d) e (i:=1) V1 ?_;rw[cV];exact Nat.min_le_left _ _
def Ka (h:c.Ok){W:Zd}(b:Wd c W)(p:Int): ∀i,fH c W (advW c W p i)
 |0=>fH.refl W
 |i+1=>(Ka h b p i).trans<|ad7 h (JY h b p i) _
theorem DV {P P':Nat->Bool}{k:Nat}: ∀{n:Nat},k<n->P k=Zb->P' k=Za->(∀j,j<n->j≠k->P' j=P j)->(bD n).countP P'=(bD n).countP P+1
 |n+1,u,o,p,g=>by
  rw[List.range_succ,cX,cX];by_cases d:k=n
  .subst d
   have e:(bD k).countP P'=(bD k).countP P:=List.countP_congr λj q=>by
    grind
   rw[e];simp[o,p]
  .rw[DV (n:=n) V1 o p λj q b=>g j V1 b]
   grind
def WM (h:j<k):sp c j+(b8 c.X+1)<=sp c k:=by
 have b:(j+1)*(b8 c.X+1)<=k*(b8 c.X+1):=Nat.mul_le_mul_right _ h;rw[Nat.succ_mul]at b;unfold sp;omega
def Ko (b:sp c k+b8 w<=b8 W)(e:b8 w=b8 c.X+1)(d:j≠k):jg c (put W (sp c k) w) j=jg c W j:=by
 unfold jg rg;rw[cD,aD,aD,al3 b];rcases Nat.lt_or_ge j k with h|h
 .exact .inl (by have:=WM (c:=c) h;omega)
 exact .inr (by have:=WM (c:=c) (show k<j by omega);omega)
def xp (b:sp c k+b8 w<=b8 W)(d:b8 w=b8 c.X+1):jg c (put W (sp c k) w) k=w.getD 0 0:=by
 unfold jg rg;rw[cD,aD,aD,Hq b,zE ⟨cW _,V1⟩,Nat.sub_self]
def D4 {b:Dy}(hi:Inv c s)(v:Wd c b.W)(u:fH c s.W b.W)(g:b.L=s.L)(y:0<=b.p/\b.p<=s.L)(z: -1<=b.q/\b.q<=s.L)(d:b.lv=s.lv)(e:s.pk<=b.pk/\b.pk<=c.words):Inv c b:=
 ⟨v,by rw[g];exact hi.L,by rw[g];exact y,by rw[g];exact z,λk o=>by rw[u.tag,g];exact hi.tag k o,by rw[d,u.used];exact hi.lv,by rw[d];exact⟨Int.le_trans hi.pk.1 e.1,e.2⟩⟩
theorem av5 (h:c.Ok)(C:c.mode≠3)(hi:Inv c s)(a n:Int):Inv c (CU c a n s).2:=by
 have U:=h.num;have o:=hi.w;have hL:=hi.L;have A:=hi.p;have H:=hi.q;have D:=hi.pk;have hns:=h.ns;have nx:=U.x;have⟨g1,g2,g3,g4⟩:=Kc h hi;have M:=U.tp;rw[zF C]at M;have K:=U.sl;rw[zF C]at K;have S:b8 (seg s.W (c.off 1)<|b8 c.X)=b8 c.X:=fj<|o.in' h (i:=1) V1;unfold CU;by_cases I:lD a n=Zb∨7<a
 .rw[zE I];exact hi
 rw[zF I];have⟨V,hk⟩:=CB I;by_cases Y:(2<=a/\a<=4)/\c.ns<=n
 .rw[zE Y];exact hi
 rw[zF Y]
 have y:(2<=a/\a<=4)->b9 n<b9 c.ns:=λhs=>by
  have hn:=CC V ⟨V1,hs.2⟩;omega
 rcases hk with rfl|rfl|rfl|rfl|rfl|rfl|rfl
 .have hn:=CC V V1;simp only[aB,reduceIte];by_cases d:s.L-s.p<n
  .rw[zE d];exact hi
  rw[zF d];exact D4 hi (JY h o _ _) (Ka h o _ _) rfl ⟨by show 0<=s.p+n;omega,by show s.p+n<=s.L;omega⟩ H rfl ⟨Int.le_refl _,D.2⟩
 .have b:=y V1;simp only[aB,reduceIte];by_cases d:0<=jg c s.W (b9 n)-1
  .rw[zE d];exact hi
  rw[zF d];generalize b9 n=k at*;have⟨s1,s2,s3⟩:=sd h C b;have⟨t1,t2⟩:=o.tk h;have E:=hi.tag k b;have F:b8 (zH zJ (zH zI<|s.p+1)::seg s.W (c.off 1) (b8 c.X))=b8 c.X+1:=by simp[S]
  have e:=xp (c:=c) (W:=s.W) (k:=k) (w:=zH zJ (zH zI<|s.p+1)::seg s.W (c.off 1) (b8 c.X)) V1 F
  have Q:(zH zJ (zH zI<|s.p+1)::seg s.W (c.off 1) (b8 c.X)).getD 0 0=s.p+1:=by
   show zH zJ (zH zI<|s.p+1)=_;rw[Zi,Zj]
  rw[Q]at e;have g: ∀j,j≠k->jg c (put s.W (sp c k)<|zH zJ (zH zI<|s.p+1)::seg s.W (c.off 1) (b8 c.X)) j=jg c s.W j:=λj u=>Ko V1 F u
  have J:=Og h hi (N2 b V1)
  have N:oE c (put s.W (sp c k)<|zH zJ (zH zI<|s.p+1)::seg s.W (c.off 1) (b8 c.X))=oE c s.W+1:=by
   unfold oE;exact DV b (zA V1) (zB (by rw[e];omega)) λj _ u=>by rw[g j u]
  refine⟨o.put h V1,hL,A,H,λj u=> ?_, ?_, ?_⟩
  .by_cases v:j=k
   .subst v;rw[e];show 0<=s.p+1/\s.p+1<=s.L+1;omega
   rw[g j v];exact hi.tag j u
  .show s.lv+c.sl=c.fixed+c.sl*((oE c (put s.W (sp c k) _):Nat):Int);rw[N,hi.lv]
   grind
  grind
 .have b:=y V1;simp only[aB,reduceIte];by_cases d:jg c s.W (b9 n)-1<0
  .rw[zE d];exact hi
  rw[zF d];have⟨s1,s2,s3⟩:=sd h C b;have⟨t1,t2⟩:=o.tk h;have E:=hi.tag _ b;have l2:b8 (seg s.W (sp c (b9 n)+1)<|b8 c.X)=b8 c.X:=fj V1;have h1o:=gS (c:=c) (i:=1) (j:=9) V1;have z1:c.sz 1=b8 c.X:=rfl;exact D4 hi (o.put h (by rw[l2];omega)) (fH.put h (fH.refl s.W) o (i:=1) V1 (by rw[l2];exact cW _)) rfl ⟨by show 0<=jg c s.W (b9 n)-1;omega,by show jg c s.W (b9 n)-1<=s.L;omega⟩ H rfl ⟨Int.le_refl _,D.2⟩
 .have b:=y V1;simp only[aB,reduceIte];by_cases d:jg c s.W (b9 n)-1<0
  .rw[zE d];exact hi
  rw[zF d];generalize b9 n=k at*;have⟨s1,s2,s3⟩:=sd h C b;have⟨t1,t2⟩:=o.tk h;have E:=hi.tag k b;have F:b8 (zeros<|b8 c.X+1)=b8 c.X+1:=bw _;have e:=xp (c:=c) (W:=s.W) (k:=k) (w:=zeros<|b8 c.X+1) V1 F;have Q:(zeros<|b8 c.X+1).getD 0 0=0:=rfl;rw[Q]at e;have g: ∀j,j≠k->jg c (put s.W (sp c k)<|zeros<|b8 c.X+1) j=jg c s.W j:=λj u=>Ko V1 F u
  have N:oE c s.W=oE c (put s.W (sp c k)<|zeros<|b8 c.X+1)+1:=by
   unfold oE;exact DV b (zA V1) (zB V1) λj _ u=>by rw[g j u]
  refine⟨o.put h V1,hL,A,H,λj u=> ?_, ?_, ?_⟩
  .by_cases v:j=k
   .subst v;rw[e];show(0:Int)<=0/\0<=s.L+1;omega
   rw[g j v];exact hi.tag j u
  .show s.lv-c.sl=c.fixed+c.sl*((oE c (put s.W (sp c k)<|zeros<|b8 c.X+1):Nat):Int);rw[hi.lv,N]
   grind
  grind
 .simp only[aB,reduceIte];by_cases d:s.q≠ -1
  .rw[zE d];exact hi
  rw[zF d];by_cases z:s.p≠s.L
  .rw[zE z];exact hi
  rw[zF z];exact D4 hi (Ci h o S).2 (G8 h o S) rfl A ⟨by show-1<=s.p;omega,A.2⟩ rfl ⟨cB _ _,by show max s.pk (s.lv+(c.fk.n:Int))<=c.words;omega⟩
 .simp only[aB,reduceIte];by_cases d:s.q≠ -1
  .rw[zE d];exact hi
  rw[zF d];by_cases z:s.p≠s.L-1
  .rw[zE z];exact hi
  rw[zF z];exact D4 hi (G7 h o s.p).2 (G7 h o s.p).1 rfl A ⟨by show-1<=s.p;omega,A.2⟩ rfl ⟨cB _ _,by show max s.pk (s.lv+((c.fl.n:Int)+c.fk.n))<=c.words;omega⟩
 simp only[aB,reduceIte];by_cases d:s.q<=0
 .rw[zE d];exact hi
 rw[zF d];by_cases z:s.p≠s.q-1
 .rw[zE z];exact hi
 rw[zF z];exact D4 hi (Kb h o s.p).2 (Kb h o s.p).1 rfl A ⟨by show-1<=s.p;omega,A.2⟩ rfl ⟨cB _ _,by show max s.pk (s.lv+(c.fl.n:Int))<=c.words;omega⟩
theorem av4 (e:Gq B s)(a n:Int):Gq (B+65536) (CU c a n s).2:=by
 have b:Gq (B+65536) s:=by unfold Gq at e⊢;omega
 unfold CU;by_cases d:lD a n=Zb∨7<a
 .rw[zE d];exact b
 rw[zF d];obtain⟨g,o⟩:=CB d;split
 .exact b
 split
 .rename_i ha;have p:=CC g (by omega);split
  .exact b
  unfold Gq at e⊢;simp only;omega
 repeat' split
 all_goals first|exact b|(unfold Gq at e⊢;simp only;omega)
end
end
section
def W4 (h:j<b8 t):(t++r)[0+j]?=O (rg t (j:Int)):=by
 rw[Nat.zero_add,List.getElem?_append_left h,jd h]
def HX (h:j<b8 r):(t++r)[b8 t+j]?=O (rg r (j:Int)):=by
 rw[List.getElem?_append_right (Nat.le_add_right _ _),Nat.add_sub_cancel_left,jd h]
theorem W5 {v:Int}:(t++r).set (b8 t+j) v=t++r.set j v:=by
 grind
def stK (t:Zd)(p d:Nat)(l:Nat->Int)(s:BS):Int×Int×Int×Zd×Zd×Int×Int×Int×Int×Int×Int×Int×Int:=
 ((p:Int)-1,(d:Int),(s.2.2:Int),t++s.1,s.2.1,l 0,l 1,l 2,l 3,l 4,l 5,l 6,l 7)
def aL9 {code:List tS}(A:code.length<=8192){R:Int}(hR:1<=R/\R<=64){e0 e1:Int}(hN:t.length<=1000000)(hw:w.length=t.length+R.toNat):Backs (dq R (e0,w) (e1,code)) code (stK t) (qs t) (VdB R.toNat t.length) (PZ R.toNat)where
 op:=by
  intro p d l s m o z h Y y b D;obtain⟨F,u⟩:=jh A h;obtain⟨v1,v2,v3,v4⟩:=D;obtain⟨q1,q2⟩:=Hn o s.1 s.2.1<|rg t ((s.2.2-1:Nat):Int);refine⟨?_,by unfold qs;exact⟨by simp[v1,q1],by simp[v2,q2],by show m<=s.2.2-1;omega,by show s.2.2-1<=_;omega⟩⟩;obtain⟨g,E,H,e1,K,L,M,N,Q⟩:=zt Y;unfold stK qs;simp only[dq];rw[show((p+1:Nat):Int)-1=(p:Int)by omega,Ze,zD,u];simp only[zG];rw[h];simp only[zG,co];rw[Ze,zD,Ze,zD];simp only[C5,zG];rw[ad (n:=(s.2.2:Int)-1) V1,show(s.2.2:Int)-1=((s.2.2-1:Nat):Int)by omega,ad (n:=(w.length:Int)-R) V1,show((w.length:Int)-R).toNat=t.length by omega,show(w.length:Int).toNat-t.length=R.toNat by omega,Nat.sub_zero];have J:s.2.2-1<t.length:=by omega
  generalize s.2.2-1=n at*;unfold Dk;simp only[e1,K,L,Int.toNat_natCast];rw[bq (show g<s.2.1.length by omega)];simp only[zG];rw[jd (show g<s.2.1.length by omega)];simp only[zG];rw[bq J];simp only[zG];rw[W4 J];simp only[zG];rw[bq M];simp only[zG];rw[HX (show g<s.1.length by omega)];simp only[zG];rw[bq N];simp only[zG];rw[W5];have C: ∀x:Int,(s.1.set g x).length=s.1.length:=by simp
  have X:(s.2.1.set g 0).length=s.2.1.length:=by simp
  rw[HX (show E<(s.1.set g<|rg t (n:Int)).length by rw[C];omega)];simp only[zG];rw[bq Q];simp only[zG];rw[HX (show H<(s.1.set g<|rg t (n:Int)).length by rw[C];omega)];simp only[zG];rw[bq (show E<(s.2.1.set g 0).length by omega)];simp only[zG];rw[jd (show E<(s.2.1.set g 0).length by omega)];simp only[zG];generalize hP:Wy o _ _=P;generalize U:(s.2.1.set g 0).set E _=A2;have V:A2.length=s.2.1.length:=by rw[<-U];simp
  rw[bq (show H<A2.length by omega)];simp only[zG];rw[jd (show H<A2.length by omega)];simp only[zG];rw[ad (n:=(p:Int)-1) V1]
 rep:=by
  intro p q d l s m o e z h y I b D;obtain⟨F,u⟩:=jh A h;obtain⟨h3,S⟩:=jh A I;unfold stK;simp only[dq];rw[show((p+1:Nat):Int)-1=(p:Int)by omega,Ze,zD,u];simp only[zG];rw[h];simp only[zG,co];rw[zB y,zC,ad (n:=((q+1:Nat):Int)-1) V1,show((q+1:Nat):Int)-1=(q:Int)by omega,S];simp only[zG];rw[I];simp only[zG,co];rw[bq b];simp only[zG];rw[ad (n:=(p:Int)-1) V1,ad (n:=(d:Int)+1) V1];rfl
 nxt:=by
  intro p d l s m o z h hto y b hl hl2 D;obtain⟨F,u⟩:=jh A h;have v:=wO (upd l d<|l d-1) b;rw[mW]at v;unfold upd at v;unfold stK;simp only[dq];rw[show((p+1:Nat):Int)-1=(p:Int)by omega,Ze,zD,u];simp only[zG];rw[h];simp only[zG,co];rw[Ze,zD,zB y,zC,ad (n:=((d+1:Nat):Int)-1) V1,show((d+1:Nat):Int)-1=(d:Int)by omega,bq b];simp only[zG];rw[wO l b,Zj,v,Zf,zC];rw[ad (n:=((z+1:Nat):Int)-2) V1,show((z+1:Nat):Int)-2=(z:Int)-1 by omega];rfl
 out:=by
  intro p d l s m o z h y b hl D;obtain⟨F,u⟩:=jh A h;have v:=wO (upd l d<|l d-1) b;rw[mW]at v;unfold upd at v;unfold stK;simp only[dq];rw[show((p+1:Nat):Int)-1=(p:Int)by omega,Ze,zD,u];simp only[zG];rw[h];simp only[zG,co];rw[Ze,zD,zB y,zC,ad (n:=((d+1:Nat):Int)-1) V1,show((d+1:Nat):Int)-1=(d:Int)by omega,bq b];simp only[zG];rw[wO l b,Zj,v,Ze,zD,ad (n:=(p:Int)-1) V1];rfl
section
variable {R:Int} {l:List cg} {f:Fo}
def UM (h:Prg R l f){a:Zd}{e0 e1:Int}(E:b8 r=b9 R)(C:b8 a=b9 R)(F:f.n<=b8 t)(g:b8 t<=1000000)(H:b8 w=b8 t+b9 R):
  ∃b0 b1 b2 b3 q u v y,aq (dq R (e0,w) (e1,f.bare.code 0)) fy (IntKind.i64.wrap<|(b8 (f.bare.code 0):Int)-1,0,(f.n:Int),t++r,a,0,0,0,0,0,0,0,0)=O (t++(jV f r a t).1,(jV f r a t).2.1,b0,b1,b2,b3,q,u,v,y):=by
 have⟨b,_,o,z⟩:=GO (m:=0) (l:=λ_=>0) (s:=((r,a,f.n):BS)) (d:=0) (p:=0) (A:=[]) (B:=[]) (K2<|aL9 (e0:=e0) (e1:=e1) (t:=t) h.clen h.R1 g H) f.bare V2 rfl (Fo.bare_ok f h.ok) f.bare_pos h.hi h.good ⟨E,C,by rw[Fo.bare_n];exact Nat.le_refl _,F⟩;rw[Fo.bare_unroll]at o z;have D:=h.clen;rw[Fo.code_len]at D
 have:=Bg o h.steps (c:=(t++(jV f r a t).1,(jV f r a t).2.1,b 0,b 1,b 2,b 3,b 4,b 5,b 6,b 7)) (by
  unfold stK;simp only[dq];rw[Zf,zC]
  rfl)
 have e:stK t (0+f.bare.len) 0 (λ_=>0) ((r,a,f.n):BS)=(IntKind.i64.wrap<|(b8 (f.bare.code 0):Int)-1,0,(f.n:Int),t++r,a,0,0,0,0,0,0,0,0):=by
  unfold stK;rw[Fo.code_len,Zi,Nat.zero_add];rfl
 rw[e]at this;exact⟨_,_,_,_,_,_,_,_,this⟩
end
end
section
open Bool renaming not_true->aB
open Int renaming mul_le_mul_of_nonneg_left->aD,toNat_of_nonneg->cB
open List renaming length_append->bB,length_take->bD
section
variable {c:Cx}
def jL (c:Cx)(i:Nat):Nat:=c.off 8+i*b9 c.sl
def oz (s:Dy):Int:=if s.q<0 then s.p else s.q
structure InvB (c:Cx)(s:Dy):Prop where
 w:Wd c s.W
 L:s.L=c.len
 p:0<=s.p/\s.p<=s.L
 q: -1<=s.q/\s.q<=s.L
 qp:0<=s.q->s.p=s.q
 lv:s.lv=c.fixed+c.sl*oz s
 pk:s.lv<=s.pk/\s.pk<=c.words
def wc (c:Cx)(W:Zd)(i:Nat):Zd:=seg W (jL c i) c.fl.n
def zP (c:Cx)(W:Zd)(i:Nat):Zd:=seg W (jL c i+c.fl.n)<|b9 c.R
def wM (c:Cx)(W:Zd)(i:Nat):BS:=jV c.fl (zP c W i) (fill c.R<|seg W (c.off 5)<|b8 c.X)<|wc c W i
def EZ (c:Cx)(a n:Int)(s:Dy):Int×Dy:=
 if a=8 then(if n≠0 then(2,s)else if 0<=s.q then(18,s)else if s.p=s.L then(17,s)else
  (0,{s with p:=s.p+1,c1:=s.c1+1,lv:=s.lv+c.sl,pk:=max s.pk<|s.lv+c.sl,W:=put (put (put s.W (c.off 2) (stepR c s.W s.p).1) (jL c<|b9 s.p)<|(stepR c s.W s.p).2.1++(stepR c s.W s.p).1) (c.off 1)<|(stepR c s.W s.p).1.take<|b8 c.X}))
 else if a=5 then(if n≠0 then(2,s)else if 0<=s.q then(18,s)else if s.p≠s.L then(17,s)else
  (0,{s with q:=s.L,c2:=s.c2+1,c3:=s.c3+1,z:=rg (lossR c s.W<|seg s.W (c.off 1)<|b8 c.X).1 0,pk:=max s.pk<|s.lv+c.fk.n,W:=Ic c s.W<|seg s.W (c.off 1)<|b8 c.X}))
 else if a=9 then(if n≠0 then(2,s)else if s.q<1 then(18,s)else
  (0,{s with p:=s.q-1,q:=s.q-1,c3:=s.c3+1,lv:=s.lv-c.sl,W:=put (ye c s.W (wM c s.W<|b9<|s.q-1).2.1) (c.off 1)<|(wM c s.W<|b9<|s.q-1).1.take<|b8 c.X}))
 else(2,s)
theorem Bn (h:c.Ok)(g:c.mode=3)(hi:i<b9 c.ns):b9 c.sl=c.fl.n+b9 c.R/\c.sl=(c.fl.n:Int)+c.R/\jL c i+b9 c.sl<=c.off 9/\c.off 8<=jL c i:=by
 have n:=h.num;have b:=n.sl;rw[zE g]at b;have o:=h.ns;have q:=n.R
 have e:b9 (c.sl*c.ns)=b9 c.ns*b9 c.sl:=by
  grind
 have p:c.off 9=c.off 8+b9 c.ns*b9 c.sl:=by rw[Sr,e]
 have d:(i+1)*b9 c.sl<=b9 c.ns*b9 c.sl:=Nat.mul_le_mul_right _ hi;rw[Nat.succ_mul]at d;unfold jL;omega
def Tg (h:c.Ok)(d:c.mode=3)(hi:i<b9 c.ns){a0 a1 a4 a5 a6 a7 a8 a9 a10 a11 a12 a13 a14 a15 a16 a17:Int}{X T:Zd}{k:List cg}{b0 b1 b2 b3:Int}:jD (i:Int) a0 a1 c.sl a4 a5 a6 a7 a8 a9 a10 a11 a12 a13 a14 a15 a16 a17 X T l k c.P b0 b1 b2 b3 W=O (jL c i:Int):=by
 have⟨g,o,b,p⟩:=Bn h d hi;have q:=h.off9_le;have n:=h.num;have u:=n.words;have v:=n.R;unfold jD;rw[show ix 8 (b8 c.P)=O 8 from bq (k:=8) aP,zG,Cx.P_get (show 8<10 by omega),zG];have e:(i:Int)*c.sl=((i*b9 c.sl:Nat):Int):=by rw[Int.natCast_mul,cB V1]
 unfold jL at b;rw[e,ad (n:=((i*b9 c.sl:Nat):Int)) V1,Zi];unfold jL
 congr 1
theorem ae7 (h:c.Ok)(g:c.mode=3)(hi:InvB c s):0<=s.lv/\s.lv+c.tp<=c.words/\c.words<=1048576/\0<=c.tp/\(oz s<c.ns->s.lv+c.sl<=c.words)/\(0<oz s->c.sl<=s.lv)/\c.ns=s.L:=by
 have n:=h.num;have y:=hi.lv;have z:=h.fit;have A:=n.fixed;have C:=h.ns;have u:=n.sl;rw[zE g]at u;have M:=n.R;have K:=n.Q;have N:=n.words;have H:=h.base g;have F:=hi.L;have I:=hi.p;have J:=hi.q;have e:0<=oz s/\oz s<=c.ns:=by unfold oz;split<;>omega
 have D:1<=c.sl:=by omega
 have d:c.sl*oz s<=c.sl*c.ns:=aD e.2 V1;have E:0<=c.sl*oz s:=Int.mul_nonneg V1 e.1;have b:0<=c.tp:=by rw[n.tp];split<;>omega
 refine⟨V1,V1,V1,b,λv=> ?_,λo=> ?_,V1⟩
 .have d:c.sl*(oz s+1)<=c.sl*c.ns:=aD V1 V1
  grind
 have d:c.sl*1<=c.sl*oz s:=aD V1 V1;omega
theorem I6 (h:c.Ok)(p:c.mode=3)(g:Wd c W)(hi:i<b9 c.ns):
  seg W (jL c i) (b9 c.sl)=wc c W i++zP c W i/\b8 (wc c W i)=c.fl.n/\b8 (zP c W i)=b9 c.R/\b8 (fill c.R<|seg W (c.off 5)<|b8 c.X)=b9 c.R/\b8 (wM c W i).1=b9 c.R/\b8 (wM c W i).2.1=b9 c.R:=by
 have⟨q,u,v,y⟩:=Bn h p hi;have⟨E,F⟩:=g.tk h;have n:=h.num;have C:=n.R;have A:=n.xtR;have D:=n.n;have z:b8 (seg W (c.off 5)<|b8 c.X)=b8 c.X:=fj<|g.in' h (i:=5) V1;have b:b8 (wc c W i)=c.fl.n:=fj V1;have d:b8 (zP c W i)=b9 c.R:=fj V1;have e:b8 (fill c.R<|seg W (c.off 5)<|b8 c.X)=b9 c.R:=iA V1;have⟨_,r2,r3⟩:=pV h.pl d e (t:=wc c W i) (Nat.le_of_eq b.symm) V1;refine⟨?_,b,d,e,r2,r3⟩;apply List.ext_getElem?;intro j;rw[zR];by_cases o:j<c.fl.n
 .rw[Zg,List.getElem?_append_left V1];unfold wc;rw[zR,zE o]
 .rw[List.getElem?_append_right V1,b];unfold zP;rw[zR]
  grind
def plain1 (h:c.Ok)(F:c.mode=3)(hi:InvB c s)(hc:Gq B s)(hB:B<=2305843009213693952){n:Int}:
  lK a n c.fixed c.tp c.sl c.ns c.mode c.R c.Q c.len c.words s.L s.p s.q s.c0 s.c1 s.c2 s.c3 s.z c.X c.T c.l c.k c.P c.tk s.lv s.pk c.words s.W=O (aN1 c<|EZ c a n s):=by
 have H:=h.num;have C:=hi.w;have hL:=hi.L;have hp:=hi.p;have hq:=hi.q;have J:=hi.pk;have hns:=h.ns;have nR:=H.R;have n1:=H.xtR;have nx:=H.x;have nt:=H.t;have nn:=H.n;have nlen:=H.len;obtain⟨k0,k1,k2,k3⟩:=hc.in' hB;obtain⟨g1,g2,g3,g4,g5,g6,g7⟩:=ae7 h F hi;have Y:=H.tp;rw[zE F]at Y;obtain⟨t1,t2⟩:=C.tk h;unfold lK EZ;by_cases a8:a=8
 .subst a8;rw[zB (show(8:Int)=8 from rfl),zA (show¬(8:Int)=5 by decide)];simp only[zC,zG,aB,zD,reduceIte];by_cases d:n≠0
  .rw[zE d,zB d];rfl
  rw[zF d,zA d];simp only[zD,zG];by_cases b:0<=s.q
  .rw[zE b,zB b];rfl
  rw[zF b,zA b];simp only[zD,zG];by_cases e:s.p=s.L
  .rw[zE e,zB e];rfl
  rw[zF e,zA e];simp only[BEq.rfl,aB,zD,zG,di];have v:oz s=s.p:=by unfold oz;rw[Zg]
  have y:s.p.toNat<c.ns.toNat:=by omega
  have M:s.p=((s.p.toNat:Nat):Int):=by omega
  obtain⟨s1,s2,K,s4⟩:=Bn h F y;obtain⟨f1,f2,f3⟩:=jc h C s.p;have w1:=xD h C s.p;have N:=g5 (by rw[v];omega);rw[pQ V1 g1 N V1];simp only[zG];rw[aU0 h C];simp only[zG];have A:=Tg h F y (a0:=c.fixed) (a1:=c.tp) (a4:=c.ns) (a5:=c.mode) (a6:=c.R) (a7:=c.Q) (a8:=c.len) (a9:=c.words) (a10:=s.L) (a11:=s.p) (a12:=s.q) (a13:=s.c0) (a14:=IntKind.i64.wrap<|s.c1+1) (a15:=s.c2) (a16:=s.c3) (a17:=s.z) (X:=c.X) (T:=c.T) (l:=c.l) (k:=c.k) (b0:=c.tk) (b1:=s.lv+c.sl) (b2:=max s.pk<|s.lv+c.sl) (b3:=c.words) (W:=put s.W (c.off 2) (stepR c s.W s.p).1);rw[<-M]at A;rw[A];simp only[zG];have I:((stepR c s.W s.p).2.1++(stepR c s.W s.p).1).length=c.sl.toNat:=by rw[bB];omega
  rw[bu V1 V1];obtain⟨u1,u2⟩:=w1.tk h;unfold Cx.tk;rw[rQ (by rw[I];exact K) u1 u2];simp only[zG];rw[Zk,dj,show(c.X.length:Int).toNat-0=c.X.length by omega,List.drop_zero,show((c.off 9:Nat):Int)=c.tk from rfl,put1 (ii:=1) (i:=1) h (w1.put h (by rw[I];exact K)) rfl V1 ZP];simp only[zG];rw[ad (n:=s.p+1) V1,ad (n:=s.c1+1) V1];rfl
 rw[zA a8,zF a8];simp only[zD,zG];by_cases a5:a=5
 .subst a5;rw[zB (show(5:Int)=5 from rfl)];simp only[zC,aB,zD,reduceIte];by_cases d:n≠0
  .rw[zE d,zB d];rfl
  rw[zF d,zA d];simp only[zD,zG];by_cases b:0<=s.q
  .rw[zE b,zB b];rfl
  rw[zF b,zA b];simp only[zD,zG];by_cases e:s.p≠s.L
  .rw[zE e,zA e];rfl
  rw[zF e,zB (show s.p=s.L by omega)];simp only[BEq.rfl,aB,zD,zG,di];rw[bc1 h C g1 J.1 V1 g3];simp only[zG];rw[ad (n:=s.c2+1) V1,ad (n:=s.c3+1) V1];rfl
 rw[zA a5,zF a5];simp only[zD,Bool.not_false,zC];by_cases a9:a=9
 .subst a9;rw[zA (show¬((9:Int)≠9)from λk=>k rfl)];simp only[reduceIte];by_cases d:n≠0
  .rw[zE d,zB d];rfl
  rw[zF d,zA d];simp only[zD,zG];by_cases D:s.q<1
  .rw[zE D,zB D];rfl
  rw[zF D,zA D];simp only[zD,zG,di];have v:oz s=s.q:=by unfold oz;rw[Zh]
  have y:(s.q-1).toNat<c.ns.toNat:=by omega
  have M:s.q-1=(((s.q-1).toNat:Nat):Int):=by omega
  obtain⟨s1,s2,K,s4⟩:=Bn h F y;obtain⟨b1,b2,b3,b4,b5,b6⟩:=I6 h F C y;rw[ad (n:=s.q-1) V1];have A:=Tg h F y (a0:=c.fixed) (a1:=c.tp) (a4:=c.ns) (a5:=c.mode) (a6:=c.R) (a7:=c.Q) (a8:=c.len) (a9:=c.words) (a10:=s.L) (a11:=s.q-1) (a12:=s.q-1) (a13:=s.c0) (a14:=s.c1) (a15:=s.c2) (a16:=s.c3) (a17:=s.z) (X:=c.X) (T:=c.T) (l:=c.l) (k:=c.k) (b0:=c.tk) (b1:=s.lv) (b2:=s.pk) (b3:=c.words) (W:=s.W);rw[<-M]at A;rw[A];simp only[zG]
  have V:ge (jL c (s.q-1).toNat:Int) c.sl c.tk s.W=O (0,wc c s.W (s.q-1).toNat++zP c s.W (s.q-1).toNat):=by
   have:=B9 (W:=s.W) (o:=jL c (s.q-1).toNat) (n:=c.sl.toNat) K t1 t2;rw[cB V1,b1]at this;exact this
  rw[V];simp only[zG];generalize (s.q-1).toNat=i at*;have E:(wc c s.W i++zP c s.W i).length=c.fl.n+c.R.toNat:=by rw[bB];omega
  have hwr:IntKind.i64.wrap (((wc c s.W i++zP c s.W i).length:Int)-c.R)=(c.fl.n:Int):=by rw[E,Zi];omega
  simp only[hwr];rw[Zk,dj,Zk,dj,RV (ii:=5) (i:=5) h C rfl V1];simp only[zG];have l5:(seg s.W (c.off 5) c.X.length).length=c.X.length:=fj<|C.in' h (i:=5) V1;rw[show c.sz 5=c.X.length from rfl,Kr nR V1];simp only[zG];rw[AY h.pl,h.pl.writes];simp only[zG];rw[zA (show¬((0:Int)≠0)by simp),zD];rw[zA (show¬(((((wc c s.W i++zP c s.W i).length:Int).toNat-(c.fl.n:Int).toNat:Nat):Int)≠c.R)by omega),zD,zA (show¬(((fill c.R<|seg s.W (c.off 5) c.X.length).length:Int)≠c.R)by omega),zD,zA (show¬((((c.fl.n:Int).toNat-0:Nat):Int)<(c.fl.n:Int))by omega),zD];obtain⟨z0,z1,z2,z3,z4,z5,z6,z7,hz⟩:=UM h.pl (e0:=0) (e1:=0) (t:=wc c s.W i) (r:=zP c s.W i) (a:=fill c.R<|seg s.W (c.off 5) c.X.length) (w:=wc c s.W i++zP c s.W i) b3 b4 (Nat.le_of_eq b2.symm) V1 (by rw[E,b2])
  rw[hz];simp only[zG];have eK:jV c.fl (zP c s.W i) (fill c.R<|seg s.W (c.off 5) c.X.length) (wc c s.W i)=wM c s.W i:=rfl;rw[eK];generalize wM c s.W i=u at*;obtain⟨v1,v2,v3⟩:=nb h (a:=u.2.1) C V1 V1;rw[put1 (ii:=4) (i:=4) h C rfl V1 V8];simp only[zG];rw[Zk,dj,show(c.X.length:Int).toNat-0=c.X.length by omega,List.drop_zero,put1 (ii:=5) (i:=5) h v1 rfl V1 (by rw[bD,show c.sz 5=c.X.length from rfl];omega)];simp only[zG];rw[RV (ii:=6) (i:=6) h v2 rfl V1];simp only[zG];rw[show c.sz 6=c.T.length from rfl];have hg:(seg (put (put s.W (c.off 4) u.2.1) (c.off 5)<|u.2.1.take c.X.length) (c.off 6) c.T.length).length=c.T.length:=fj<|v2.in' h (i:=6) V1;rw[GK (f:=cq c.X u.2.1 _) (X:=c.X) (a:=u.2.1) (g:=seg (put (put s.W (c.off 4) u.2.1) (c.off 5)<|u.2.1.take c.X.length) (c.off 6) c.T.length) V1 V1 V1<|λs=>rfl]
  simp only[zG];rw[put1 (ii:=6) (i:=6) h v2 rfl V1 (by rw[pJ,hg];exact Nat.le_refl _)];simp only[zG];have U:(wc c s.W i++u.1).length=c.fl.n+c.R.toNat:=by rw[bB];omega
  rw[ad (n:=(c.fl.n:Int)+(c.X.length:Int)) V1,Zk,dj,show((c.fl.n:Int)+(c.X.length:Int)).toNat-(c.fl.n:Int).toNat=c.X.length by omega,Int.toNat_natCast];have S:(wc c s.W i++u.1).drop c.fl.n=u.1:=List.drop_left' b2;rw[S];have eB:put (put (put s.W (c.off 4) u.2.1) (c.off 5)<|u.2.1.take c.X.length) (c.off 6) (tv c.X.length (seg (put (put s.W (c.off 4) u.2.1) (c.off 5)<|u.2.1.take c.X.length) (c.off 6) c.T.length) u.2.1)=ye c s.W u.2.1:=rfl;rw[eB,put1 (ii:=1) (i:=1) h v3 rfl V1 ZP];simp only[zG];rw[uB V1 (g6 (by rw[v];omega)) J.1 V1];simp only[zG];rw[ad (n:=s.c3+1) V1];rfl
 rw[zF a9,zB a9];by_cases d:n≠0
 .rw[zB d];rfl
 .rw[zA d];rfl
def do1 (h:c.Ok)(b:c.mode=3)(hi:InvB c s)(e:Gq B s)(d:B<=2305843009213693952){n:Int}:
  oW a n c.fixed c.tp c.sl c.ns c.mode c.R c.Q c.len c.words s.L s.p s.q s.c0 s.c1 s.c2 s.c3 s.z c.X c.T c.l c.k c.P c.tk s.lv s.pk c.words s.W=O (aN1 c<|EZ c a n s):=by
 unfold oW gC;simp only[zG];rw[zB b,zC,plain1 h b hi e d];rfl
end
end
section
open Int renaming le_refl->aB
open Nat renaming le_refl->aD,zero_add->bB
theorem X9 {m:Int}{x t:Nat}{R:Int}{Q:Int}{k:List cg}{n b:Int}(o:OpsOk l)(g:OpsOk k)(h:(ng m x t R l Q k n b).2.2.2.2=0):
  Ax m x t R l Q k n b=0/\∃e,ng m x t R l Q k n b=(vM x t R Q,tM m l k,tL m x R l,e,0)/\(0<=e/\e<=1048576)/\vM x t R Q+tM m l k+tL m x R l*e<=b/\(m=3->e=n):=by
 unfold ng at h⊢;by_cases d:Ax m x t R l Q k n b≠0
 .grind
 rw[zF d]at h⊢;have d:Ax m x t R l Q k n b=0:=by omega
 have s:=Qp o g d;have f:=LF o g d;have y:=f.mode;have z:=f.len;have A:=f.bud;have C:=s.xs;have D:=s.ts;have E:=s.r;have F:=s.r';have H:=s.tp;have I:=s.sl;have v:0<=vM x t R Q/\vM x t R Q<=1000:=by unfold vM;omega
 split at h
 .cases h
 rename_i c;rw[zF c];refine⟨d,_,rfl, ?_, ?_,λp=>zE p⟩
 .split
  .omega
  .rename_i c3;unfold least at c;rw[zF c3]at c;have u:(b-vM x t R Q-tM m l k) / tL m x R l<=b-vM x t R Q-tM m l k:=Int.ediv_le_self _ V1;have q:0<=(b-vM x t R Q-tM m l k) / tL m x R l:=Int.ediv_nonneg V1 V1;omega
 .unfold least at c;split
  .rename_i c3
   grind
  .rename_i c3;rw[zF c3]at c;have:=Int.mul_ediv_self_le (x:=b-vM x t R Q-tM m l k) (k:=tL m x R l) V1;omega
def bm6 {m:Int}{X T:Zd}{R:Int}{Q:Int}{k:List cg}{n b:Int}(o:OpsOk l)(g:OpsOk k)(h:(ng m (b8 X) (b8 T) R l Q k n b).2.2.2.2=0):
  ∃c:Cx,c.Ok/\c.mode=m/\c.X=X/\c.T=T/\c.R=R/\c.l=l/\c.Q=Q/\c.k=k/\c.len=n/\c.words=b/\ng m (b8 X) (b8 T) R l Q k n b=(c.fixed,c.tp,c.sl,c.ns,0):=by
 have⟨p,ns,v,y,z,A⟩:=X9 o g h;have⟨C,D⟩:=X7 (EO p).1;have⟨u,e⟩:=aj7 o C;have⟨q,d⟩:=aj7 g D;exact⟨⟨m,R,Q,n,b,X,T,l,k,u,q,vM (b8 X) (b8 T) R Q,tM m l k,tL m (b8 X) R l,ns⟩,⟨o,g,p,e,d,rfl,rfl,rfl,y,z,A⟩,rfl,rfl,rfl,rfl,rfl,rfl,rfl,rfl,rfl,v⟩
section
variable {c:Cx}
def Cx.Ok.plan (h:c.Ok):ng c.mode (b8 c.X) (b8 c.T) c.R c.l c.Q c.k c.len c.words=(c.fixed,c.tp,c.sl,c.ns,0)->kH c.mode c.X c.T c.R c.l c.Q c.k c.len c.words=O (c.fixed,c.tp,c.sl,c.ns,0):=λe=>by
 rw[E0 h.hl h.hk,e]
def aD3 (h:c.Ok): ∀i,i<10->pre [((b8 c.T:Nat):Int),((b8 c.X:Nat):Int),c.R,c.Q,max c.R c.Q,((b8 c.X:Nat):Int),((b8 c.T:Nat):Int),c.tp,c.sl*c.ns] i=(c.off i:Int):=by
 have n:=h.num;have o:=n.R;have g:=n.Q;have p:=n.mul;have d:0<=c.tp:=by rw[n.tp];split<;>omega
 have b: ∀i,i<9->([((b8 c.T:Nat):Int),((b8 c.X:Nat):Int),c.R,c.Q,max c.R c.Q,((b8 c.X:Nat):Int),((b8 c.T:Nat):Int),c.tp,c.sl*c.ns]:Zd).getD i 0=(c.sz i:Int):=λi hi=>by
  rcases(show i=0∨i=1∨i=2∨i=3∨i=4∨i=5∨i=6∨i=7∨i=8 by omega)with rfl|rfl|rfl|rfl|rfl|rfl|rfl|rfl|rfl
  .rfl
  .rfl
  .show c.R=(b9 c.R:Int);omega
  .show c.Q=(b9 c.Q:Int);omega
  .show max c.R c.Q=((max (b9 c.R) (b9 c.Q):Nat):Int);omega
  .rfl
  .rfl
  .show c.tp=(b9 c.tp:Int);omega
  show c.sl*c.ns=(b9 (c.sl*c.ns):Int);omega
 intro i;induction i with
 |zero=>intro _;rfl
 |succ i e=>
  intro hi;simp only[pre];rw[e V1,b i V1];rfl
def UL (h:c.Ok)(e:ng c.mode c.X.length c.T.length c.R c.l c.Q c.k c.len c.words=(c.fixed,c.tp,c.sl,c.ns,0)):uS c.mode c.X c.T c.R c.l c.Q c.k c.len c.words=O (0,c.P):=by
 have s:=Qp h.hl h.hk h.hc;have d:SFacts c.X.length c.T.length c.R c.Q c.tp c.sl:=by rw[h.tp,h.sl];exact s
 unfold uS;rw[h.plan e];simp only[zG];rw[zA V2,zD,Ma h.hl h.hk h.hc];simp only[zG];have b:=UW (n:=c.ns) d h.ns;rw[<-h.tp,<-h.sl,SE b];simp only[zG]
 congr 2
 unfold Cx.P;apply List.map_congr_left;intro i hi;exact aD3 h i<|aH.1 hi
def NP (h:b8 l<=4096):dv l=O l:=by
 unfold dv;rw[bu V1 V1]
def Ja {l:Zd}(h:b8 l<=1048576):ak l=O l:=by
 unfold ak;rw[bu V1 V1]
def SF (h:c.Ok)(e:ng c.mode (b8 c.X) (b8 c.T) c.R c.l c.Q c.k c.len c.words=(c.fixed,c.tp,c.sl,c.ns,0)):
  uP c.mode c.X c.T c.R c.l c.Q c.k c.len c.words=O (.inr (c.fixed,c.tp,c.sl,c.ns,c.mode,c.R,c.Q,c.len,c.words,c.len,c.X,c.T,c.l,c.k,c.P)):=by
 have n:=h.num;have d:=n.x;have b:=n.t;unfold uP;rw[h.plan e,zG,zA V2,zD,NP h.hl.len,NP h.hk.len,Ja V1,Ja V1,zG,UL h e];rfl
def P5 (c:Cx)(W:Zd):Zd:=put (put W (c.off 0) c.T) (c.off 1) c.X
def new1 (c:Cx):Dy:=⟨c.len,0,-1,0,0,0,0,0,c.fixed,c.fixed,P5 c<|zeros<|b9 c.words⟩
def new2 (c:Cx):Dy:=⟨c.len,0,-1,0,0,0,0,0,c.fixed,c.fixed,P5 c<|put (zeros<|b9 c.words) (c.off 8)<|zeros<|b9<|c.sl*c.ns⟩
def Bq :Wd c<|zeros<|b9 c.words:=bw _
def DY (h:c.Ok):0<=c.fixed/\c.fixed<=c.words/\1<=c.fixed/\c.fixed=(c.off 7:Int):=by
 have n:=h.num;have o:=n.R;have g:=n.Q;have d:=n.fixed;have p:=n.mul;have e:=h.fit;have b:0<=c.tp:=by rw[n.tp];split<;>omega
 refine⟨V1,V1,V1, ?_⟩;rw[bb3,d];omega
def Hi (h:c.Ok)(d:Wd c W):Wd c (put W (c.off 0) c.T)/\Wd c (P5 c W)/\fH c W (P5 c W):=by
 have q:=gS (c:=c) (i:=0) (j:=9) V1;have u:=gS (c:=c) (i:=1) (j:=9) V1;have g:c.sz 0=b8 c.T:=rfl;have p:c.sz 1=b8 c.X:=rfl;have b:=d.put h (w:=c.T) (o:=c.off 0) V1;have e:=b.put h (w:=c.X) (o:=c.off 1) V1;exact⟨b,e,fH.put h (fH.put h (fH.refl W) d (i:=0) V1<|Nat.le_of_eq g.symm) b (i:=1) V1<|Nat.le_of_eq p.symm⟩
def ND (h:c.Ok):vl c.words=O (zeros<|b9 c.words):=by
 have f:=DY h;have n:=h.num;have b:=n.words;unfold vl zY;rw[Ze,zD,Ze,zD,zG,zA V2,zD,XE V1];rfl
def Oh (h:c.Ok):yX c.words=O (0,0,c.words):=by
 have n:=h.num;have b:=n.words;unfold yX FI;rw[zA (show¬(0:Int)<0 by omega),zA (show¬c.words<0 by omega)];rfl
def Kp {o n:Nat}(h:o+n<=b8 W)(b:b8 W<=1048576):gh (n:Int) (o:Int) W=O ((o:Int),0,((o+n:Nat):Int)):=by
 unfold gh rk;rw[Ze,zD,zG,ad (n:=(b8 W:Int)-o) V1,Ze,zD,ad (n:=(o:Int)+n) V1]
 congr 2
def bk4 (h:c.Ok)(u:c.mode=3)(e:ng c.mode c.X.length c.T.length c.R c.l c.Q c.k c.len c.words=(c.fixed,c.tp,c.sl,c.ns,0)):
  rE c.mode c.X c.T c.R c.l c.Q c.k c.len c.words=O (.inr<|.inl (c.fixed,c.tp,c.sl,c.ns,c.mode,c.R,c.Q,c.len,c.words,c.len,c.X,c.T,c.l,c.k,c.P,c.tk,c.fixed,c.fixed,c.words,(new1 c).W)):=by
 have f:=DY h;have n:=h.num;have A:=n.words;have z:=n.mul;have y:=h.off9_le;have q:c.off 9=c.off 8+(c.sl*c.ns).toNat:=Sr;have d:(zeros c.words.toNat).length=c.words.toNat:=bw _;obtain⟨v,C,D⟩:=Hi h<|Bq (c:=c);unfold rE;rw[SF h e];simp only[zG,di];rw[ND h,Oh h];simp only[zG];rw[pQ V1 V1 V1 V1];simp only[zG];rw[show ix 8 c.P.length=O 8 from bq (k:=8) aP];simp only[zG];rw[Cx.P_get (show 8<10 by omega)];simp only[zG];rw[show gh (c.off 8:Int) 0 (zeros c.words.toNat)=O (((0:Nat):Int),0,((0+c.off 8:Nat):Int))from Kp (o:=0) (n:=c.off 8) (by rw[bB,d];omega) V1];unfold gC;simp only[zG];rw[zB u,zC,Int.mul_comm,ad (n:=c.sl*c.ns) V1,show c.sl*c.ns=((c.sl*c.ns).toNat:Int)by omega,Kp V1 V1]
 simp only[zG,ll];have b:((0+c.off 8+(c.sl*c.ns).toNat:Nat):Int)=c.tk:=by unfold Cx.tk;omega
 rw[b,put1 (ii:=0) (i:=0) h Bq rfl V1 (aD _)];simp only[zG];rw[put1 (ii:=1) (i:=1) h v rfl V1 (aD _)];simp only[zG];have g:(0:Int)+c.fixed=c.fixed:=by omega
 have p:max (0:Int) c.fixed=c.fixed:=by omega
 rw[g,p];rfl
def aY2 (h:c.Ok)(q:c.mode≠3)(e:ng c.mode c.X.length c.T.length c.R c.l c.Q c.k c.len c.words=(c.fixed,c.tp,c.sl,c.ns,0)):
  rE c.mode c.X c.T c.R c.l c.Q c.k c.len c.words=O (.inr<|.inr (c.fixed,c.tp,c.sl,c.ns,c.mode,c.R,c.Q,c.len,c.words,c.len,c.X,c.T,c.l,c.k,c.P,c.tk,(c.off 8:Int),c.ns,(c.X.length:Int),c.fixed,c.fixed,c.words,(new2 c).W)):=by
 have f:=DY h;have n:=h.num;have E:=n.words;have D:=n.mul;have F:=n.x;have z:=h.ns;have C:=h.off9_le;have y:c.off 9=c.off 8+(c.sl*c.ns).toNat:=Sr;have p:(zeros c.words.toNat).length=c.words.toNat:=bw _;have b:=n.sl;rw[zF q]at b;have w0:Wd c<|put (zeros c.words.toNat) (c.off 8)<|zeros (c.sl*c.ns).toNat:=(Bq (c:=c)).put h Z5;obtain⟨A,H,I⟩:=Hi h w0;unfold rE;rw[SF h e];simp only[zG,di];rw[ND h,Oh h];simp only[zG];rw[pQ V1 V1 V1 V1];simp only[zG];rw[show ix 8 c.P.length=O 8 from bq (k:=8) aP];simp only[zG];rw[Cx.P_get (show 8<10 by omega)];simp only[zG];rw[show gh (c.off 8:Int) 0 (zeros c.words.toNat)=O (((0:Nat):Int),0,((0+c.off 8:Nat):Int))from Kp (o:=0) (n:=c.off 8) (by rw[bB,p];omega) V1];unfold gC
 simp only[zG];rw[zA q,zD];unfold Dr sQ gI;rw[zB (show 0<=c.ns by omega),zB (show c.ns<=1048576 by omega),zB (show 1<=(c.X.length:Int)by omega),zB (show(c.X.length:Int)<=64 by omega)];simp only[zC,zD,Bool.not_true,zG];rw[ad (n:=(c.X.length:Int)+1) V1,<-b,Int.mul_comm c.ns,ad (n:=c.sl*c.ns) V1];have d:c.sl*c.ns=(((c.sl*c.ns).toNat:Nat):Int):=by omega
 rw[show gh (c.sl*c.ns) ((0+c.off 8:Nat):Int) (zeros c.words.toNat)=O (((0+c.off 8:Nat):Int),0,((0+c.off 8+(c.sl*c.ns).toNat:Nat):Int))from by
  conv=>lhs;rw[d]
  exact Kp V1 V1]
 simp only[zG];rw[zA V2,zD,XE V1,show List.replicate (c.sl*c.ns).toNat (0:Int)=zeros (c.sl*c.ns).toNat from rfl,rQ (by rw[bw];exact aD _) V1 V1,bB];simp only[zG,di];have g:((c.off 8+(c.sl*c.ns).toNat:Nat):Int)=c.tk:=by unfold Cx.tk;omega
 rw[g,IE (ii:=0) (i:=0) h w0 rfl V1 (aD _)];simp only[zG];rw[IE (ii:=1) (i:=1) h A rfl V1 (aD _)];simp only[zG];have u:(0:Int)+c.fixed=c.fixed:=by omega
 have v:max (0:Int) c.fixed=c.fixed:=by omega
 rw[u,v];rfl
theorem am7 (n:Nat)(k:Int):rg (zeros n) k=0:=by
 unfold rg zeros
 grind
def ag8 (h:c.Ok)(d:c.mode=3):InvB c<|new1 c:=by
 have f:=DY h;have n:=h.num;have e:=n.len;refine⟨(Hi h Bq).2.1,rfl,⟨aB _,by show 0<=c.len;omega⟩,⟨by show(-1:Int)<= -1;omega,by show(-1:Int)<=c.len;omega⟩,λb=> ?_, ?_,⟨aB _,f.2.1⟩⟩
 .have b:(0:Int)<= -1:=b;omega
 show c.fixed=c.fixed+c.sl*0;omega
theorem Hh (h:c.Ok)(e:c.mode≠3)(d:k<b9 c.ns):jg c (new2 c).W k=0:=by
 have o:=h.off9_le;have p:=h.num.words;have b:c.off 9=c.off 8+b9 (c.sl*c.ns):=Sr;have w0:Wd c<|put (zeros<|b9 c.words) (c.off 8)<|zeros<|b9<|c.sl*c.ns:=(Bq (c:=c)).put h Z5;have⟨u,v,g⟩:=Hi h w0;show jg c (P5 c _) k=0;rw[g.tag];have⟨q,_,_⟩:=sd h e d;unfold jg rg;rw[Int.toNat_natCast,List.getD_eq_getElem?_getD,Hq (by rw[bw,bw];omega)];unfold zeros
 grind
def ag9 (h:c.Ok)(d:c.mode≠3):Inv c<|new2 c:=by
 have f:=DY h;have n:=h.num;have p:=n.len;have q:=n.words;have o:=h.off9_le;have e:c.off 9=c.off 8+b9 (c.sl*c.ns):=Sr;have w0:Wd c<|put (zeros<|b9 c.words) (c.off 8)<|zeros<|b9<|c.sl*c.ns:=(Bq (c:=c)).put h Z5
 have g:oE c (new2 c).W=0:=by
  unfold oE;rw[List.countP_eq_zero];intro k b;rw[Hh h d<|aH.1 b];decide
 refine⟨(Hi h w0).2.1,⟨by show 0<=c.len;omega,by show c.len<=65535;omega⟩,⟨aB _,by show 0<=c.len;omega⟩,⟨by show(-1:Int)<= -1;omega,by show(-1:Int)<=c.len;omega⟩,λk b=> ?_, ?_,⟨aB _,f.2.1⟩⟩
 .rw[Hh h d b];exact⟨aB _,by show(0:Int)<=c.len+1;omega⟩
 rw[g];show c.fixed=c.fixed+c.sl*0;omega
end
end
section
section
variable {c:Cx}
def QU (c:Cx)(s:Dy):Prop:=c.mode≠2->s.L=c.len
end
end
section
open List renaming length_take->aB
section
variable {c:Cx}
theorem aD1 (h:c.Ok)(z:c.mode=3)(hi:InvB c s)(a n:Int):InvB c (EZ c a n s).2:=by
 have A:=h.num;have y:=hi.w;have C:=hi.L;have K:=hi.p;have N:=hi.q;have M:=hi.pk;have Q:=hi.qp;have J:=h.ns;have nR:=A.R;have n1:=A.xtR;have nx:=A.x;have⟨g1,g2,g3,g4,H,g6,g7⟩:=ae7 h z hi;have E:=A.tp;rw[zE z]at E;have S:b8 (seg s.W (c.off 1)<|b8 c.X)=b8 c.X:=fj<|y.in' h (i:=1) V1;have z1:c.sz 1=b8 c.X:=rfl;have o1:=gS (c:=c) (i:=1) (j:=9) V1;unfold EZ;by_cases a8:a=8
 .rw[zE a8];by_cases u:n≠0
  .rw[zE u];exact hi
  rw[zF u];by_cases e:0<=s.q
  .rw[zE e];exact hi
  rw[zF e];by_cases d:s.p=s.L
  .rw[zE d];exact hi
  rw[zF d];have b:oz s=s.p:=by unfold oz;rw[Zg]
  have v:b9 s.p<b9 c.ns:=by omega
  have⟨s1,s2,U,s4⟩:=Bn h z v;have⟨f1,f2,f3⟩:=jc h y s.p;have Y:=xD h y s.p;have D:b8 ((stepR c s.W s.p).2.1++(stepR c s.W s.p).1)=b9 c.sl:=by rw[List.length_append];omega
  have w2:=Y.put h (w:=(stepR c s.W s.p).2.1++(stepR c s.W s.p).1) (o:=jL c<|b9 s.p) (by rw[D];exact U);have I:=H (by rw[b];omega);refine⟨w2.put h (by rw[aB];omega),C,⟨by show 0<=s.p+1;omega,by show s.p+1<=s.L;omega⟩,N,λg=> ?_, ?_, ?_⟩
  .have g:0<=s.q:=g;omega
  .show s.lv+c.sl=c.fixed+c.sl*(if s.q<0 then s.p+1 else s.q);rw[Zg,hi.lv,b,Int.mul_add,Int.mul_one];omega
  grind
 rw[zF a8];by_cases a5:a=5
 .rw[zE a5];by_cases u:n≠0
  .rw[zE u];exact hi
  rw[zF u];by_cases e:0<=s.q
  .rw[zE e];exact hi
  rw[zF e];by_cases d:s.p≠s.L
  .rw[zE d];exact hi
  rw[zF d];refine⟨(Ci h y S).2,C,K,⟨by show-1<=s.L;omega,Int.le_refl _⟩,λ_=>by show s.p=s.L;omega, ?_, ?_⟩
  .show s.lv=c.fixed+c.sl*(if s.L<0 then s.p else s.L);rw[Zh,hi.lv];unfold oz
   grind
  grind
 rw[zF a5];by_cases F:a=9
 .rw[zE F];by_cases u:n≠0
  .rw[zE u];exact hi
  rw[zF u];by_cases g:s.q<1
  .rw[zE g];exact hi
  rw[zF g];have v:b9 (s.q-1)<b9 c.ns:=by omega
  have⟨b1,b2,b3,b4,b5,b6⟩:=I6 h z y v;have⟨v1,v2,V⟩:=nb h (a:=(wM c s.W<|b9<|s.q-1).2.1) y V1 V1;refine⟨V.put h (by rw[aB];omega),C,⟨by show 0<=s.q-1;omega,by show s.q-1<=s.L;omega⟩,⟨by show-1<=s.q-1;omega,by show s.q-1<=s.L;omega⟩,λ_=>rfl, ?_, ?_⟩
  .show s.lv-c.sl=c.fixed+c.sl*(if s.q-1<0 then s.q-1 else s.q-1);have b:oz s=s.q:=by unfold oz;rw[Zh]
   rw[Zh,hi.lv,b,Int.mul_sub,Int.mul_one];omega
  show s.lv-c.sl<=s.pk/\s.pk<=c.words;have:=A.sl;rw[zE z]at this;omega
 rw[zF F];exact hi
def aD0 (d:Gq B s)(a n:Int):Gq (B+65536) (EZ c a n s).2:=by
 have b:Gq (B+65536) s:=by unfold Gq at d⊢;omega
 unfold EZ
 repeat' split
 all_goals first|exact b|(unfold Gq at d⊢;simp only;omega)
def wP (c:Cx)(s:Dy):Int×Dy:=if c.mode≠2 then(19,s)else if 0<=s.q then(19,s)else if s.L=65535 then(14,s)else(0,{s with L:=s.L+1})
def Ol (d:Gq B s):Gq (B+65536) (wP c s).2:=by
 have b:Gq (B+65536) s:=by unfold Gq at d⊢;omega
 unfold wP
 repeat' split
 all_goals first|exact b|(unfold Gq at d⊢;simp only;omega)
def UA (b:c.mode=3)(hi:InvB c s):InvB c (wP c s).2:=by
 unfold wP;rw[Zg];exact hi
def UB (hi:Inv c s):Inv c (wP c s).2:=by
 unfold wP;split
 .exact hi
 split
 .exact hi
 split
 .exact hi
 have:=hi.L;have:=hi.p;have:=hi.q;exact⟨hi.w,⟨by show 0<=s.L+1;omega,by show s.L+1<=65535;omega⟩,⟨hi.p.1,by show s.p<=s.L+1;omega⟩,⟨hi.q.1,by show s.q<=s.L+1;omega⟩,λk b=>by have:=hi.tag k b;exact⟨this.1,by show jg c s.W k<=s.L+1+1;omega⟩,hi.lv,hi.pk⟩
def XU (d:QU c s):QU c (wP c s).2:=by
 intro b;unfold wP;rw[zE b];exact d b
theorem aZ1 (a n:Int)(s:Dy):(CU c a n s).2.L=s.L:=by
 unfold CU;by_cases b:lD a n=Zb∨7<a
 .rw[zE b]
 grind
def av6 (b:QU c s)(a n:Int):QU c (CU c a n s).2:=λd=>(aZ1 a n s).trans<|b d
def at0 (c:Cx)(x:Int×Int)(s:Dy):Int×Dy:=if x.1=0 then wP c s else EZ c x.1 x.2 s
def ba9 (g:0<=s.L/\s.L<=65535):ji c.fixed c.tp c.sl c.ns c.mode c.R c.Q c.len c.words s.L s.p s.q s.c0 s.c1 s.c2 s.c3 s.z c.X c.T c.l c.k c.P c.tk (c.off 8:Int) c.ns (b8 c.X:Int) s.lv s.pk c.words s.W=O ((wP c s).1,c.fixed,c.tp,c.sl,c.ns,c.mode,c.R,c.Q,c.len,c.words,(wP c s).2.L,s.p,s.q,s.c0,s.c1,s.c2,s.c3,s.z):=by
 unfold ji wP;rw[ap];by_cases b:c.mode≠2
 .rw[zE b,zE b]
 rw[zF b,zF b,ap];by_cases d:0<=s.q
 .rw[zE d,zE d]
 rw[zF d,zF d,ap];by_cases e:s.L=65535
 .rw[zE e,zE e]
 rw[zF e,zF e,Zi]
def YH (c:Cx)(x:Int×Int)(s:Dy):Int×Dy:=if x.1=0 then wP c s else CU c x.1 x.2 s
structure Well1 (c:Cx)(i:Nat)(s:Dy):Prop where
 inv:InvB c s
 cnt:Gq (65536*i) s
structure Well2 (c:Cx)(i:Nat)(s:Dy):Prop where
 inv:Inv c s
 cnt:Gq (65536*i) s
 len:QU c s
def Well1.act (h:c.Ok)(b:c.mode=3)(w:Well1 c i s)(x:Int×Int):Well1 c (i+1) (at0 c x s).2:=by
 have e:(65536:Int)*((i+1:Nat):Int)=65536*i+65536:=by omega
 unfold at0;split
 .exact⟨UA b w.inv,by rw[e];exact Ol w.cnt⟩
 exact⟨aD1 h b w.inv _ _,by rw[e];exact aD0 w.cnt _ _⟩
theorem Well2.act (h:c.Ok)(b:c.mode≠3)(w:Well2 c i s)(x:Int×Int):Well2 c (i+1) (YH c x s).2:=by
 have e:(65536:Int)*((i+1:Nat):Int)=65536*i+65536:=by omega
 unfold YH;split
 .exact⟨UB w.inv,by rw[e];exact Ol w.cnt,XU w.len⟩
 exact⟨av5 h b w.inv _ _,by rw[e];exact av4 w.cnt _ _,av6 w.len _ _⟩
def aS9 (f:(Int×Int)->Dy->Int×Dy)(l:List<|Int×Int)(s:Dy):Nat->Dy
 |0=>s
 |i+1=>(f (l.getD i (0,0))<|aS9 f l s i).2
def Wu (s:Dy)(h:s.c0=0/\s.c1=0/\s.c2=0/\s.c3=0):Gq (65536*(0:Nat)) s:=by
 unfold Gq;omega
def O0 (h:c.Ok)(b:c.mode=3)(l:List<|Int×Int): ∀i,Well1 c i (aS9 (at0 c) l (new1 c) i)
 |0=>⟨ag8 h b,Wu _ ⟨rfl,rfl,rfl,rfl⟩⟩
 |i+1=>(O0 h b l i).act h b _
def O1 (h:c.Ok)(b:c.mode≠3)(l:List<|Int×Int): ∀i,Well2 c i (aS9 (YH c) l (new2 c) i)
 |0=>⟨ag9 h b,Wu _ ⟨rfl,rfl,rfl,rfl⟩,λ_=>rfl⟩
 |i+1=>(O1 h b l i).act h b _
def Gf (c:Cx)(s:Dy):Int×Int×Zd×Zd:=if s.q≠0 then(0,19,[],[])else(s.z,0,seg s.W (c.off 5)<|b8 c.X,seg s.W (c.off 6)<|b8 c.T)
def aD9 (h:c.Ok)(d:Wd c s.W):kY c.fixed c.tp c.sl c.ns c.mode c.R c.Q c.len c.words s.L s.p s.q s.c0 s.c1 s.c2 s.c3 s.z c.X c.T c.l c.k c.P c.tk s.lv s.pk c.words s.W=O (Gf c s):=by
 unfold kY Gf;rw[ap];by_cases b:s.q≠0
 .rw[zE b,zE b]
 rw[zF b,zF b,RV (ii:=5) (i:=5) h d rfl V1,zG,RV (ii:=6) (i:=6) h d rfl V1];rfl
def WF (h:c.Ok)(d:Wd c s.W):jQ c.fixed c.tp c.sl c.ns c.mode c.R c.Q c.len c.words s.L s.p s.q s.c0 s.c1 s.c2 s.c3 s.z c.X c.T c.l c.k c.P c.tk (c.off 8:Int) c.ns (b8 c.X:Int) s.lv s.pk c.words s.W=O (Gf c s):=by
 unfold jQ Gf;rw[ap];by_cases b:s.q≠0
 .rw[zE b,zE b]
 rw[zF b,zF b,No (ii:=5) (i:=5) h d rfl V1,zG,No (ii:=6) (i:=6) h d rfl V1];rfl
end
end
section
section
variable {c:Cx}
end
end
section
section
variable {a0:Int} {a1 a2:Zd} {a3:Int} {a4:List cg} {a5:Int} {a6:List cg} {a7 a8:Int}
theorem aF1 (e: ∀o∈a4,Np o)(g: ∀o∈a6,Np o):mf a0 a1 a2 a3 a4 a5 a6 a7 a8=O Zb∨(mf a0 a1 a2 a3 a4 a5 a6 a7 a8=O Za/\OpsOk a4/\OpsOk a6/\b8 a1<=200/\b8 a2<=200):=by
 unfold mf Ac;by_cases c1:(b8 a4:Int)<=60
 .by_cases c2:(b8 a6:Int)<=60
  .by_cases c3:(b8 a1:Int)<=200
   .by_cases c4:(b8 a2:Int)<=200
    .have p:OpsOk a4:=⟨V1,e⟩;have q:OpsOk a6:=⟨V1,g⟩;rw[zB c1,zB c2,zB c3,zB c4];simp only[zC,zG,Bool.not_true,zD];rw[am4 p q V1 V1];simp only[zG,ap]
     have d: ∀b:Bool,(O b=O Zb)∨(O b=O Za/\OpsOk a4/\OpsOk a6/\b8 a1<=200/\b8 a2<=200):=λb=>by
      cases b
      .exact .inl rfl
      grind
     repeat' split
     all_goals exact d _
    grind
   grind
  grind
 grind
end
end
section
def GJ (a:Int):Prop:=0<=a/\a<18446744073709551616
def wU (n:Int):IntKind.u64.wrap n=n % 18446744073709551616:=rfl
variable {x s d0 d1 d2 d3 d4 d5 d6 d7 c0 c1 c2 c3 c4 c5 c6 c7 r0 r1 r2 r3 r4 r5 r6 r7 x0 x1 x2 x3 x4 x5 x6 x7 y0 y1 y2 y3 y4 y5 y6 y7 p0 p1 p2 p3 p4 p5 p6 p7:Int}
end
section
section
variable {l:List cg} {R:Int} {f:Fo}
end
section
variable {l:List cg} {m:Zd}
def oc : ∀g:Fo,b8 g.unroll=g.n
 | .nil=>rfl
 | .op o r=>by simp only[Fo.unroll,Fo.n,List.length_cons,oc r];omega
 | .rep o b e r=>by simp[Fo.unroll,Fo.n,oc r,oc b,Nat.mul_comm]
end
section
variable {l:List cg} {R:Int} {f:Fo}
end
end
section
def ci (r:Zd):Prop:= ∀x∈r,GJ x
def w0 :GJ 0:=by unfold GJ;omega
def QD (n:Int):GJ<|IntKind.u64.wrap n:=by rw[wU];unfold GJ;omega
def JS (h:ci r)(k:Int):GJ<|rg r k:=by
 unfold rg;rw[List.getD_eq_getElem?_getD];by_cases b:b9 k<b8 r
 .rw[List.getElem?_eq_getElem b];exact h _ (List.getElem_mem b)
 rw[List.getElem?_eq_none V1];exact w0
def ci.set (h:ci r){v:Int}(b:GJ v)(k:Nat):ci<|r.set k v:=λx d=>by
 rcases List.mem_or_eq_of_mem_set d with h1|h1
 .exact h x h1
 .rw[h1];exact b
def ci.app {s:Zd}(h:ci r)(k:ci s):ci<|r++s:=λx b=>(aF.1 b).elim (h x)<|k x
def ci.rep (n:Nat):ci<|List.replicate n 0:=λx b=>by rw[(List.mem_replicate.1 b).2];exact w0
def ci.fill {R:Int}(h:ci r):ci<|fill R r:=h.app<|ci.rep _
def ci.drop (h:ci r)(n:Nat):ci<|r.drop n:=λx b=>h x<|List.mem_of_mem_drop b
def ci.take (h:ci r)(n:Nat):ci<|r.take n:=λx b=>h x<|List.mem_of_mem_take b
def aI6 {o:cg}(b:Np o){x y:Int}(d:GJ x)(e:GJ y):GJ<|app o x y:=by
 unfold Go.V.app;unfold Np at b
 repeat' split
 all_goals first|exact QD _|exact d|exact w0|(unfold GJ;omega)
def ba2 (n:Nat)(l:List cg):Prop:= ∀o∈l,PZ n o/\Np o
def ac7 (l:List cg): ∀s:FS,b8 (pn JT l s).1=b8 s.1:=by
 induction l with
 |nil=>intro s;rfl
 |cons o l b=>intro s;show(b8 (pn JT l<|JT o s).1)=_;rw[b];unfold JT;simp
def aO0 (l:List cg): ∀s:FS,ci s.1->(∀o∈l,Np o)->ci (pn JT l s).1:=by
 induction l with
 |nil=>intro s h _;exact h
 |cons o l e=>
  intro s h b;exact e (JT o s) (h.set (aI6 (b o V2) (JS h _)<|JS h _) _)<|λx d=>b x aQ
section
variable {l:List cg} {R:Int} {f:Fo}
def uI : ∀(g:Fo),g.Ok->∀o∈g.unroll,o∈g.src/\0<o.1/\o.1<7
 | .nil,_,o,ho=>by cases ho
 | .op x r,h,o,ho=>by
  rcases aA.1 ho with rfl|ho
  .exact⟨Zn,h.1⟩
  .obtain⟨d,p⟩:=uI r h.2 o ho;exact⟨by simp[Fo.src,d],p⟩
 | .rep x b e r,h,o,ho=>by
  simp only[Fo.unroll]at ho;rcases aF.1 ho with ho|ho
  .obtain⟨u,q,ho⟩:=List.mem_flatten.1 ho;rw[(List.mem_replicate.1 q).2]at ho;have⟨d,p⟩:=uI b h.2.1 o ho;exact⟨by simp[Fo.src,d],p⟩
  .obtain⟨d,p⟩:=uI r h.2.2 o ho;exact⟨by simp[Fo.src,d],p⟩
def Prg.goodU (h:Prg R l f):ba2 (b9 R) f.unroll:=λo e=>by
 have⟨b,d⟩:=uI f h.ok o e;rw[h.src]at b;exact⟨h.regs o b d,h.ops.v o b⟩
def Prg.ulen (h:Prg R l f):b8 f.unroll=f.n/\f.n<=65536:=⟨oc f,h.n⟩
def Lz (l:List cg): ∀s:TS,b8 (pn iK l s).1=b8 s.1/\b8 (pn iK l s).2.1=b8 s.2.1/\(pn iK l s).2.2=s.2.2+b8 l:=by
 induction l with
 |nil=>intro s;exact⟨rfl,rfl,rfl⟩
 |cons o l g=>
  intro s;have⟨b,d,e⟩:=g<|iK o s;exact⟨b.trans (by unfold iK;simp),d.trans (by unfold iK;simp),e.trans (by unfold iK;simp;omega)⟩
def aO2 (l:List cg): ∀s:TS,ci s.1->ci s.2.1->(∀o∈l,Np o)->ci (pn iK l s).1/\ci (pn iK l s).2.1:=by
 induction l with
 |nil=>intro s h k _;exact⟨h,k⟩
 |cons o l e=>
  intro s h k b;exact e (iK o s) (h.set (aI6 (b o V2) (JS h _)<|JS h _) _) (k.set (JS h _) _)<|λx d=>b x aQ
end
end
section
open List renaming replicate->aB
def an7 {a:Zd}(h:k<b8 a):a.set k (rg a (k:Int))=a:=by
 have:=jd h;rw[List.getElem?_eq_getElem h]at this;injection this with this
 rw[<-this];exact List.set_getElem_self h
def aS4 {o:cg}{a:Zd}{t:Int}(d:ci r)(b:ci a)(e:GJ t):ci (Dk o r a t).1/\ci (Dk o r a t).2:=by
 unfold Dk;exact⟨d.set e _,((b.set w0 _).set (QD _) _).set (QD _) _⟩
section
variable {l:List cg} {R:Int} {f:Fo}
def au2 (y:ci t)(l:List cg): ∀s:BS,ci s.1->ci s.2.1->b8 (CS (qs t) l s).1=b8 s.1/\b8 (CS (qs t) l s).2.1=b8 s.2.1/\(CS (qs t) l s).2.2=s.2.2-b8 l/\ci (CS (qs t) l s).1/\ci (CS (qs t) l s).2.1:=by
 induction l with
 |nil=>intro s h k;exact⟨rfl,rfl,rfl,h,k⟩
 |cons o l v=>
  intro s h k;have⟨e,g,p,q,u⟩:=v s h k;have b:=Hn o (CS (qs t) l s).1 (CS (qs t) l s).2.1<|rg t (((CS (qs t) l s).2.2-1:Nat):Int);have d:=aS4 (o:=o) q u<|JS y (((CS (qs t) l s).2.2-1:Nat):Int);refine⟨b.1.trans e,b.2.trans g, ?_,d.1,d.2⟩;show(CS (qs t) l s).2.2-1=_;rw[p,List.length_cons];omega
def Gc (h:Prg R l f)(q:ci r)(u:ci t):ci (sj f r t).1/\ci (sj f r t).2.1/\b8 (sj f r t).1=b8 r/\b8 (sj f r t).2.1=b8 t:=by
 have⟨b,d⟩:=aO2 f.unroll (r,t,0) q u<|λo p=>(h.goodU o p).2;have⟨e,g,_⟩:=Lz f.unroll (r,t,0);exact⟨b,d,e,g⟩
def SM (R:Int)(f:Fo)(r w:Zd):Zd:=(jV f (sj f (fill R r)<|aB f.n 0).1 (fill R w) (sj f (fill R r)<|aB f.n 0).2.1).2.1
def Jm (h:Prg R l f)(C:b8 r<=b9 R)(o:b8 w<=b9 R)(p:ci r)(q:ci w):b8 (SM R f r w)=b9 R/\ci (SM R f r w):=by
 have⟨e,g,z,A⟩:=Gc h (r:=fill R r) (t:=aB f.n 0) p.fill<|ci.rep _;have⟨u,b,v,y,d⟩:=au2 g f.unroll ((sj f (fill R r)<|aB f.n 0).1,fill R w,f.n) e q.fill;exact⟨b.trans<|iA o,d⟩
def Gg (h:Prg R l f)(d:ci r):b8 (Hx f r)=b8 r/\ci (Hx f r):=⟨ac7 _ _,aO0 _ _ d λo b=>(h.goodU o b).2⟩
def aO1 (l:List cg): ∀(r t:Zd) (k n:Nat),(pn iK l (r,t,k)).1=(pn JT l (r,n)).1:=by
 induction l with
 |nil=>intro r t k n;rfl
 |cons o l b=>intro r t k n;exact b _ _ _ _
def OJ (f:Fo)(r t:Zd):(sj f r t).1=Hx f r:=aO1 _ _ _ _ _
end
end
section
open List renaming length_take->aD
open Nat renaming le_refl->aB,lt_or_gt_of_ne->bB
def ci.put (h:ci W)(k:ci w)(o:Nat):ci<|put W o w:=(h.take o).app<|k.app<|h.drop _
def ci.seg (h:ci W)(o n:Nat):ci<|seg W o n:=(h.drop o).take n
def TP (x:Nat)(g a:Zd):ci<|tv x g a:=λv b=>by
 unfold tv at b;obtain⟨i,_,rfl⟩:=aE.1 b;exact QD _
section
variable {c:Cx}
structure Has (c:Cx)(W st ax at':Zd):Prop where
 wd:Wd c W
 w:ci W
 t:seg W 0 (b8 c.T)=c.T
 s:seg W (c.off 1) (b8 c.X)=st
 x:seg W (c.off 5) (b8 c.X)=ax
 a:seg W (c.off 6) (b8 c.T)=at'
def OU (h:c.Ok)(b:Wd c W)(hi:i<9)(d:b8 w<=c.sz i):c.off i+b8 w<=b8 W:=by
 have:=b.in' h hi;omega
def Has.put (h:c.Ok)(H:Has c W st ax at')(hi:i<9)(v:b8 w<=c.sz i)(y:ci w)(e:i≠0)(g:i≠1)(o:i≠5)(p:i≠6):Has c (put W (c.off i) w) st ax at':=by
 have u:=OU h H.wd hi v
 have b: ∀j n,j≠i->n<=c.sz j->j<9->seg (Go.V.put W (c.off i) w) (c.off j) n=seg W (c.off j) n:=λj n q A z=>by
  refine nZ u ?_;rcases bB q with d|hgt
  .exact .inl (by have:=gS (c:=c) d;omega)
  exact .inr (by have:=gS (c:=c) hgt;omega)
 refine⟨H.wd.put h (by have:=gS (c:=c) (show i<9 from hi);omega),H.w.put y _, ?_, ?_, ?_, ?_⟩
 .have:=b 0 (b8 c.T) (Ne.symm e) (aB _) V1;exact this.trans H.t
 .exact(b 1 (b8 c.X) (Ne.symm g) (aB _) V1).trans H.s
 .exact(b 5 (b8 c.X) (Ne.symm o) (aB _) V1).trans H.x
 exact(b 6 (b8 c.T) (Ne.symm p) (aB _) V1).trans H.a
def yC (h:c.Ok)(e:Wd c W){n:Nat}(b:j≠i)(hi:i<9)(o:j<9)(p:n<=c.sz j)(g:b8 w<=c.sz i):seg (put W (c.off i) w) (c.off j) n=seg W (c.off j) n:=by
 refine nZ (OU h e hi g) ?_;rcases bB b with d|hgt
 .exact .inl (by have:=gS (c:=c) d;omega)
 exact .inr (by have:=gS (c:=c) hgt;omega)
def Has.put1 (h:c.Ok)(H:Has c W st ax at')(d:b8 w=b8 c.X)(e:ci w):Has c (Go.V.put W (c.off 1) w) w ax at':=by
 have b:b8 w<=c.sz 1:=Nat.le_of_eq d;refine⟨H.wd.put h (by have:=gS (c:=c) (show 1<9 by omega);omega),H.w.put e _,(yC h H.wd (i:=1) (j:=0) V1 V1 V1 (aB _) b).trans H.t, ?_,(yC h H.wd (i:=1) (j:=5) V1 V1 V1 (aB _) b).trans H.x,(yC h H.wd (i:=1) (j:=6) V1 V1 V1 (aB _) b).trans H.a⟩;rw[<-d];exact tK<|OU h H.wd V1 b
def Has.back (h:c.Ok){a:Zd}(H:Has c W st ax at')(K:b8 c.X+b8 c.T<=b8 a)(u:b8 a<=max (b9 c.R) (b9 c.Q))(C:ci a):Has c (ye c W a) st (a.take<|b8 c.X)<|tv (b8 c.X) at' a:=by
 have H4:=H.put h (i:=4) V1 (w:=a) u C V1 V1 V1 V1;unfold ye;generalize Go.V.put W (c.off 4) a=W1 at*;have A:b8 (a.take<|b8 c.X)<=c.sz 5:=by rw[aD];exact Nat.min_le_left _ _
 have J:b8 (a.take<|b8 c.X)=b8 c.X:=by rw[aD];omega
 have e:=H4.wd.put h (o:=c.off 5) (w:=a.take<|b8 c.X) (by have:=gS (c:=c) (show 5<9 by omega);omega);have p:=λj (v:j≠5) (g:j<9)=>yC h H4.wd (i:=5) (j:=j) v V1 g (aB _) A
 have F:seg (Go.V.put W1 (c.off 5)<|a.take<|b8 c.X) (c.off 5) (b8 c.X)=a.take (b8 c.X):=by
  have:=tK<|OU h H4.wd (i:=5) V1 A;rw[J]at this;exact this
 have I:=(p 6 V1 V1).trans H4.a;have D:=(p 0 V1 V1).trans H4.t;have E:=(p 1 V1 V1).trans H4.s;have a5:ci<|Go.V.put W1 (c.off 5)<|a.take<|b8 c.X:=H4.w.put (C.take _) _;generalize Go.V.put W1 (c.off 5) (a.take<|b8 c.X)=W2 at*;have b:seg W2 (c.off 6) (b8 c.T)=at':=I;rw[b];have y:b8 at'=b8 c.T:=by rw[<-b];exact fj (e.in' h (i:=6) V1)
 have z:b8 (tv (b8 c.X) at' a)=b8 c.T:=by rw[pJ,y]
 have d:b8 (tv (b8 c.X) at' a)<=c.sz 6:=Nat.le_of_eq z;have q:=λj (v:j≠6) (g:j<9)=>yC h e (i:=6) (j:=j) v V1 g (aB _) d
 refine⟨e.put h (by have:=gS (c:=c) (show 6<9 by omega);omega),a5.put (TP _ _ _) _,(q 0 V1 V1).trans D,(q 1 V1 V1).trans E,(q 5 V1 V1).trans F, ?_⟩;have:=tK<|OU h e (i:=6) V1 d;rw[z]at this;exact this
def Ca (c:Cx)(t:Int)(x:Zd):Zd:=x++(c.T++[IntKind.u64.wrap t])
def yG (c:Cx)(t:Int)(x:Zd):Zd:=(Hx c.fl<|fill c.R<|Ca c t x).take<|b8 c.X
def lossV (c:Cx)(x:Zd):Int:=rg (Hx c.fk<|fill c.Q<|x++(c.T++[])) 0
def qu (c:Cx)(t:Int)(x b:Zd):Zd:=SM c.R c.fl (Ca c t x) b
def vT (c:Cx)(x:Zd):Zd:=SM c.Q c.fk (x++(c.T++[])) [1]
def Cx.Ok.lens (h:c.Ok):((b8 c.X:Int)+b8 c.T+1<=c.R/\(b8 c.X:Int)+b8 c.T<=c.Q)/\(1<=c.R/\c.R<=64)/\(1<=c.Q/\c.Q<=64)/\1<=b8 c.X/\b8 c.X<=64/\b8 c.T<=64:=by
 have n:=h.num;have b:=EO h.hc;exact⟨NV (by have:=n.x;omega) (by have:=n.t;omega) b.2,n.R,n.Q,n.x.1,n.x.2,n.t⟩
def AP (t:Int)(b:b8 x=b8 c.X):b8 (Ca c t x)=b8 c.X+b8 c.T+1:=by unfold Ca;simp[b];omega
def PB {t:Int}(d:ci x)(wT:ci c.T):ci<|Ca c t x:=d.app (wT.app λv b=>by rw[aI.1 b];exact QD _)
variable (h:c.Ok) (wT:ci c.T)
include h wT
theorem zS {t:Int}(e:b8 x=b8 c.X)(g:ci x):b8 (yG c t x)=b8 c.X/\ci (yG c t x):=by
 have⟨⟨q,u⟩,p,o,x1,x2,v⟩:=h.lens;have⟨b,d⟩:=Gg h.pl (r:=fill c.R<|Ca c t x) (PB g wT).fill;rw[iA (by rw[AP t e];omega)]at b;unfold yG;exact⟨by rw[aD,b];omega,d.take _⟩
theorem zN {t:Int}{b:Zd}(d:b8 x=b8 c.X)(g:ci x)(q:b8 b=b8 c.X)(e:ci b):b8 (qu c t x b)=b9 c.R/\ci (qu c t x b):=by
 have⟨⟨u,v⟩,p,o,x1,x2,y⟩:=h.lens;exact Jm h.pl (by rw[AP t d];omega) V1 (PB g wT) e
theorem bb6 :ci [1]:=λv b=>by rw[aI.1 b];unfold GJ;omega
theorem Ed (d:b8 x=b8 c.X)(e:ci x):b8 (vT c x)=b9 c.Q/\ci (vT c x):=by
 have⟨⟨p,q⟩,o,g,x1,x2,u⟩:=h.lens;exact Jm h.pk (by simp[d];omega) V4 (e.app (wT.app λv b=>by cases b))<|bb6 h wT
end
end
section
open Nat renaming le_of_eq->aB
section
variable {c:Cx} (h:c.Ok) (wT:ci c.T) {W st ax at':Zd}
def jM (c:Cx)(t:Int)(x:Zd):TS:=sj c.fl (fill c.R<|Ca c t x)<|zeros c.fl.n
include h wT
theorem Has.lens (H:Has c W st ax at'):b8 st=b8 c.X/\b8 ax=b8 c.X/\(b8 at')=b8 c.T/\ci st/\ci ax/\ci at':=by
 refine⟨?_, ?_, ?_, ?_, ?_, ?_⟩
 .rw[<-H.s];exact fj (H.wd.in' h (i:=1) V1)
 .rw[<-H.x];exact fj (H.wd.in' h (i:=5) V1)
 .rw[<-H.a];exact fj (H.wd.in' h (i:=6) V1)
 .rw[<-H.s];exact H.w.seg _ _
 .rw[<-H.x];exact H.w.seg _ _
 rw[<-H.a];exact H.w.seg _ _
theorem yI {t:Int}{x:Zd}(o:b8 x=b8 c.X)(p:ci x):ci (jM c t x).1/\ci (jM c t x).2.1/\b8 (jM c t x).1=b9 c.R/\b8 (jM c t x).2.1=c.fl.n/\(jM c t x).1.take (b8 c.X)=yG c t x:=by
 have⟨⟨v,y⟩,u,q,x1,x2,z⟩:=h.lens;have⟨b,d,e,g⟩:=Gc h.pl (r:=fill c.R<|Ca c t x) (t:=zeros c.fl.n) (PB p wT).fill<|ci.rep _;refine⟨b,d,e.trans<|iA (by rw[AP t o];omega),g.trans<|bw _, ?_⟩;unfold jM yG;rw[OJ]
omit wT in
theorem Has.stepR (H:Has c W st ax at')(p:Int):stepR c W p=jM c p st:=by
 unfold Go.V.stepR jM Ca;rw[H.s,H.t]
omit wT in
theorem Has.lossR (H:Has c W st ax at')(x:Zd):lossR c W x=sj c.fk (fill c.Q<|x++(c.T++[])) (zeros c.fk.n):=by
 unfold Go.V.lossR;rw[H.t]
theorem Has.lossV (H:Has c W st ax at')(x:Zd):rg (Go.V.lossR c W x).1 0=lossV c x:=by
 rw[H.lossR h,OJ];rfl
theorem Has.taped (H:Has c W st ax at')(p:Int):Has c (Go.V.put W (c.off 2) (Go.V.stepR c W p).1) st ax at':=by
 have⟨e,v,y,g,z,A⟩:=H.lens h wT;have⟨b,o,d,q,u⟩:=yI h wT (t:=p) e g;rw[H.stepR h];exact H.put h (i:=2) V1 (aB d) b V1 V1 V1 V1
theorem Has.endd (H:Has c W st ax at'){x:Zd}(d:b8 x=b8 c.X)(g:ci x):Has c (Ic c W x) st ((vT c x).take<|b8 c.X)<|tv (b8 c.X) at'<|vT c x:=by
 have⟨⟨D,E⟩,A,z,x1,x2,F⟩:=h.lens;have C:b8 (x++(c.T++[]))=b8 c.X+b8 c.T:=by simp[d]
 have q:ci<|x++(c.T++[]):=g.app (wT.app λv p=>by cases p);have⟨o,u,b,y⟩:=Gc h.pk (r:=fill c.Q<|x++(c.T++[])) (t:=zeros c.fk.n) q.fill<|ci.rep _;rw[iA V1]at b;have⟨p1,p2⟩:=Ed h wT d g;unfold Ic;rw[H.lossR h];have H3:=H.put h (i:=3) V1 (aB b) o V1 V1 V1 V1;have e:(jV c.fk (sj c.fk (fill c.Q<|x++(c.T++[]))<|zeros c.fk.n).1 (fill c.Q [1]) (sj c.fk (fill c.Q<|x++(c.T++[]))<|zeros c.fk.n).2.1).2.1=vT c x:=rfl;rw[e];exact H3.back h V1 V1 p2
theorem Has.turn (H:Has c W st ax at'){p:Int}{x:Zd}(b:b8 x=b8 c.X)(o:ci x):Has c (MI c W (jM c p x).1 (jM c p x).2.1) st ((qu c p x ax).take<|b8 c.X)<|tv (b8 c.X) at'<|qu c p x ax:=by
 have⟨⟨C,D⟩,u,q,x1,x2,E⟩:=h.lens;have⟨v,d,y,z,g,A⟩:=H.lens h wT;have⟨p1,p2⟩:=zN h wT (t:=p) b o d g;unfold MI;rw[H.x];have e:(jV c.fl (jM c p x).1 (fill c.R ax) (jM c p x).2.1).2.1=qu c p x ax:=rfl;rw[e];exact H.back h V1 V1 p2
theorem Has.adv1 (H:Has c W st ax at')(p:Int):Has c (Go.V.adv1 c W p) (yG c p st) ax at':=by
 have⟨⟨E,F⟩,y,v,x1,x2,I⟩:=h.lens;have⟨d,z,A,g,C,D⟩:=H.lens h wT
 have e:Jo c W p=Hx c.fl (fill c.R<|Ca c p st):=by
  unfold Jo Ca;rw[H.s,H.t]
 have⟨b,o⟩:=Gg h.pl (r:=fill c.R<|Ca c p st) (PB g wT).fill;rw[iA (by rw[AP p d];omega)]at b;have⟨q,u⟩:=zS h wT (t:=p) d g;unfold Go.V.adv1;rw[e];exact(H.put h (i:=2) V1 (aB b) o V1 V1 V1 V1).put1 h q u
def Gj (c:Cx)(t:Int)(x:Zd):Nat->Zd
 |0=>x
 |i+1=>yG c (t+(i:Int))<|Gj c t x i
theorem Has.advW (H:Has c W st ax at')(p:Int): ∀i,Has c (Go.V.advW c W p i) (Gj c p st i) ax at'
 |0=>H
 |i+1=>(Has.advW H p i).adv1 h wT _
theorem CF {t:Int}{x:Zd}(b:b8 x=b8 c.X)(d:ci x): ∀i,b8 (Gj c t x i)=b8 c.X/\ci (Gj c t x i)
 |0=>⟨b,d⟩
 |i+1=>zS h wT (CF b d i).1 (CF b d i).2
theorem Has.rev (H:Has c W st ax at')(p:Int):Has c (Ye c W p) st ((qu c p st ax).take<|b8 c.X)<|tv (b8 c.X) at'<|qu c p st ax:=by
 have⟨b,e,g,d,o,q⟩:=H.lens h wT;unfold Ye;have:=(H.taped h wT p).turn h wT (p:=p) b d;rw[H.stepR h]at this⊢;exact this
theorem Has.both (H:Has c W st ax at')(p:Int):Has c (NI c W p) st ((qu c p st<|(vT c<|yG c p st).take<|b8 c.X).take<|b8 c.X)<|tv (b8 c.X) (tv (b8 c.X) at'<|vT c<|yG c p st)<|qu c p st<|(vT c<|yG c p st).take<|b8 c.X:=by
 have⟨b,z,A,d,C,D⟩:=H.lens h wT;have⟨q,u,v,y,e⟩:=yI h wT (t:=p) b d;have⟨g,o⟩:=zS h wT (t:=p) b d;unfold NI;have H2:=H.taped h wT p;rw[H.stepR h]at H2⊢;rw[e];exact(H2.endd h wT g o).turn h wT (p:=p) b d
end
end
section
open Nat renaming le_refl->aB
def ch :Nat->Nat->Nat
 |_,0=>1
 |0,_+1=>0
 |n+1,k+1=>ch n k+ch n (k+1)
def PD (n:Nat):ch n 0=1:=by cases n<;>rfl
def JL (n k:Nat):ch (n+1) (k+1)=ch n k+ch n (k+1):=rfl
def PE : ∀n k,ch (n+1) (k+1)*(k+1)=ch n k*(n+1)
 |0,0=>rfl
 |0,k+1=>by rw[JL];simp[ch]
 |n+1,0=>by
  have h:=PE n 0;rw[PD]at h;rw[JL (n+1) 0,PD];omega
 |n+1,k+1=>by
  have b:=PE n k;have d:=PE n<|k+1;rw[JL (n+1)<|k+1,Nat.add_mul,d,show k+1+1=(k+1)+1 from rfl,Nat.mul_add<|ch (n+1)<|k+1,b,Nat.mul_one,JL n k,Nat.mul_add (ch n k+ch n (k+1)) (n+1) 1,Nat.add_mul];omega
def Ue : ∀{n k:Nat},k<=n->1<=ch n k
 |n,0,_=>by rw[PD];exact aB _
 |n+1,k+1,h=>by rw[JL];have:=Ue (n:=n) (k:=k) V1;omega
def PF : ∀{n k:Nat},n<k->ch n k=0
 |0,k+1,_=>rfl
 |n+1,k+1,h=>by rw[JL,PF V1,PF V1]
def Vx (n:Nat):ch n n=1:=by
 induction n with
 |zero=>rfl
 |succ n b=>rw[JL,b,PF V1]
def GS : ∀s a b,a+b=s->ch s a=ch s b
 |0,a,b,h=>by rw[show a=0 by omega,show b=0 by omega]
 |s+1,0,b,h=>by rw[show b=s+1 by omega,PD,Vx]
 |s+1,a+1,0,h=>by rw[show a=s by omega,PD,Vx]
 |s+1,a+1,b+1,h=>by
  rw[JL,JL,GS s a (b+1) V1,GS s (a+1) b V1];omega
def aY9 (d i:Nat):ch (d+i) i<=ch (d+(i+1)) (i+1):=by
 rw[show d+(i+1)=(d+i)+1 by omega,JL];omega
def Y8 (d:Nat)(h:i<=j):ch (d+i) i<=ch (d+j) j:=by
 induction j with
 |zero=>rw[show i=0 by omega];exact aB _
 |succ j b=>
  by_cases hi:i=j+1
  .rw[hi];exact aB _
  exact Nat.le_trans (b V1)<|aY9 d j
def J2 {s:Nat}(b:1<=s): ∀l,l+1<=ch (s+l) l
 |0=>by rw[PD];exact aB _
 |l+1=>by
  rw[show s+(l+1)=(s+l)+1 by omega,JL];have:=J2 b l;have:=Ue (n:=s+l) (k:=l+1) V1;omega
def w6 :Nat:=1099511627776
def Xj (n k:Int):Int:=if n<0∨k<0∨n<k then 0 else((min w6 (ch (b9 n)<|b9 k):Nat):Int)
def au6 {d:Nat}(hi:1<=i):ch (d+(i-1)) (i-1)*(d+i) / i=ch (d+i) i:=by
 have:=PE (d+(i-1))<|i-1;rw[show i-1+1=i by omega,show d+(i-1)+1=d+i by omega]at this;rw[<-this];exact Nat.mul_div_cancel _ V1
structure IsRep (l s r:Nat):Prop where
 up:l<=ch (s+r) r
 low: ∀x,x<r->ch (s+x) x<l
def IsRep.eq {l s r b:Nat}(h:IsRep l s r)(d:IsRep l s b):r=b:=by
 rcases Nat.lt_trichotomy r b with k|k|k
 .have:=d.low _ k;have:=h.up;omega
 .exact k
 have:=h.low _ k;have:=d.up;omega
def IsRep.le {l s r:Nat}(h:IsRep l s r)(b:1<=s):r<=l:=by
 rcases Nat.lt_or_ge l r with k|k
 .have:=h.low _ k;have:=J2 b l;omega
 exact k
def aS6 {l s r:Nat}(h:l<=ch (s+r) r)(h':r=0∨ch (s+(r-1)) (r-1)<l):IsRep l s r:=
 ⟨h,λx b=>by
  rcases h' with h'|h'
  .omega
  .exact Nat.lt_of_le_of_lt (Y8 s (show x<=r-1 by omega)) h'⟩
def spI (n c r:Int):Int:=max 1<|max (Xj (c+r-2) c)<|n-Xj (c+r-1) (c-1)
def PC {n:Nat}(h:k<=n):Xj (n:Int) (k:Int)=((min w6 (ch n k):Nat):Int):=by
 unfold Xj;rw[Zh];rfl
def aM5 (n k:Int):0<=Xj n k/\Xj n k<=1099511627776:=by
 unfold Xj w6;split<;>omega
def aT4 {n c r:Nat}(z:2<=n)(y:1<=c)(g:IsRep n c r)(v:n<=65536):1<=spI n c r/\spI n c r<=n-1/\(c=1->spI n c r=n-1):=by
 have r1:1<=r:=by
  rcases Nat.eq_zero_or_pos r with h|h
  .have:=g.up;rw[h,PD]at this;omega
  exact h
 have e:=g.low (r-1) V1
 have a1:Xj ((c:Int)+r-2) c<=(n:Int)-1:=by
  unfold Xj;split
  .omega
  rename_i h;rw[show(b9<|(c:Int)+r-2)=c+r-2 by omega,Int.toNat_natCast];have q:ch (c+(r-1)) (r-1)=ch (c+(r-1)) c:=GS _ _ _ V1
  have u:ch (c+r-2) c<=ch (c+(r-1)) c:=by
   obtain⟨b,rfl⟩: ∃b,c=b+1:=⟨c-1,V1⟩
   rw[show b+1+(r-1)=(b+1+r-2)+1 by omega,JL];omega
  omega
 have p:1<=Xj ((c:Int)+r-1) (c-1):=by
  rw[show(c:Int)+r-1=((c+r-1:Nat):Int)by omega,show(c:Int)-1=((c-1:Nat):Int)by omega,PC V1];have:=Ue (n:=c+r-1) (k:=c-1) V1;unfold w6;omega
 unfold spI;refine⟨V1,V1,λd=> ?_⟩;subst d
 have o:Xj (((1:Nat):Int)+r-1) (((1:Nat):Int)-1)=1:=by
  rw[show((1:Nat):Int)+r-1=((r:Nat):Int)by omega,show((1:Nat):Int)-1=((0:Nat):Int)by omega,PC V1,PD];rfl
 rw[o];omega
end
section
structure Mc where
 L:Int
 p:Int
 q:Int
 t:Zd
def Kg (a:Int×Int)(m:Mc):Option Mc:=
 if a.1=1 then(if 1<=a.2/\a.2<=65535/\m.p+a.2<=m.L then O {m with p:=m.p+a.2}else Z)
 else if a.1=2 then(if 0<=a.2/\a.2<b8 m.t/\m.t.getD (b9 a.2) 0<0 then O {m with t:=m.t.set (b9 a.2) m.p}else Z)
 else if a.1=3 then(if 0<=a.2/\a.2<b8 m.t/\0<=m.t.getD (b9 a.2) 0 then O {m with p:=m.t.getD (b9 a.2) 0}else Z)
 else if a.1=4 then(if 0<=a.2/\a.2<b8 m.t/\0<=m.t.getD (b9 a.2) 0 then O {m with t:=m.t.set (b9 a.2)<|-1}else Z)
 else if a.1=5 then(if a.2=0/\m.q= -1/\m.p=m.L then O {m with q:=m.p}else Z)
 else if a.1=6 then(if a.2=0/\m.q= -1/\m.p=m.L-1 then O {m with q:=m.p}else Z)
 else if a.1=7 then(if a.2=0/\0<m.q/\m.p=m.q-1 then O {m with q:=m.p}else Z)
 else Z
inductive Run (nx:Mc->Option (Int×Int)):Mc->List (Int×Int)->Mc->Prop
 |nil (m:Mc):Run nx m [] m
 |cons {m m' m'':Mc} {a:Int×Int} {l:List<|Int×Int}:nx m=O a->Kg a m=O m'->Run nx m' l m''->Run nx m (a::l) m''
def Run.append {e:Mc->Option (Int×Int)}{m m' d:Mc}{l l':List<|Int×Int}(h:Run e m l m')(g:Run e m' l' d):Run e m (l++l') d:=by
 induction h with
 |nil=>exact g
 |cons a b _ o=>exact .cons a b<|o g
def Run.one {b:Mc->Option (Int×Int)}{m m':Mc}{a:Int×Int}(d:b m=O a)(e:Kg a m=O m'):Run b m [a] m':= .cons d e<|.nil _
def oD (t:Zd):Int:=t.foldl max<|-1
def AD (t:Zd)(x:Int):Nat:=t.findIdx λy=>Zc<|y=x
def Dn (t:Zd):Nat:=t.countP λy=>Zc<|y<0
def MO (t:Zd):Nat:=t.findIdx λy=>Zc<|y<0
def Ht (l s:Nat):Nat:=((List.range<|l+1).find? λr=>Zc<|l<=ch (s+r) r).getD 0
theorem WE (l:Nat){s:Nat}(d:1<=s):IsRep l s<|Ht l s:=by
 unfold Ht;cases h:(List.range<|l+1).find? λr=>Zc (l<=ch (s+r) r)with
 |none=>
  have:=List.find?_eq_none.1 h l (aH.2 V1);have:=J2 d l
  grind
 |some r=>
  have⟨b,e⟩:=List.find?_range_eq_some.1 h;refine⟨of_decide_eq_true b,λx g=> ?_⟩
  grind
def Bc (m:Mc):Option<|Int×Int:=
 let e:=if m.q<0 then m.L else m.q
 if 0<=m.q/\e<=oD m.t then O (4,AD m.t<|oD m.t)
 else if m.q=0 then Z
 else if m.q<0/\m.p=m.L then O (5,0)
 else if m.p=e-1 then(if 0<=m.q then O (7,0)else O (6,0))
 else if oD m.t<0 then(if e<=m.p then Z else O (2,0))
 else if m.p<oD m.t∨e<=m.p then O (3,AD m.t<|oD m.t)
 else if oD m.t<m.p/\0<Dn m.t then O (2,MO m.t)
 else if oD m.t<m.p then O (1,e-1-m.p)
 else O (1,spI (e-oD m.t) (Dn m.t+1)<|Ht (b9<|e-oD m.t)<|Dn m.t+1)
theorem uz (t:Zd): ∀x,x<=t.foldl max x/\(∀y∈t,y<=t.foldl max x)/\(t.foldl max x=x∨t.foldl max x∈t):=by
 induction t with
 |nil=>exact λx=>⟨Int.le_refl _,λy hy=>by(cases hy), .inl rfl⟩
 |cons z t d=>
  intro x;have⟨e,b,g⟩:=d<|max x z;rw[List.foldl_cons];refine⟨V1,λy hy=> ?_, ?_⟩
  .rcases aA.1 hy with rfl|hy
   .omega
   exact b y hy
  grind
theorem IQ {x:Int}(g: -1<=x)(d: ∀y∈t,y<=x)(e:x= -1∨x∈t):oD t=x:=by
 have⟨a,b,c⟩:=uz t<|-1;unfold oD
 grind
theorem aU2 {x:Int}(e:0<=x)(d: ∀y∈t,y<x):oD t<x:=by
 have⟨a,b,c⟩:=uz t<|-1;unfold oD
 grind
def He {y:Int}(h:y∈t.set k a):y∈t∨y=a:=List.mem_or_eq_of_mem_set h
def aF8 (e:0<=a)(b:k<b8 t)(h: ∀y∈t,y<a):oD (t.set k a)=a:=
 IQ V1 (λy d=>by rcases He d with k|k;exact Int.le_of_lt<|h y k;omega) (.inr<|List.mem_set b a)
theorem aF0 (b:k<b8 t)(h: ∀y∈t,y<a):AD (t.set k a) a=k:=by
 unfold AD;rw[List.findIdx_eq (by rw[List.length_set];exact b)];refine⟨V2,λj d=> ?_⟩;have:=h t[j] (List.getElem_mem _)
 grind
def aq1 (h:0<Dn t): ∃b:MO t<b8 t,t[MO t]<0:=by
 unfold Dn at h;have⟨y,e,d⟩:=List.countP_pos_iff.1 h;have b:MO t<b8 t:=List.findIdx_lt_length_of_exists ⟨y,e,d⟩;refine⟨b,of_decide_eq_true<|List.findIdx_getElem (w:=b)⟩
theorem ax5 (b:0<=a)(d:k<b8 t)(h:t[k]<0):Dn (t.set k a)+1=Dn t:=by
 unfold Dn
 grind
end
end Go.V
