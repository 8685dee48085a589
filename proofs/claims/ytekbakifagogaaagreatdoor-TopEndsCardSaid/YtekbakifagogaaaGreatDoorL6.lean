/- A part of the proof. No condition. -/
import Derived.Test.YtekbakifagogaaaGreatDoorL5
set_option linter.unusedVariables false
set_option linter.unusedSimpArgs false
set_option linter.unusedSectionVars false
namespace Go.V
open Go.Ab
open Option renaming some->O,none->Y
open Bool renaming true->Za,false->Zb
open Decidable renaming decide->Zc
variable {l rest t w:Zd}{s:Dy}{i:Nat}{en q:Bool}{B x:Int}{a:Int×Int}
section
open Go.IntKind renaming wrap -> zH, i64 -> zI, u64 -> zJ
open List renaming append_assoc -> aB, getD_eq_getElem?_getD -> aD, getElem?_append_right -> bB
set_option maxRecDepth 100000
def YZ (s x:Int):Int:=(3*s+x) % 18446744073709551616
def S36 (l:Zd):Int:=l.foldl YZ 1
theorem Q6 (a b:Int):xW [a,b]=O (a*b % 18446744073709551616):=by
 unfold xW;rw[H7 (l:=[a,b]) (λs x=>s*x % 18446744073709551616) 1 (c:=id) (by simp) ?_ ?_]
 .simp only[zG,List.foldl,id];rw[Int.one_mul,Int.mul_emod,Int.emod_emod_of_dvd _ (Int.dvd_refl _),<-Int.mul_emod]
 .intro i hi s;simp only[Ad,ag];rw[Zg,cn hi];simp only[zG];rw[ad (by simp at hi;omega),UJ];rfl
 .intro s;simp only[Ad,ag];rw[Zh];rfl
theorem Q5 (a b:Int):xV [a,b]=O ((a+b) % 18446744073709551616):=by
 unfold xV;rw[H7 (l:=[a,b]) (λs x=>(s+x) % 18446744073709551616) 0 (c:=id) (by simp) ?_ ?_]
 .simp only[zG,List.foldl,id]
  congr 1
  omega
 .intro i hi s;simp only[Ac,ag];rw[Zg,cn hi];simp only[zG];rw[ad (by simp at hi;omega),UJ];rfl
 .intro s;simp only[Ac,ag];rw[Zh];rfl
theorem UE (s x:Int):(s*3 % 18446744073709551616+x) % 18446744073709551616=YZ s x:=by
 unfold YZ;omega
theorem Sw (l:Zd)(b:l.length<9223372036854775807):wZ l=O (S36 l):=by
 unfold wZ;rw[H7 (l:=l) YZ 1 (c:=id) b ?_ ?_]
 .rfl
 .intro i hi s;simp only[wk,ag];rw[Zg,cn hi];simp only[zG,Q6,Q5,UE];rw[Zi];rfl
 .intro s;simp only[wk,ag];rw[Zh];rfl
def UY (h:Zd)(l:Zd):Zd:=h++(l.length:Int)::l++[S36 (h++(l.length:Int)::l)]
theorem Cb (l:Zd)(a1 a2 a3 a4 a5 a6 a7 a8 a9 a10 a11 a12 a13 a14 a15 a16:Int)(f:l.length<=1048576):mg l a1 a2 a3 a4 a5 a6 a7 a8 a9 a10 a11 a12 a13 a14 a15 a16=
  O (UY [a1,a2,a3,a4,a5,a6,a7,a8,a9,a10,a11,a12,a13,a14,a15,a16] l):=by
 unfold mg UY;rw[ad (show-9223372036854775808<=(16+(((l.length:Nat)):Int))/\(16+(((l.length:Nat)):Int))<=9223372036854775807 by omega),Zi,xP (by omega)];have e:A1 (List.replicate 16 (0:Int)) 0 (List.length (List.replicate 16 (0:Int))) [a1,a2,a3,a4,a5,a6,a7,a8,a9,a10,a11,a12,a13,a14,a15,a16]=[a1,a2,a3,a4,a5,a6,a7,a8,a9,a10,a11,a12,a13,a14,a15,a16]:=rfl;rw[e];have b:Zc (16<=16+(l.length:Int)+2)=Za:=zB (by omega);have d:Zc ((8:Int)*(16+(l.length:Int)+2)<=140737488355328)=Za:=zB (by omega);rw[b,d];show gd Za _=_;rw[bz,bt (by simp) (by omega),bt (by simp;omega) (by omega),Sw _ (by simp;omega)];simp only[zG];rw[bt (by simp;omega) (by omega)];simp only[aB,List.singleton_append]
def Tx (e:Int):Int×Int×Int×Int×Int×Int×Int×Int×Int×Int×Int×Int×Int×Int×Int×Int×Int×Zd:=(0,0,0,0,0,0,0,0,0,0,0,0,0,0,0,0,e,[])
def O9 (w:Zd):Int×Int×Int×Int×Int×Int×Int×Int×Int×Int×Int×Int×Int×Int×Int×Int×Int×Zd:=
 if w.length<18 then Tx 4 else if(w.length:Int)-18<w.getD 16 0 then Tx 4 else if w.getD 16 0<(w.length:Int)-18 then Tx 21
 else if w.getD (w.length-1) 0≠S36 (w.take (w.length-1))then Tx 3 else(w.getD 0 0,w.getD 1 0,w.getD 2 0,w.getD 3 0,w.getD 4 0,w.getD 5 0,w.getD 6 0,w.getD 7 0,w.getD 8 0,w.getD 9 0,w.getD 10 0,w.getD 11 0,w.getD 12 0,w.getD 13 0,w.getD 14 0,w.getD 15 0,0,(w.take (w.length-1)).drop 17)
theorem IN (w:Zd)(k:w.length<=2000000):jS w=O (O9 w):=by
 unfold jS O9;rw[xP (show w.length<9223372036854775808 by omega)];simp only[ag];by_cases j:w.length<18
 .rw[Zg,zE j];rfl
 rw[Zh,zF j,Zj,ad (show-9223372036854775808<=(w.length:Int)-1/\(w.length:Int)-1<=9223372036854775807 by omega)];rw[show rd w 16=O (w.getD 16 0)from qk (i:=16) (by omega)];simp only[zG,ag];by_cases e:(w.length:Int)-18<w.getD 16 0
 .rw[zE e,zE e];rfl
 rw[zF e,zF e];by_cases f:w.getD 16 0<(w.length:Int)-18
 .rw[zE f,zE f];rfl
 rw[zF f,zF f]
 have b:aq (pY w) cx (0,1)=O (S36 (w.take (w.length-1))):=by
  refine fP (n:=w.length-1) (λi=>(w.take i).foldl YZ 1) (by omega) ?_ ?_
  .intro i hi;have d:i<w.length:=by omega
   simp only[pY,ag];rw[Zg,cn d,ad (show-9223372036854775808<=(w.length:Int)-1/\(w.length:Int)-1<=9223372036854775807 by omega)];simp only[zG,Q6,Q5,UE];rw[Zh,Zi,List.take_succ_eq_append_getElem d,List.foldl_append];rfl
  .simp only[pY,ag];rw[Zg,cn (by omega),ad (show-9223372036854775808<=(w.length:Int)-1/\(w.length:Int)-1<=9223372036854775807 by omega)];simp only[zG];rw[Zg];rfl
 rw[b,show rd w ((w.length:Int)-1)=O (w.getD (w.length-1) 0)from by rw[<-qk (by omega)];congr 1;omega];simp only[zG,ag];by_cases g:w.getD (w.length-1) 0≠S36 (w.take (w.length-1))
 .rw[zE g,zE g];rfl
 rw[zF g,zF g];unfold ej ak lC;rw[zB (show(0:Int)<=17 by omega),zB (show(17:Int)<=(w.length:Int)-1 by omega),zB (show(w.length:Int)-1<=(w.length:Int)by omega)];show gd Za _=_;rw[bz,bt (by simp;omega) (by omega)];simp only[zG];rw[show((w.length:Int)-1).toNat=w.length-1 by omega];rfl
theorem Og {h:Zd}(b:h.length=16):(UY h l).length=l.length+18:=by
 simp[UY,b];omega
theorem WT {h:Zd}(b:h.length=16):(UY h l).take (l.length+17)=h++(l.length:Int)::l:=by
 unfold UY;rw[List.take_append_of_le_length (by simp[b];omega),List.take_of_length_le (by simp[b];omega)]
theorem WS {h:Zd}(b:h.length=16):(UY h l).getD (l.length+17) 0=S36 (h++(l.length:Int)::l):=by
 unfold UY;rw[aD,bB (by simp[b];omega)];simp[b];rw[show l.length+17-(16+(l.length+1))=0 by omega];rfl
theorem ax6 {h:Zd}(b:h.length=16):(UY h l).getD 16 0=l.length:=by
 unfold UY;rw[aD,aB,bB (by simp[b])];simp[b]
theorem YC (l:Zd)(a1 a2 a3 a4 a5 a6 a7 a8 a9 a10 a11 a12 a13 a14 a15 a16:Int):O9 (UY [a1,a2,a3,a4,a5,a6,a7,a8,a9,a10,a11,a12,a13,a14,a15,a16] l)=(a1,a2,a3,a4,a5,a6,a7,a8,a9,a10,a11,a12,a13,a14,a15,a16,0,l):=by
 have b:[a1,a2,a3,a4,a5,a6,a7,a8,a9,a10,a11,a12,a13,a14,a15,a16].length=16:=rfl;unfold O9;rw[Og b,ax6 b,Zh,Zh,Zh,show l.length+18-1=l.length+17 by omega,WS b,WT b,zF (by simp)];have d:([a1,a2,a3,a4,a5,a6,a7,a8,a9,a10,a11,a12,a13,a14,a15,a16]++(l.length:Int)::l).drop 17=l:=rfl;rw[d];rfl
theorem Of {a0:Int}{a1 a2:Zd}{a3:Int}{a4:List ci}{a5:Int}{a6:List ci}{a7 a8:Int}{k o p r y z A C D E b d e f g j:Int}(F:l.length<=1048576):
  lJ a0 a1 a2 a3 a4 a5 a6 a7 a8 (UY [k,o,p,r,y,z,A,C,D,E,b,d,e,f,g,j] l)=ic a0 a1 a2 a3 a4 a5 a6 a7 a8 l k o p r y z A C D E b d e f g j:=by
 unfold lJ;rw[IN _ (by rw[Og rfl];omega),YC];simp only[zG];rw[zA (by simp),zD];cases ic a0 a1 a2 a3 a4 a5 a6 a7 a8 l k o p r y z A C D E b d e f g j with
 |none=>rfl
 |some x=>
  cases x with
  |inl u=>rfl
  |inr w=>cases w with
   |inl u=>rfl
   |inr v=>rfl
def bI (b:Bool):Int:=cond b 1 0
def Qx (m L q b d:Int):Bool:=cond (Zc (1<b)) Zb (cond (Zc (1<d)) Zb (cond (Zc (1<IntKind.u64.wrap (b+d))) Zb (cond (Zc (m≠2)) (Zc (zH zJ (b+d)=0)) (cond (Zc (d=1)) (cond (!(Zc (0<=q))) (Zc (L=65535)) Zb) (cond (Zc (b=1)) Za (!(Zc (0<=q))))))))
section
variable {c:Cx}
theorem Xx (s:Dy)(m:Int)(a b:Bool):i8 m a b c.fixed c.tp c.sl c.ns c.mode c.R c.Q c.len c.words s.L s.p s.q s.c0 s.c1 s.c2 s.c3 s.z c.X c.T c.l c.k c.P c.tk s.lv s.pk c.words s.W=O (s.p,s.q):=rfl
theorem UC (h:c.Ok)(d:c.mode≠3)(s:Dy)(b:Wd c s.W)(e: ∀k,k<c.ns.toNat->0<=iA c s.W k/\iA c s.W k<=65536):dh c.fixed c.tp c.sl c.ns c.mode c.R c.Q c.len c.words s.L s.p s.q s.c0 s.c1 s.c2 s.c3 s.z c.X c.T c.l c.k c.P c.tk (c.off 8:Int) c.ns (c.X.length:Int) s.lv s.pk c.words s.W=O (s.p,s.q,lV c s.W):=by
 unfold dh;rw[Hm h d b e];rfl
theorem az9 (h:c.Ok)(e:c.mode≠3)(s:Dy)(hi:Inv c s)(m:Int)(a b:Bool):fc m a b c.fixed c.tp c.sl c.ns c.mode c.R c.Q c.len c.words s.L s.p s.q s.c0 s.c1 s.c2 s.c3 s.z c.X c.T c.l c.k c.P c.tk (c.off 8:Int) c.ns (c.X.length:Int) s.lv s.pk c.words s.W=O (s.p,s.q,lV c s.W):=by
 unfold fc;exact cl (UC h e s hi.w λk d=>by have:=hi.tag k d;have:=hi.L;omega) rfl
theorem aA0 (h:c.Ok)(e:c.mode≠3)(s:Dy)(hi:Inv c s)(m:Int)(a b:Bool):fd m a b c.fixed c.tp c.sl c.ns c.mode c.R c.Q c.len c.words s.L s.p s.q s.c0 s.c1 s.c2 s.c3 s.z c.X c.T c.l c.k c.P c.tk (c.off 8:Int) c.ns (c.X.length:Int) s.lv s.pk c.words s.W=O (s.p,s.q,lV c s.W):=by
 unfold fd;exact cl (UC h e s hi.w λk d=>by have:=hi.tag k d;have:=hi.L;omega) rfl
theorem aJ4 (s:Dy)(m d e:Int)(a b:Bool):kK d e m a b c.fixed c.tp c.sl c.ns c.mode c.R c.Q c.len c.words s.L s.p s.q s.c0 s.c1 s.c2 s.c3 s.z c.X c.T c.l c.k c.P c.tk s.lv s.pk c.words s.W=O (Qx m s.L s.q d e):=by
 unfold kK;refine cl (Xx s m a b) ?_;rw[show gi m a b c.fixed c.tp c.sl c.ns c.mode c.R c.Q c.len c.words s.L s.p s.q s.c0 s.c1 s.c2 s.c3 s.z c.X c.T c.l c.k c.P c.tk s.lv s.pk c.words s.W=O s.L from rfl];simp only[zG];unfold Qx;cases Zc (1<d)<;>cases Zc (1<e)<;>cases Zc (1<IntKind.u64.wrap (d+e))<;>cases Zc (m≠2)<;>cases Zc (e=1)<;>cases Zc (0<=s.q)<;>cases Zc (d=1)<;>rfl
theorem aJ5 (h:c.Ok)(f:c.mode≠3)(s:Dy)(hi:Inv c s)(m d e:Int)(a b:Bool):kL d e m a b c.fixed c.tp c.sl c.ns c.mode c.R c.Q c.len c.words s.L s.p s.q s.c0 s.c1 s.c2 s.c3 s.z c.X c.T c.l c.k c.P c.tk (c.off 8:Int) c.ns (c.X.length:Int) s.lv s.pk c.words s.W=O (Qx m s.L s.q d e):=by
 unfold kL;refine cl (az9 h f s hi m a b) ?_;rw[show fE m a b c.fixed c.tp c.sl c.ns c.mode c.R c.Q c.len c.words s.L s.p s.q s.c0 s.c1 s.c2 s.c3 s.z c.X c.T c.l c.k c.P c.tk (c.off 8:Int) c.ns (c.X.length:Int) s.lv s.pk c.words s.W=O s.L from rfl];simp only[zG];unfold Qx;cases Zc (1<d)<;>cases Zc (1<e)<;>cases Zc (1<IntKind.u64.wrap (d+e))<;>cases Zc (m≠2)<;>cases Zc (e=1)<;>cases Zc (0<=s.q)<;>cases Zc (d=1)<;>rfl
theorem aJ6 (h:c.Ok)(f:c.mode≠3)(s:Dy)(hi:Inv c s)(m d e:Int)(a b:Bool):kM d e m a b c.fixed c.tp c.sl c.ns c.mode c.R c.Q c.len c.words s.L s.p s.q s.c0 s.c1 s.c2 s.c3 s.z c.X c.T c.l c.k c.P c.tk (c.off 8:Int) c.ns (c.X.length:Int) s.lv s.pk c.words s.W=O (Qx m s.L s.q d e):=by
 unfold kM;refine cl (aA0 h f s hi m a b) ?_;rw[show fF m a b c.fixed c.tp c.sl c.ns c.mode c.R c.Q c.len c.words s.L s.p s.q s.c0 s.c1 s.c2 s.c3 s.z c.X c.T c.l c.k c.P c.tk (c.off 8:Int) c.ns (c.X.length:Int) s.lv s.pk c.words s.W=O s.L from rfl];simp only[zG];unfold Qx;cases Zc (1<d)<;>cases Zc (1<e)<;>cases Zc (1<IntKind.u64.wrap (d+e))<;>cases Zc (m≠2)<;>cases Zc (e=1)<;>cases Zc (0<=s.q)<;>cases Zc (d=1)<;>rfl
def KV (c:Cx)(s:Dy)(en b:Bool):Zd:=UY [zH zJ c.mode,zH zJ s.L,zH zJ s.p,zH zJ (zH zI (s.q+1)),zH zJ c.ns,zH zJ s.c0,zH zJ s.c1,zH zJ s.c2,zH zJ s.c3,zH zJ s.lv,zH zJ s.pk,s.z,bI en,bI b,0,0] s.W
theorem ER (b:Bool):jR b=O (bI b):=by cases b<;>rfl
theorem az6 (s:Dy)(m:Int)(a b:Bool):jh m a b c.fixed c.tp c.sl c.ns c.mode c.R c.Q c.len c.words s.L s.p s.q s.c0 s.c1 s.c2 s.c3 s.z c.X c.T c.l c.k c.P c.tk s.lv s.pk c.words s.W=O (Re c s):=by
 unfold jh;exact cl (WQ s) rfl
theorem aI9 (h:c.Ok)(d:Wd c s.W)(e:s.W.length<=1048576)(m:Int)(en b:Bool):iV m en b c.fixed c.tp c.sl c.ns c.mode c.R c.Q c.len c.words s.L s.p s.q s.c0 s.c1 s.c2 s.c3 s.z c.X c.T c.l c.k c.P c.tk s.lv s.pk c.words s.W=O (KV c s en b):=by
 unfold iV;refine cl (az6 s m en b) ?_;simp only[Re];refine cl (ER en) (cl (ER b) ?_);refine cl (show kJ m en b c.fixed c.tp c.sl c.ns c.mode c.R c.Q c.len c.words s.L s.p s.q s.c0 s.c1 s.c2 s.c3 s.z c.X c.T c.l c.k c.P c.tk s.lv s.pk c.words s.W=O s.W from by unfold kJ;exact cl (aB1 h d) rfl) ?_;exact cl (Cb _ _ _ _ _ _ _ _ _ _ _ _ _ _ _ _ _ e) rfl
theorem az7 (s:Dy)(m:Int)(a b:Bool):iF m a b c.fixed c.tp c.sl c.ns c.mode c.R c.Q c.len c.words s.L s.p s.q s.c0 s.c1 s.c2 s.c3 s.z c.X c.T c.l c.k c.P c.tk (c.off 8:Int) c.ns (c.X.length:Int) s.lv s.pk c.words s.W=O (Re c s):=by
 unfold iF;exact cl (PN s) rfl
theorem aJ0 (h:c.Ok)(d:Wd c s.W)(e:s.W.length<=1048576)(m:Int)(en b:Bool):iW m en b c.fixed c.tp c.sl c.ns c.mode c.R c.Q c.len c.words s.L s.p s.q s.c0 s.c1 s.c2 s.c3 s.z c.X c.T c.l c.k c.P c.tk (c.off 8:Int) c.ns (c.X.length:Int) s.lv s.pk c.words s.W=O (KV c s en b):=by
 unfold iW;refine cl (az7 s m en b) ?_;simp only[Re];refine cl (ER en) (cl (ER b) ?_);refine cl (show jf m en b c.fixed c.tp c.sl c.ns c.mode c.R c.Q c.len c.words s.L s.p s.q s.c0 s.c1 s.c2 s.c3 s.z c.X c.T c.l c.k c.P c.tk (c.off 8:Int) c.ns (c.X.length:Int) s.lv s.pk c.words s.W=O s.W from by unfold jf;exact cl (XG h d) rfl) ?_;exact cl (Cb _ _ _ _ _ _ _ _ _ _ _ _ _ _ _ _ _ e) rfl
theorem az8 (s:Dy)(m:Int)(a b:Bool):iG m a b c.fixed c.tp c.sl c.ns c.mode c.R c.Q c.len c.words s.L s.p s.q s.c0 s.c1 s.c2 s.c3 s.z c.X c.T c.l c.k c.P c.tk (c.off 8:Int) c.ns (c.X.length:Int) s.lv s.pk c.words s.W=O (Re c s):=by
 unfold iG;exact cl (PN s) rfl
theorem aJ1 (h:c.Ok)(d:Wd c s.W)(e:s.W.length<=1048576)(m:Int)(en b:Bool):iX m en b c.fixed c.tp c.sl c.ns c.mode c.R c.Q c.len c.words s.L s.p s.q s.c0 s.c1 s.c2 s.c3 s.z c.X c.T c.l c.k c.P c.tk (c.off 8:Int) c.ns (c.X.length:Int) s.lv s.pk c.words s.W=O (KV c s en b):=by
 unfold iX;refine cl (az8 s m en b) ?_;simp only[Re];refine cl (ER en) (cl (ER b) ?_);refine cl (show jg m en b c.fixed c.tp c.sl c.ns c.mode c.R c.Q c.len c.words s.L s.p s.q s.c0 s.c1 s.c2 s.c3 s.z c.X c.T c.l c.k c.P c.tk (c.off 8:Int) c.ns (c.X.length:Int) s.lv s.pk c.words s.W=O s.W from by unfold jg;exact cl (XG h d) rfl) ?_;exact cl (Cb _ _ _ _ _ _ _ _ _ _ _ _ _ _ _ _ _ e) rfl
theorem Pa (d:s.W.length<=1048576)(en b:Bool):jS (KV c s en b)=O (zH zJ c.mode,zH zJ s.L,zH zJ s.p,zH zJ (zH zI (s.q+1)),zH zJ c.ns,zH zJ s.c0,zH zJ s.c1,zH zJ s.c2,zH zJ s.c3,zH zJ s.lv,zH zJ s.pk,s.z,bI en,bI b,0,0,0,s.W):=by
 unfold KV;rw[IN _ (by rw[Og rfl];omega),YC]
theorem RY (h:c.Ok)(f:c.mode=3)(e:fi c.mode c.X.length c.T.length c.R c.l c.Q c.k c.len c.words=(c.fixed,c.tp,c.sl,c.ns,0))(hi:InvB c s)(d:Dp B s)(b:B<=2305843009213693952)(x y:Int):
  ic c.mode c.X c.T c.R c.l c.Q c.k c.len c.words s.W (zH zJ c.mode) (zH zJ s.L) (zH zJ s.p) (zH zJ (zH zI (s.q+1))) (zH zJ c.ns) (zH zJ s.c0) (zH zJ s.c1) (zH zJ s.c2) (zH zJ s.c3) (zH zJ s.lv) (zH zJ s.pk) s.z x y 0 0=O (.inr (.inl (TK c s))):=ax9 h f e hi d b
theorem Kf (h:c.Ok)(g:c.mode≠3)(e:fi c.mode c.X.length c.T.length c.R c.l c.Q c.k c.len c.words=(c.fixed,c.tp,c.sl,c.ns,0))(hi:Inv c s)(d:Gp c s)(f:Dp B s)(b:B<=2305843009213693952)(x y:Int):
  ic c.mode c.X c.T c.R c.l c.Q c.k c.len c.words s.W (zH zJ c.mode) (zH zJ s.L) (zH zJ s.p) (zH zJ (zH zI (s.q+1))) (zH zJ c.ns) (zH zJ s.c0) (zH zJ s.c1) (zH zJ s.c2) (zH zJ s.c3) (zH zJ s.lv) (zH zJ s.pk) s.z x y 0 0=O (.inr (.inr (MV c s))):=ay0 h g e hi d f b
theorem Lb {L q:Int}{m:Int}(d:m≠2->en=Zb)(f:0<=q->m=2->en=Za):Qx m L q (bI en) (bI Zb)=Za:=by
 unfold Qx;cases en with
 |false=>
  have e: ¬(0<=q/\m=2):=λk=>by cases f k.1 k.2
  by_cases b:m=2
  .rw[zA (show¬(m≠2)from λk=>k b),zA (show¬(0<=q)from λk=>e ⟨k,b⟩)];rfl
  .rw[zB (show m≠2 from b)];rfl
 |true=>
  have b:m=2:=Classical.byContradiction λk=>by cases d k
  rw[zA (show¬(m≠2)from λk=>k b)];rfl
theorem WD (h:c.Ok)(d:c.mode=3)(e:fi c.mode c.X.length c.T.length c.R c.l c.Q c.k c.len c.words=(c.fixed,c.tp,c.sl,c.ns,0))(hi:InvB c s)(j:Dp B s)(g:B<=2305843009213693952)(b:s.W.length<=1048576):
  gB c.mode c.X c.T c.R c.l c.Q c.k c.len c.words (KV c s Zb Zb)=O (.inr (.inl (c.mode,Zb,Zb,c.fixed,c.tp,c.sl,c.ns,c.mode,c.R,c.Q,c.len,c.words,s.L,s.p,s.q,s.c0,s.c1,s.c2,s.c3,s.z,c.X,c.T,c.l,c.k,c.P,c.tk,s.lv,s.pk,c.words,s.W))):=by
 unfold gB;have f:lJ c.mode c.X c.T c.R c.l c.Q c.k c.len c.words (KV c s Zb Zb)=O (.inr (.inl (TK c s))):=(Of b).trans (RY h d e hi j g _ _);refine cl f ?_;simp only[cb,gH,TK];refine cl (Pa b Zb Zb) ?_
 refine cl (show lI c.mode c.X c.T c.R c.l c.Q c.k c.len c.words c.fixed c.tp c.sl c.ns c.mode c.R c.Q c.len c.words s.L s.p s.q s.c0 s.c1 s.c2 s.c3 s.z c.X c.T c.l c.k c.P c.tk s.lv s.pk c.words s.W=O (c.mode,Zb,Zb)from by
  simp only[lI,d]
  rfl) ?_
 refine cl (aJ4 s c.mode (bI Zb) (bI Zb) Zb Zb) ?_;rw[Lb (λ_=>rfl) (λ_ k=>by omega)];rfl
theorem WE (h:c.Ok)(u:c.mode=1)(e:fi c.mode c.X.length c.T.length c.R c.l c.Q c.k c.len c.words=(c.fixed,c.tp,c.sl,c.ns,0))(hi:Inv c s)(o:Gp c s)(r:Dp B s)(j:B<=2305843009213693952)(b:s.W.length<=1048576)(f:c.mode≠2->en=Zb)(g:0<=s.q->c.mode=2->en=Za):
  gB c.mode c.X c.T c.R c.l c.Q c.k c.len c.words (KV c s en Zb)=O (.inr (.inr (.inl (c.mode,en,Zb,c.fixed,c.tp,c.sl,c.ns,c.mode,c.R,c.Q,c.len,c.words,s.L,s.p,s.q,s.c0,s.c1,s.c2,s.c3,s.z,c.X,c.T,c.l,c.k,c.P,c.tk,(c.off 8:Int),c.ns,(c.X.length:Int),s.lv,s.pk,c.words,s.W)))):=by
 unfold gB;have d:lJ c.mode c.X c.T c.R c.l c.Q c.k c.len c.words (KV c s en Zb)=O (.inr (.inr (MV c s))):=(Of b).trans (Kf h (by omega) e hi o r j _ _);refine cl d ?_;simp only[cb,MV];refine cl (Pa b en Zb) ?_
 refine cl (show gC c.mode c.X c.T c.R c.l c.Q c.k c.len c.words c.fixed c.tp c.sl c.ns c.mode c.R c.Q c.len c.words s.L s.p s.q s.c0 s.c1 s.c2 s.c3 s.z c.X c.T c.l c.k c.P c.tk (c.off 8:Int) c.ns (c.X.length:Int) s.lv s.pk c.words s.W=O (.inl (c.mode,Zb,Zb))from by
  simp only[gC,u]
  rfl) ?_
 rw[gH];refine cl (aJ5 h (by omega) s hi c.mode (bI en) (bI Zb) Zb Zb) ?_;rw[Lb f g];cases en<;>rfl
theorem WF (h:c.Ok)(u:c.mode=2)(e:fi c.mode c.X.length c.T.length c.R c.l c.Q c.k c.len c.words=(c.fixed,c.tp,c.sl,c.ns,0))(hi:Inv c s)(o:Gp c s)(r:Dp B s)(j:B<=2305843009213693952)(b:s.W.length<=1048576)(f:c.mode≠2->en=Zb)(g:0<=s.q->c.mode=2->en=Za):
  gB c.mode c.X c.T c.R c.l c.Q c.k c.len c.words (KV c s en Zb)=O (.inr (.inr (.inr (c.mode,en,Zb,c.fixed,c.tp,c.sl,c.ns,c.mode,c.R,c.Q,c.len,c.words,s.L,s.p,s.q,s.c0,s.c1,s.c2,s.c3,s.z,c.X,c.T,c.l,c.k,c.P,c.tk,(c.off 8:Int),c.ns,(c.X.length:Int),s.lv,s.pk,c.words,s.W)))):=by
 unfold gB;have d:lJ c.mode c.X c.T c.R c.l c.Q c.k c.len c.words (KV c s en Zb)=O (.inr (.inr (MV c s))):=(Of b).trans (Kf h (by omega) e hi o r j _ _);refine cl d ?_;simp only[cb,MV];refine cl (Pa b en Zb) ?_
 refine cl (show gC c.mode c.X c.T c.R c.l c.Q c.k c.len c.words c.fixed c.tp c.sl c.ns c.mode c.R c.Q c.len c.words s.L s.p s.q s.c0 s.c1 s.c2 s.c3 s.z c.X c.T c.l c.k c.P c.tk (c.off 8:Int) c.ns (c.X.length:Int) s.lv s.pk c.words s.W=O (.inr (c.mode,Zb,Zb))from by
  simp only[gC,u]
  rfl) ?_
 rw[cb];refine cl (aJ6 h (by omega) s hi c.mode (bI en) (bI Zb) Zb Zb) ?_;rw[Lb f g];cases en<;>rfl
end
end
section
open Bool renaming not_true -> aB
section
variable {c:Cx} (h:c.Ok)
def QE (c:Cx)(en:Bool)(s:Dy):Prop:=(c.mode≠2->en=Zb)/\(0<=s.q->c.mode=2->en=Za)
theorem Cm :QE c Zb (qF c):=⟨λ_=>rfl,λb _=>by
 have:(qF c).q= -1:=by unfold qF;split<;>rfl
 omega⟩
include h
theorem F6 (w:co c i s)(Q:QE c en s)(e:qI c en s=O a)(m:vC c a s):QE c en (sj c a s):=by
 refine⟨Q.1,λg j=> ?_⟩;by_cases u:0<=s.q
 .exact Q.2 u j
 have o: ¬c.mode=3:=by omega
 unfold qI at e;unfold vC at m;unfold sj at g;unfold co at w;rw[zF o]at e m g w;rw[zE j]at e;obtain⟨p,m⟩:=m;have f:=(JH h o w.inv m).2;have v:(HS c a.1 a.2 s).2.q=p.q:=congrArg Mc.q f
 have d:a.1=1∨a.1=2∨a.1=4∨en=Za:=by
  unfold qG at e;simp only at e;rw[zE (show(qi c s).q<0 by show s.q<0;omega)]at e;split at e
  .injection e with e;subst e;exact .inl rfl
  .split at e
   .injection e with e;subst e;exact .inr (.inr (.inl rfl))
   .split at e
    .injection e with e;subst e;exact .inr (.inl rfl)
    .split at e
     .rename_i r;exact .inr (.inr (.inr r))
     .cases e
 have b:a.1=1∨a.1=2∨a.1=4->p.q=s.q:=λk=>by
  unfold K9 at m;rcases k with k|k|k
  all_goals
   rw[k]at m;simp only[Int.reduceEq,if_false,if_true]at m;split at m
   .injection m with m;subst m;rfl
   .cases m
 rcases d with k|k|k|k
 .have:=b (.inl k);omega
 .have:=b (.inr (.inl k));omega
 .have:=b (.inr (.inr k));omega
 .exact k
theorem R5 (s:Dy)(g:Int)(en b:Bool):ll g en b c.fixed c.tp c.sl c.ns c.mode c.R c.Q c.len c.words s.L s.p s.q s.c0 s.c1 s.c2 s.c3 s.z c.X c.T c.l c.k c.P c.tk s.lv s.pk c.words s.W=O (match Yf s with|some a=>(a.1,Za)|none=>(0,Zb)):=by
 unfold ll;refine cl (Xx s g en b) ?_;rw[show gi g en b c.fixed c.tp c.sl c.ns c.mode c.R c.Q c.len c.words s.L s.p s.q s.c0 s.c1 s.c2 s.c3 s.z c.X c.T c.l c.k c.P c.tk s.lv s.pk c.words s.W=O s.L from rfl];unfold Yf;by_cases c1:s.q<0
 .by_cases c2:s.p<s.L
  .simp only[zG,zB c1,zC,zB c2,zE c1,zE c2]
  .simp only[zG,zB c1,zC,zA c2,zE c1,zF c2,zD]
 .by_cases c2:0<s.q
  .simp only[zG,zA c1,zC,zB c2,zF c1,zE c2,zD]
  .simp only[zG,zA c1,zC,zA c2,zF c1,zF c2,zD]
omit h in
theorem at4 (e:Yf s=O a):a.2=0:=by
 unfold Yf at e;split at e
 .split at e<;>(injection e with e;subst e;rfl)
 .split at e
  .injection e with e;subst e;rfl
  .cases e
omit h in
theorem al1 (b:c.mode=3)(en:Bool)(s:Dy):qI c en s=Yf s:=by unfold qI;rw[zE b]
theorem aK7 (b:c.mode=3)(j:i<=1000000)(w:co c i s)(e:qI c en s=O a)(m:vC c a s):
  eU c.mode en Zb c.fixed c.tp c.sl c.ns c.mode c.R c.Q c.len c.words s.L s.p s.q s.c0 s.c1 s.c2 s.c3 s.z c.X c.T c.l c.k c.P c.tk s.lv s.pk c.words s.W=O (a.1,Za,0,c.fixed,c.tp,c.sl,c.ns,c.mode,c.R,c.Q,c.len,c.words,(sj c a s).L,(sj c a s).p,(sj c a s).q,(sj c a s).c0,(sj c a s).c1,(sj c a s).c2,(sj c a s).c3,(sj c a s).z,(sj c a s).lv,(sj c a s).pk,c.words,(sj c a s).W):=by
 have d:=w;unfold co at d;rw[zE b]at d;rw[al1 b]at e;have f:=at4 e;unfold vC at m;rw[zE b,f]at m;have g:sj c a s=(F4 c a.1 0 s).2:=by unfold sj;rw[zE b,f]
 unfold eU;rw[zD];refine cl (R5 h s c.mode en Zb) ?_;rw[e];show cond (!Za) _ _=_;rw[aB,zD];refine cl (do1 h b d.inv d.cnt (by omega)) ?_;show cond (Zc ((F4 c a.1 0 s).1≠0)) _ _=_;rw[m,g];rfl
theorem aK5 (b:c.mode=3)(w:co c i s)(e:qI c en s=Y):
  eU c.mode en Zb c.fixed c.tp c.sl c.ns c.mode c.R c.Q c.len c.words s.L s.p s.q s.c0 s.c1 s.c2 s.c3 s.z c.X c.T c.l c.k c.P c.tk s.lv s.pk c.words s.W=O (0,Zb,0,c.fixed,c.tp,c.sl,c.ns,c.mode,c.R,c.Q,c.len,c.words,s.L,s.p,s.q,s.c0,s.c1,s.c2,s.c3,s.z,s.lv,s.pk,c.words,s.W):=by
 have d:=w;unfold co at d;rw[zE b]at d;rw[al1 b]at e;unfold eU;rw[zD];refine cl (R5 h s c.mode en Zb) ?_;rw[e];rfl
theorem aV5 (b:c.mode=3)(w:co c i s):
  iL c.mode en Zb c.fixed c.tp c.sl c.ns c.mode c.R c.Q c.len c.words s.L s.p s.q s.c0 s.c1 s.c2 s.c3 s.z c.X c.T c.l c.k c.P c.tk s.lv s.pk c.words s.W=O (qI c en s).isNone:=by
 have d:=w;unfold co at d;rw[zE b]at d;rw[al1 b];unfold iL;rw[zD];refine cl (R5 h s c.mode en Zb) ?_;cases Yf s<;>rfl
theorem aL4 (b:c.mode=3)(w:co c i s):
  gw c.mode en Zb c.fixed c.tp c.sl c.ns c.mode c.R c.Q c.len c.words s.L s.p s.q s.c0 s.c1 s.c2 s.c3 s.z c.X c.T c.l c.k c.P c.tk s.lv s.pk c.words s.W=O ((qI c en s).isNone&&(Zc (c.mode=2)&& !en)):=by
 unfold gw;refine cl (aV5 h b w) ?_;cases(qI c en s).isNone<;>cases Zc (c.mode=2)<;>cases en<;>rfl
omit h in
theorem aC3 (b:c.mode=1)(en:Bool)(s:Dy):qI c en s=Bc (qi c s):=by unfold qI;rw[Zh,Zh]
theorem aK8 (j:c.mode=1)(o:1<=c.ns)(g:i<=1000000)(w:co c i s)(e:qI c en s=O a)(m:vC c a s):
  du c.mode en Zb c.fixed c.tp c.sl c.ns c.mode c.R c.Q c.len c.words s.L s.p s.q s.c0 s.c1 s.c2 s.c3 s.z c.X c.T c.l c.k c.P c.tk (c.off 8:Int) c.ns (c.X.length:Int) s.lv s.pk c.words s.W=O (a.1,a.2,Za,0,c.fixed,c.tp,c.sl,c.ns,c.mode,c.R,c.Q,c.len,c.words,(sj c a s).L,(sj c a s).p,(sj c a s).q,(sj c a s).c0,(sj c a s).c1,(sj c a s).c2,(sj c a s).c3,(sj c a s).z,(sj c a s).lv,(sj c a s).pk,c.words,(sj c a s).W):=by
 have b:=w;unfold co at b;rw[Zh]at b;rw[aC3 j]at e;unfold vC at m;rw[Zh]at m;obtain⟨r,m⟩:=m;have f:=(JH h (by omega) b.inv m).1;have d:sj c a s=(HS c a.1 a.2 s).2:=by unfold sj;rw[Zh]
 unfold du;rw[zD];refine cl (SJ h (by omega) o b.inv c.mode en Zb) ?_;rw[e];show cond (!Za) _ _=_;rw[aB,zD];refine cl (do2 h (by omega) b.inv b.cnt (by omega)) ?_;show cond (Zc ((HS c a.1 a.2 s).1≠0)) _ _=_;rw[f,d];rfl
theorem aK6 (d:c.mode=1)(f:1<=c.ns)(w:co c i s)(e:qI c en s=Y):
  du c.mode en Zb c.fixed c.tp c.sl c.ns c.mode c.R c.Q c.len c.words s.L s.p s.q s.c0 s.c1 s.c2 s.c3 s.z c.X c.T c.l c.k c.P c.tk (c.off 8:Int) c.ns (c.X.length:Int) s.lv s.pk c.words s.W=O (0,0,Zb,0,c.fixed,c.tp,c.sl,c.ns,c.mode,c.R,c.Q,c.len,c.words,s.L,s.p,s.q,s.c0,s.c1,s.c2,s.c3,s.z,s.lv,s.pk,c.words,s.W):=by
 have b:=w;unfold co at b;rw[Zh]at b;rw[aC3 d]at e;unfold du;rw[zD];refine cl (SJ h (by omega) f b.inv c.mode en Zb) ?_;rw[e];rfl
theorem aV6 (d:c.mode=1)(e:1<=c.ns)(w:co c i s):
  gQ c.mode en Zb c.fixed c.tp c.sl c.ns c.mode c.R c.Q c.len c.words s.L s.p s.q s.c0 s.c1 s.c2 s.c3 s.z c.X c.T c.l c.k c.P c.tk (c.off 8:Int) c.ns (c.X.length:Int) s.lv s.pk c.words s.W=O (qI c en s).isNone:=by
 have b:=w;unfold co at b;rw[Zh]at b;rw[aC3 d];unfold gQ;rw[zD];refine cl (SJ h (by omega) e b.inv c.mode en Zb) ?_;cases Bc (qi c s)<;>rfl
theorem aL5 (b:c.mode=1)(d:1<=c.ns)(w:co c i s):
  fS c.mode en Zb c.fixed c.tp c.sl c.ns c.mode c.R c.Q c.len c.words s.L s.p s.q s.c0 s.c1 s.c2 s.c3 s.z c.X c.T c.l c.k c.P c.tk (c.off 8:Int) c.ns (c.X.length:Int) s.lv s.pk c.words s.W=O ((qI c en s).isNone&&(Zc (c.mode=2)&& !en)):=by
 unfold fS;refine cl (aV6 h b d w) ?_;cases(qI c en s).isNone<;>cases Zc (c.mode=2)<;>cases en<;>rfl
omit h in
theorem aC4 (b:c.mode=2)(en:Bool)(s:Dy):qI c en s=qG en (qi c s):=by unfold qI;rw[Zh,zE b]
theorem aK9 (j:c.mode=2)(o:1<=c.ns)(g:i<=1000000)(w:co c i s)(e:qI c en s=O a)(m:vC c a s):
  dv c.mode en Zb c.fixed c.tp c.sl c.ns c.mode c.R c.Q c.len c.words s.L s.p s.q s.c0 s.c1 s.c2 s.c3 s.z c.X c.T c.l c.k c.P c.tk (c.off 8:Int) c.ns (c.X.length:Int) s.lv s.pk c.words s.W=O (a.1,a.2,Za,0,c.fixed,c.tp,c.sl,c.ns,c.mode,c.R,c.Q,c.len,c.words,(sj c a s).L,(sj c a s).p,(sj c a s).q,(sj c a s).c0,(sj c a s).c1,(sj c a s).c2,(sj c a s).c3,(sj c a s).z,(sj c a s).lv,(sj c a s).pk,c.words,(sj c a s).W):=by
 have b:=w;unfold co at b;rw[Zh]at b;rw[aC4 j]at e;unfold vC at m;rw[Zh]at m;obtain⟨r,m⟩:=m;have f:=(JH h (by omega) b.inv m).1;have d:sj c a s=(HS c a.1 a.2 s).2:=by unfold sj;rw[Zh]
 unfold dv;rw[zD];refine cl (Yp h (by omega) o b.inv c.mode en Zb) ?_;rw[e];show cond (!Za) _ _=_;rw[aB,zD];refine cl (do2 h (by omega) b.inv b.cnt (by omega)) ?_;show cond (Zc ((HS c a.1 a.2 s).1≠0)) _ _=_;rw[f,d];rfl
theorem Wx (d:c.mode=2)(f:1<=c.ns)(w:co c i s)(e:qI c en s=Y):
  dv c.mode en Zb c.fixed c.tp c.sl c.ns c.mode c.R c.Q c.len c.words s.L s.p s.q s.c0 s.c1 s.c2 s.c3 s.z c.X c.T c.l c.k c.P c.tk (c.off 8:Int) c.ns (c.X.length:Int) s.lv s.pk c.words s.W=O (0,0,Zb,0,c.fixed,c.tp,c.sl,c.ns,c.mode,c.R,c.Q,c.len,c.words,s.L,s.p,s.q,s.c0,s.c1,s.c2,s.c3,s.z,s.lv,s.pk,c.words,s.W):=by
 have b:=w;unfold co at b;rw[Zh]at b;rw[aC4 d]at e;unfold dv;rw[zD];refine cl (Yp h (by omega) f b.inv c.mode en Zb) ?_;rw[e];rfl
theorem aV7 (d:c.mode=2)(e:1<=c.ns)(w:co c i s):
  gR c.mode en Zb c.fixed c.tp c.sl c.ns c.mode c.R c.Q c.len c.words s.L s.p s.q s.c0 s.c1 s.c2 s.c3 s.z c.X c.T c.l c.k c.P c.tk (c.off 8:Int) c.ns (c.X.length:Int) s.lv s.pk c.words s.W=O (qI c en s).isNone:=by
 have b:=w;unfold co at b;rw[Zh]at b;rw[aC4 d];unfold gR;rw[zD];refine cl (Yp h (by omega) e b.inv c.mode en Zb) ?_;cases qG en (qi c s)<;>rfl
theorem RJ (b:c.mode=2)(d:1<=c.ns)(w:co c i s):
  fT c.mode en Zb c.fixed c.tp c.sl c.ns c.mode c.R c.Q c.len c.words s.L s.p s.q s.c0 s.c1 s.c2 s.c3 s.z c.X c.T c.l c.k c.P c.tk (c.off 8:Int) c.ns (c.X.length:Int) s.lv s.pk c.words s.W=O ((qI c en s).isNone&&(Zc (c.mode=2)&& !en)):=by
 unfold fT;refine cl (aV7 h b d w) ?_;cases(qI c en s).isNone<;>cases Zc (c.mode=2)<;>cases en<;>rfl
theorem fdm (f:c.mode=2)(g:1<=c.ns)(w:co c i s)(e:qI c Zb s=Y)(o:s.q= -1)(j:s.L<65535):
  eZ Za c.mode Zb Zb c.fixed c.tp c.sl c.ns c.mode c.R c.Q c.len c.words s.L s.p s.q s.c0 s.c1 s.c2 s.c3 s.z c.X c.T c.l c.k c.P c.tk (c.off 8:Int) c.ns (c.X.length:Int) s.lv s.pk c.words s.W=O (0,c.mode,Zb,Zb,c.fixed,c.tp,c.sl,c.ns,c.mode,c.R,c.Q,c.len,c.words,(Fq s).L,(Fq s).p,(Fq s).q,(Fq s).c0,(Fq s).c1,(Fq s).c2,(Fq s).c3,(Fq s).z):=by
 have d:=w;unfold co at d;rw[Zh]at d
 have b:wV c s=(0,Fq s):=by
  unfold wV;rw[Zh,Zh,Zh];rfl
 unfold eZ;rw[zD];refine cl (RJ h f g w) ?_;rw[e,zB f];show cond (!Za) _ _=_;rw[aB,zD,zD];refine cl (aJ7 d.inv.L) ?_;rw[b];rfl
theorem fds (b:c.mode=2)(d:1<=c.ns)(w:co c i s)(e:qI c Zb s=Y):
  eZ Zb c.mode Zb Zb c.fixed c.tp c.sl c.ns c.mode c.R c.Q c.len c.words s.L s.p s.q s.c0 s.c1 s.c2 s.c3 s.z c.X c.T c.l c.k c.P c.tk (c.off 8:Int) c.ns (c.X.length:Int) s.lv s.pk c.words s.W=O (0,c.mode,Za,Zb,c.fixed,c.tp,c.sl,c.ns,c.mode,c.R,c.Q,c.len,c.words,s.L,s.p,s.q,s.c0,s.c1,s.c2,s.c3,s.z):=by
 unfold eZ;rw[zD];refine cl (RJ h b d w) ?_;rw[e,zB b];rfl
end
end
section
open Go.IntKind renaming wrap -> zH, i64 -> zI, u64 -> zJ
open Bool renaming not_true -> bD
open Eq renaming trans -> aD
open List renaming length_drop -> aB, getElem?_cons_succ -> cB, getElem?_cons_zero -> cD, getElem?_eq_getElem -> cK, length_append -> cL, length_take -> cM, mem_of_mem_drop -> cN, take_length -> cO, getElem_cons_drop -> cP, getElem_mem -> cQ, mem_of_mem_take -> cR
open Nat renaming le_trans -> bB
section
variable {l:List ci} {m:Zd}
end
section
variable {l:List ci} {m:Zd}
end
section
variable {a0:Int} {a1 a2:Zd} {a3:Int} {a4:List ci} {a5:Int} {a6:List ci} {a7 a8:Int}
end
theorem Vq {f:(Int×Zd)->Option ((Int×Zd)⊕Zd)}(s:Zd)(g:l.length<1000000)(e: ∀i,(hi:i<l.length)->f ((i:Int),s++l.take i)=O (.inl (((i+1:Nat):Int),s++l.take i++[l[i]])))(d:f ((l.length:Int),s++l)=O (.inr (s++l))):aq f cx (0,s)=O (s++l):=by
 have b:aq f cx (0,s++l.take 0)=O (s++l):=by
  refine fP (n:=l.length) (λi=>s++l.take i) (by omega) (λi hi=> ?_) ?_
  .rw[e i hi,List.take_succ_eq_append_getElem hi,List.append_assoc]
  .rw[cO,d]
 rwa [List.take_zero,List.append_nil]at b
section
variable {a0:Int} {a1 a2:Zd} {a3:Int} {a4:List ci} {a5:Int} {a6:List ci} {a7 a8:Int}
end
section
variable (a0:Int) (a1 a2:Zd) (a3:Int) (a4:List ci) (a5:Int) (a6:List ci) (a7 a8:Int)
end
def lF :Bool->Zd->Option (Int×Zd)
 |false,t=>O (0,t)
 |true,[]=>Y
 |true,x::t=>O (x,t)
def rP (b:Bool):Nat:=if b then 1 else 0
def mm (x:Int):Int:=min x 2147483647
def R7 :Zd->Int×Int×Int×Int×Int×Int×Int
 |[]=>(0,0,0,0,0,0,4)
 |k::t=>if 7<k then(0,0,0,0,0,0,6)else
  match lF (bl k).1 t with
  |none=>(0,0,0,0,0,0,4)
  |some (d,e)=>match lF (bl k).2.1 e with
   |none=>(0,0,0,0,0,0,4)
   |some (a,f)=>match lF (bl k).2.2.1 f with
    |none=>(0,0,0,0,0,0,4)
    |some (b,g)=>match lF (bl k).2.2.2 g with
     |none=>(0,0,0,0,0,0,4)
     |some (v,j)=>(k,mm d,mm a,mm b,v,((1+rP (bl k).1+rP (bl k).2.1+rP (bl k).2.2.1+rP (bl k).2.2.2:Nat):Int),0)
abbrev jx (w:Zd):Prop:= ∀x∈w,0<=x/\x<=18446744073709551615
theorem A5 {n:Nat}(h:w.drop n=x::t):n<w.length/\rd w (n:Int)=O x/\w.drop (n+1)=t/\x∈w:=by
 have b:n<w.length:=by
  rcases Nat.lt_or_ge n w.length with h1|h1
  .exact h1
  .rw[List.drop_of_length_le h1]at h;cases h
 rw[<-cP b]at h;injection h with h1 d
 exact⟨b,by rw[cn b,h1],d,by rw[<-h1];exact cQ b⟩
theorem KM {n:Nat}(h:w.drop n=[]):w.length<=n:=by
 rcases Nat.lt_or_ge n w.length with h1|h1
 .rw[<-cP h1]at h;cases h
 .exact h1
theorem kD {n:Nat}{f:Zd}(h:w.drop n=t)(b:lF q t=O (x,f)):w.drop (n+rP q)=f/\(x=0∨x∈w)/\(n<=w.length->n+rP q<=w.length):=by
 cases q with
 |false=>
  injection b with b
  injection b with d e
  exact⟨by rw[<-e,<-h];rfl, .inl d.symm,λh=>h⟩
 |true=>
  cases t with
  |nil=>cases b
  |cons y t=>
   injection b with b
   injection b with d e
   obtain⟨g,o,j,k⟩:=A5 h;exact⟨by rw[<-e,<-j];rfl, .inr (d▸k),λ_=>g⟩
theorem QA (f:w.length<=1000000){n:Nat}(h:w.drop n=t)(g:n<=100):
  jp q (n:Int) w Zb=O (match lF q t with
   |some (x,_)=>(x,((n+rP q:Nat):Int),Zb)
   |none=>(0,((n+1:Nat):Int),Za)):=by
 unfold jp;cases q with
 |false=>rfl
 |true=>
  simp only[bD,zD];rw[ad (n:=(n:Int)+1) (by omega),ad (n:=(n:Int)+1-1) (by omega),ag];cases t with
  |nil=>
   have:=KM h;rw[Zg];rfl
  |cons x t=>
   obtain⟨d,b,e,_⟩:=A5 h;rw[Zh,show(n:Int)+1-1=(n:Int)by omega,b];rfl
theorem Ch (b:w.length<=1000000){n:Nat}(d:n<=100): ∃x m,jp q (n:Int) w Za=O (x,((m:Nat):Int),Za)/\m<=n+1:=by
 unfold jp;cases q with
 |false=>exact⟨_,n,rfl,by omega⟩
 |true=>
  simp only[bD,zD];rw[ad (n:=(n:Int)+1) (by omega),ad (n:=(n:Int)+1-1) (by omega),ag];by_cases c:(w.length:Int)<(n:Int)+1
  .rw[zE c];exact⟨_,n+1,rfl,by omega⟩
  .rw[zF c,show(n:Int)+1-1=(n:Int)by omega,cn (show n<w.length by omega)];exact⟨_,n+1,rfl,by omega⟩
theorem W6 (f:jx w)(b:w.length<=1000000){n:Nat}(h:w.drop n=t)(d:n<=100):
  gG q (n:Int) w Zb=O (match lF q t with
   |some (x,_)=>(mm x,((n+rP q:Nat):Int),Zb)
   |none=>(0,((n+1:Nat):Int),Za)):=by
 unfold gG;rw[QA b h d];cases e:lF q t with
 |none=>rfl
 |some p=>
  obtain⟨x,g⟩:=p;obtain⟨_,hx,_⟩:=kD h e
  have hx:0<=x:=by
   rcases hx with rfl|hx
   .omega
   .exact(f x hx).1
  simp only[zG];rw[Zi];rfl
theorem Kq (e:w.length<=1000000){n:Nat}(f:n<=100): ∃x m,gG q (n:Int) w Za=O (x,((m:Nat):Int),Za)/\m<=n+1:=by
 obtain⟨x,m,b,d⟩:=Ch (q:=q) e f;unfold gG;rw[b];exact⟨_,m,rfl,d⟩
theorem QK (o:jx w)(b:w.length<=1000000):uW w=O (R7 w):=by
 unfold uW;cases w with
 |nil=>rfl
 |cons k t=>
  have hk:=o k (by simp);simp only[ag];rw[zF (by simp;omega)];have u:rd (k::t) 0=O k:=cn (l:=k::t) (i:=0) (by simp);rw[u];simp only[zG];simp only[R7];by_cases c:7<k
  .rw[Zg,zE c]
  rw[Zh,zF c,ad (n:=k) (by omega),H9];simp only[zG];generalize bl k=q;obtain⟨d,e,f,g⟩:=q;simp only;have y:(k::t).drop 1=t:=rfl;have p:=W6 o b (q:=d) y (by omega);have p:gG d 1 (k::t) Zb=_:=p;have f1:rP d<=1:=by cases d<;>decide
  have f2:rP e<=1:=by cases e<;>decide
  have f3:rP f<=1:=by cases f<;>decide
  rw[p];cases J:lF d t with
  |none=>
   simp only[zG];obtain⟨x2,N,I,l2⟩:=Kq (q:=e) b (n:=1+1) (by omega);rw[I];simp only[zG];obtain⟨E,v,r,M⟩:=Kq (q:=f) b (n:=N) (by omega);rw[r];simp only[zG];obtain⟨F,D,j,C⟩:=Ch (q:=g) b (n:=v) (by omega);rw[j];rfl
  |some Q=>
   obtain⟨x1,W⟩:=Q;obtain⟨z,_,_⟩:=kD y J;simp only[zG];rw[W6 o b (q:=e) z (by omega)];cases K:lF e W with
   |none=>
    simp only[zG];obtain⟨E,v,r,M⟩:=Kq (q:=f) b (n:=1+rP d+1) (by omega);rw[r];simp only[zG];obtain⟨F,D,j,C⟩:=Ch (q:=g) b (n:=v) (by omega);rw[j];rfl
   |some T=>
    obtain⟨x2,X⟩:=T;obtain⟨A,_,_⟩:=kD z K;simp only[zG];rw[W6 o b (q:=f) A (by omega)];cases L:lF f X with
    |none=>
     simp only[zG];obtain⟨F,D,j,C⟩:=Ch (q:=g) b (n:=1+rP d+rP e+1) (by omega);rw[j];rfl
    |some V=>
     obtain⟨E,Z⟩:=V;obtain⟨H,_,_⟩:=kD A L;simp only[zG];rw[QA b (q:=g) H (by omega)];cases h4:lF g Z with
     |none=>rfl
     |some p4=>rfl
theorem E6 (f:w.length<=1000000){n:Nat}(h:w.drop n=t)(g:n<=100){γ:Type}{ok:Int->Int->Option γ}{bad:Option γ}{skip:Option γ}(j:skip=ok 0 (n:Int)∨q=Za):
  (cond (!q) skip (cond (Zc ((w.length:Int)<=(n:Int))) bad ((rd w (n:Int)).bind λx=>ok x (zH zI ((n:Int)+1)))))=(match lF q t with
   |none=>bad
   |some (x,_)=>if q then ok x ((n+rP q:Nat):Int)else skip):=by
 cases q with
 |false=>rfl
 |true=>
  simp only[bD,zD,if_true];rw[ad (n:=(n:Int)+1) (by omega),ag];cases t with
  |nil=>
   have:=KM h;rw[Zg];rfl
  |cons x t=>
   obtain⟨d,b,e,_⟩:=A5 h;rw[Zh,b];rfl
theorem OY (x:Int){γ:Type}(f:Int->γ):cond (Zc (2147483647<x)) (f 2147483647) (f x)=f (mm x):=by
 rw[ag];unfold mm;split
 .rw[show min x 2147483647=2147483647 by omega]
 .rw[show min x 2147483647=x by omega]
theorem SU (T:jx w)(E:w.length<=1000000):w5 w=O (R7 w):=by
 unfold w5;cases w with
 |nil=>rfl
 |cons k t=>
  have hk:=T k (by simp);simp only[ag];rw[zF (by simp;omega)];have I:rd (k::t) 0=O k:=cn (l:=k::t) (i:=0) (by simp);rw[I];simp only[zG];simp only[R7];by_cases c:7<k
  .rw[zE c,zE c]
  rw[zF c,zF c,ad (n:=k) (by omega),AF];simp only[zG];generalize bl k=q;obtain⟨f,g,o,u⟩:=q;simp only;have L:(k::t).drop 1=t:=rfl;have f1:rP f<=1:=by cases f<;>decide
  have f2:rP g<=1:=by cases g<;>decide
  have f3:rP o<=1:=by cases o<;>decide
  have C: ∀(y:Int),(y=0∨y∈k::t)->0<=mm y/\mm y<=2147483647:=by
   intro y hy
   have:0<=y:=by
    rcases hy with rfl|hy
    .omega
    .exact(T y hy).1
   unfold mm;omega
  have s0: ∀(n:Nat) (r:Zd),(k::t).drop n=r->n<=100->fp (k::t) (f,g,o,u) (0,(n:Int),0,0,0,0)=(match lF f r with
    |none=>O (.inr (.inl (0,0,0,0)))
    |some (x,_)=>O (.inl (1,((n+rP f:Nat):Int),mm x,0,0,0))):=by
   intro n r z A;have e:fp (k::t) (f,g,o,u) (0,(n:Int),0,0,0,0)=cond (!f) (O (.inl (1,(n:Int),0,0,0,0))) (cond (Zc (((k::t).length:Int)<=(n:Int))) (O (.inr (.inl (0,0,0,0)))) ((rd (k::t) (n:Int)).bind λx=>cond (Zc (2147483647<x)) (O (.inl (1,zH zI ((n:Int)+1),2147483647,0,0,0))) (O (.inl (1,zH zI ((n:Int)+1),x,0,0,0))))):=rfl;rw[e];refine aD (E6 (γ:=(Int×Int×Int×Int×Int×Int)⊕((Int×Int×Int×Int)⊕(Int×Int×Int×Int×Int))) E z A (q:=f) (ok:=λx m=>cond (Zc (2147483647<x)) (O (.inl (1,m,2147483647,0,0,0))) (O (.inl (1,m,x,0,0,0)))) (bad:=O (.inr (.inl (0,0,0,0)))) (skip:=O (.inl (1,(n:Int),0,0,0,0))) (by cases f;exact .inl rfl;exact .inr rfl)) ?_;cases j:lF f r with
   |none=>rfl
   |some p=>
    obtain⟨x,J⟩:=p;simp only;rw[OY x (λy=>O (Sum.inl (1,((n+rP f:Nat):Int),y,0,0,0)))];cases f with
    |true=>rfl
    |false=>
     injection j with j
     injection j with j _
     rw[<-j];rfl
  have s1: ∀(n:Nat) (r:Zd) (b:Int),(k::t).drop n=r->n<=100->fp (k::t) (f,g,o,u) (1,(n:Int),b,0,0,0)=(match lF g r with
    |none=>O (.inr (.inl (b,0,0,0)))
    |some (x,_)=>O (.inl (2,((n+rP g:Nat):Int),b,mm x,0,0))):=by
   intro n r b z A;have e:fp (k::t) (f,g,o,u) (1,(n:Int),b,0,0,0)=cond (!g) (O (.inl (2,(n:Int),b,0,0,0))) (cond (Zc (((k::t).length:Int)<=(n:Int))) (O (.inr (.inl (b,0,0,0)))) ((rd (k::t) (n:Int)).bind λx=>cond (Zc (2147483647<x)) (O (.inl (2,zH zI ((n:Int)+1),b,2147483647,0,0))) (O (.inl (2,zH zI ((n:Int)+1),b,x,0,0))))):=rfl;rw[e];refine aD (E6 (γ:=(Int×Int×Int×Int×Int×Int)⊕((Int×Int×Int×Int)⊕(Int×Int×Int×Int×Int))) E z A (q:=g) (ok:=λx m=>cond (Zc (2147483647<x)) (O (.inl (2,m,b,2147483647,0,0))) (O (.inl (2,m,b,x,0,0)))) (bad:=O (.inr (.inl (b,0,0,0)))) (skip:=O (.inl (2,(n:Int),b,0,0,0))) (by cases g;exact .inl rfl;exact .inr rfl)) ?_;cases j:lF g r with
   |none=>rfl
   |some p=>
    obtain⟨x,J⟩:=p;simp only;rw[OY x (λy=>O (Sum.inl (2,((n+rP g:Nat):Int),b,y,0,0)))];cases g with
    |true=>rfl
    |false=>
     injection j with j
     injection j with j _
     rw[<-j];rfl
  have s2: ∀(n:Nat) (r:Zd) (b d:Int),(k::t).drop n=r->n<=100->fp (k::t) (f,g,o,u) (2,(n:Int),b,d,0,0)=(match lF o r with
    |none=>O (.inr (.inl (b,d,0,0)))
    |some (x,_)=>O (.inl (3,((n+rP o:Nat):Int),b,d,mm x,0))):=by
   intro n r b d z A;have e:fp (k::t) (f,g,o,u) (2,(n:Int),b,d,0,0)=cond (!o) (O (.inl (3,(n:Int),b,d,0,0))) (cond (Zc (((k::t).length:Int)<=(n:Int))) (O (.inr (.inl (b,d,0,0)))) ((rd (k::t) (n:Int)).bind λx=>cond (Zc (2147483647<x)) (O (.inl (3,zH zI ((n:Int)+1),b,d,2147483647,0))) (O (.inl (3,zH zI ((n:Int)+1),b,d,x,0))))):=rfl;rw[e];refine aD (E6 (γ:=(Int×Int×Int×Int×Int×Int)⊕((Int×Int×Int×Int)⊕(Int×Int×Int×Int×Int))) E z A (q:=o) (ok:=λx m=>cond (Zc (2147483647<x)) (O (.inl (3,m,b,d,2147483647,0))) (O (.inl (3,m,b,d,x,0)))) (bad:=O (.inr (.inl (b,d,0,0)))) (skip:=O (.inl (3,(n:Int),b,d,0,0))) (by cases o;exact .inl rfl;exact .inr rfl)) ?_;cases j:lF o r with
   |none=>rfl
   |some p=>
    obtain⟨x,J⟩:=p;simp only;rw[OY x (λy=>O (Sum.inl (3,((n+rP o:Nat):Int),b,d,y,0)))];cases o with
    |true=>rfl
    |false=>
     injection j with j
     injection j with j _
     rw[<-j];rfl
  have s3: ∀(n:Nat) (r:Zd) (b d v:Int),(k::t).drop n=r->n<=100->fp (k::t) (f,g,o,u) (3,(n:Int),b,d,v,0)=(match lF u r with
    |none=>O (.inr (.inl (b,d,v,0)))
    |some (x,_)=>O (.inl (4,((n+rP u:Nat):Int),b,d,v,x))):=by
   intro n r b d v z A;have e:fp (k::t) (f,g,o,u) (3,(n:Int),b,d,v,0)=cond (!u) (O (.inl (4,(n:Int),b,d,v,0))) (cond (Zc (((k::t).length:Int)<=(n:Int))) (O (.inr (.inl (b,d,v,0)))) ((rd (k::t) (n:Int)).bind λx=>O (.inl (4,zH zI ((n:Int)+1),b,d,v,x)))):=rfl;rw[e];refine aD (E6 (γ:=(Int×Int×Int×Int×Int×Int)⊕((Int×Int×Int×Int)⊕(Int×Int×Int×Int×Int))) E z A (q:=u) (ok:=λx m=>O (.inl (4,m,b,d,v,x))) (bad:=O (.inr (.inl (b,d,v,0)))) (skip:=O (.inl (4,(n:Int),b,d,v,0))) (by cases u;exact .inl rfl;exact .inr rfl)) ?_;cases j:lF u r with
   |none=>rfl
   |some p=>
    obtain⟨x,J⟩:=p;simp only;cases u with
    |true=>rfl
    |false=>
     injection j with j
     injection j with j _
     rw[<-j];rfl
  have s4: ∀(n b d v Z:Int),fp (k::t) (f,g,o,u) (4,n,b,d,v,Z)=O (.inr (.inr (n,b,d,v,Z))):=λ_ _ _ _ _=>rfl
  obtain⟨N,hB⟩: ∃N,cx=N+1+1+1+1+1:=⟨18446744073709551611,rfl⟩
  rw[hB,bj];have H:=s0 1 t L (by omega);have H:fp (k::t) (f,g,o,u) (0,1,0,0,0,0)=_:=H;rw[H];cases h1:lF f t with
  |none=>simp only[zG,bc]
  |some p1=>
   obtain⟨D,V⟩:=p1;obtain⟨M,m1,_⟩:=kD L h1;have q1:=C D m1;simp only[zG,bc];rw[bj,s1 (1+rP f) V (mm D) M (by omega)];cases h2:lF g V with
   |none=>simp only[zG,bc]
   |some p2=>
    obtain⟨F,W⟩:=p2;obtain⟨Q,m2,_⟩:=kD M h2;have q2:=C F m2;simp only[zG,bc];rw[bj,s2 (1+rP f+rP g) W (mm D) (mm F) Q (by omega)];cases h3:lF o W with
    |none=>simp only[zG,bc]
    |some p3=>
     obtain⟨K,X⟩:=p3;obtain⟨d4,m3,_⟩:=kD Q h3;have q3:=C K m3;simp only[zG,bc];rw[bj,s3 (1+rP f+rP g+rP o) X (mm D) (mm F) (mm K) d4 (by omega)];cases h4:lF u X with
     |none=>simp only[zG,bc]
     |some p4=>
      obtain⟨x4,t4⟩:=p4;simp only[zG,bc];rw[bj,s4];simp only[zG,bc];rw[ad (n:=mm D) (by omega),ad (n:=mm F) (by omega),ad (n:=mm K) (by omega)]
theorem WP (u:jx w)(v:w≠[])(b:(R7 w).2.2.2.2.2.2=0): ∃n:Nat,(R7 w).2.2.2.2.2.1=(n:Int)/\1<=n/\n<=w.length/\0<=(R7 w).2.2.2.2.1/\(R7 w).2.2.2.2.1<=18446744073709551615:=by
 cases w with
 |nil=>exact(v rfl).elim
 |cons k t=>
  simp only[R7]at b⊢;have j:(k::t).drop 1=t:=rfl;by_cases c:7<k
  .rw[zE c]at b;cases b
  rw[zF c]at b⊢;cases d:lF (bl k).1 t with
  |none=>rw[d]at b;cases b
  |some D=>
   obtain⟨Q,I⟩:=D;obtain⟨o,_,y⟩:=kD j d;simp only[d]at b⊢;cases e:lF (bl k).2.1 I with
   |none=>rw[e]at b;cases b
   |some E=>
    obtain⟨T,J⟩:=E;obtain⟨p,_,z⟩:=kD o e;simp only[e]at b⊢;cases f:lF (bl k).2.2.1 J with
    |none=>rw[f]at b;cases b
    |some F=>
     obtain⟨V,K⟩:=F;obtain⟨r,_,A⟩:=kD p f;simp only[f]at b⊢;cases g:lF (bl k).2.2.2 K with
     |none=>rw[g]at b;cases b
     |some H=>
      obtain⟨L,N⟩:=H;obtain⟨M,m4,C⟩:=kD r g;simp only[g];refine⟨_,rfl,by omega,C (A (z (y (by simp)))), ?_⟩;rcases m4 with rfl|m4
      .omega
      .exact u L m4
def U :Nat->Zd->List ci->Option (List ci)
 |0,_,_=>Y
 |f+1,w,b=>if w.length=0 then O b else if(R7 w).2.2.2.2.2.2≠0 then Y else U f (w.drop (R7 w).2.2.2.2.2.1.toNat) (b++[((R7 w).1,(R7 w).2.1,(R7 w).2.2.1,(R7 w).2.2.2.1,(R7 w).2.2.2.2.1)])
def Pv (w:Zd):Option (List ci):=U (w.length+1) w []
def iO (w:Zd):Int×List ci:=match Pv w with
 |some l=>(0,l)
 |none=>(6,[])
theorem jx.drop (h:jx w)(n:Nat):jx (w.drop n):=λx b=>h x (cN b)
theorem jx.take (h:jx w)(n:Nat):jx (w.take n):=λx b=>h x (cR b)
theorem ax5 : ∀(f:Nat) (w:Zd) (b l:List ci),jx w->U f w b=O l->(∀o∈b,0<=o.2.2.2.2/\o.2.2.2.2<=18446744073709551615)->l.length<=b.length+w.length/\∀o∈l,0<=o.2.2.2.2/\o.2.2.2.2<=18446744073709551615
 |0,w,b,l,_,h,_=>by cases h
 |f+1,w,b,l,j,h,g=>by
  simp only[U]at h;split at h
  .injection h with h
   subst h;exact⟨by omega,g⟩
  .rename_i u;split at h
   .cases h
   .rename_i z;obtain⟨n,p,v,y,r⟩:=WP j (λe=>u (by rw[e];rfl)) (by omega);rw[p]at h
    obtain⟨d,k⟩:=ax5 f _ _ l (j.drop _) h (λo ho=>by
     rcases List.mem_append.1 ho with ho|ho
     .exact g o ho
     .simp at ho;subst ho
      exact r)
    refine⟨?_,k⟩;rw[cL,aB]at d;simp at d;omega
theorem EB (f:jx w)(g:w.length<=4000):OpsOk (iO w).2:=by
 unfold iO Pv;cases h:U (w.length+1) w []with
 |none=>exact⟨by simp,λo b=>by simp at b⟩
 |some l=>
  obtain⟨d,e⟩:=ax5 _ _ _ _ f h (λo b=>by simp at b);exact⟨by simp at d⊢;omega,e⟩
theorem JP (e:jx w):(iO w).2.length<=w.length:=by
 unfold iO Pv;cases h:U (w.length+1) w []with
 |none=>simp
 |some l=>
  obtain⟨b,f⟩:=ax5 _ _ _ _ e h (λo d=>by simp at d);simpa using b
theorem vN {n:Nat}:lC w (n:Int) (w.length:Int)=w.drop n:=by
 unfold lC;rw[show((w.length:Int)).toNat=w.length by omega,show((n:Int)).toNat=n by omega,cO]
theorem FG {a0:Zd}(v:jx a0)(C:a0.length<=100000):rn a0=O (iO a0):=by
 unfold rn iO
 obtain⟨c,u,h⟩:=re (f:=rI) (a:=(a0,Za,([]:List ci))) (λs=> ∃w d f,s=(w,Za,d)/\w.length<f/\U f w d=Pv a0/\jx w/\d.length+w.length<=a0.length) (λs=>s.1.length)
  (λc=>(c.1=Zb/\Pv a0=Y)∨(c.1=Za/\Pv a0=O c.2)) ⟨a0,[],a0.length+1,rfl,by omega,rfl,v,by simp⟩ (by simp;omega) (by
  rintro _ ⟨w,d,f,rfl,A,b,p,r⟩;cases f with
  |zero=>omega
  |succ f=>
  simp only[U]at b;simp only[rI,ag];by_cases o:w.length=0
  .rw[zE o]at b;rw[Zh];exact .inr ⟨_,rfl, .inr ⟨rfl,b.symm⟩⟩
  .rw[zF o]at b;rw[Zg,QK p (by omega)];simp only[zG];by_cases j:(R7 w).2.2.2.2.2.2≠0
   .rw[zE j]at b;rw[zE j];exact .inr ⟨_,rfl, .inl ⟨rfl,b.symm⟩⟩
   .rw[zF j]at b;rw[zF j];obtain⟨n,g,k,y,z⟩:=WP p (λe=>o (by rw[e];rfl)) (by omega);rw[g]at b⊢;have b:U f (w.drop n) _=_:=b;rw[bt (by omega) (by omega),Zk,bz,vN]
    refine .inl ⟨_,rfl,⟨_,_,f,rfl,by rw[aB];omega,b,p.drop n,by rw[cL,aB];simp;omega⟩,by simp;omega⟩)
 rw[u];simp only[zG];rcases h with⟨g,k⟩|⟨g,k⟩
 .rw[g,k];rfl
 .rw[g,k];rfl
theorem Ha {a0:Zd}(A:jx a0)(D:a0.length<=100000):pu a0=O (iO a0):=by
 unfold pu iO
 obtain⟨c,y,h⟩:=re (f:=sX a0) (a:=((0:Int),([]:List ci))) (λs=> ∃(i:Nat) (d:List ci) (f:Nat),s=((i:Int),d)/\i<=a0.length/\(a0.drop i).length<f/\U f (a0.drop i) d=Pv a0/\d.length<=i) (λs=>a0.length-s.1.toNat)
  (λc=>(c= .inl ()/\Pv a0=Y)∨∃l,c= .inr l/\Pv a0=O l) ⟨0,[],a0.length+1,rfl,by omega,by simp,rfl,by simp⟩ (by simp;omega) (by
  rintro _ ⟨i,d,f,rfl,hi,z,b,p⟩;cases f with
  |zero=>omega
  |succ f=>
  simp only[U]at b;simp only[sX,ag];have r:=A.drop i;by_cases g:(a0.drop i).length=0
  .rw[zE g]at b;rw[aB]at g;rw[Zh];exact .inr ⟨_,rfl, .inr ⟨_,rfl,b.symm⟩⟩
  .rw[zF g]at b;have o:=g;rw[aB]at o z;rw[Zg,Zk,bz,vN,SU r (by rw[aB];omega)];simp only[zG];by_cases j:(R7 (a0.drop i)).2.2.2.2.2.2≠0
   .rw[zE j]at b;rw[zE j];exact .inr ⟨_,rfl, .inl ⟨rfl,b.symm⟩⟩
   .rw[zF j]at b;rw[zF j];obtain⟨n,u,k,v,C⟩:=WP r (λe=>g (by rw[e];rfl)) (by omega);rw[aB]at v;rw[u]at b⊢;have b:U f ((a0.drop i).drop n) _=_:=b;rw[List.drop_drop]at b;rw[bt (by omega) (by omega),ad (n:=(i:Int)+(n:Int)) (by omega)]
    refine .inl ⟨_,rfl,⟨i+n,_,f,by rw[show((i+n:Nat):Int)=(i:Int)+(n:Int)by omega],by omega,by rw[aB];omega,b,by rw[cL];simp;omega⟩,by simp;omega⟩)
 rw[y];simp only[zG];rcases h with⟨rfl,k⟩|⟨l,rfl,k⟩
 .rw[k];rfl
 .rw[k];rfl
def S :Nat->Zd->List (Zd)->Option (List (Zd)×Zd)
 |0,w,b=>O (b,w)
 |r+1,[],b=>Y
 |r+1,x::t,b=>if(t.length:Int)<x then Y else S r (t.drop x.toNat) (b++[t.take x.toNat])
def Wv (w:Zd):Option (List (Zd)×Zd):=S 4 w []
theorem LU {K:Nat}(v:K<=100): ∀(r N:Nat) (w:Zd) (out:List (Zd)),out.length+r=K->jx w->w.length<=100000->
  (∃p,S r w out=O p/\aq (jW (K:Int)) (N+r+1) (w,out)=O (0,p.2,p.1))∨(S r w out=Y/\∃w' C,aq (jW (K:Int)) (N+r+1) (w,out)=O (4,w',C))
 |0,N,w,out,k,b,f=>by
  left;refine⟨_,rfl, ?_⟩;rw[bj];unfold jW;simp only;rw[ag,Zh];rfl
 |r+1,N,[],out,k,b,f=>by
  right;refine⟨rfl,[],out, ?_⟩;rw[bj];unfold jW;simp only;rw[ag,Zg,ag,zE (by simp)];rfl
 |r+1,N,x::t,out,k,b,f=>by
  have F:=b x (by simp);have g:rd (x::t) 0=O x:=cn (l:=x::t) (i:=0) (by simp);simp only[S];simp only[List.length_cons]at f
  have j:zH zJ (zH zI (((t.length+1:Nat):Int)-1))=(t.length:Int):=by
   rw[show(((t.length+1:Nat):Int))-1=(t.length:Int)by omega,ad (n:=(t.length:Int)) (by omega),xP (by omega)]
  have e:jW (K:Int) (x::t,out)=cond (Zc ((out.length:Int)<(K:Int))) (cond (Zc (((t.length+1:Nat):Int)=0)) (O (.inr (4,x::t,out))) ((rd (x::t) 0).bind λE=>cond (Zc (zH zJ (zH zI (((t.length+1:Nat):Int)-1))<E)) (O (.inr (4,x::t,out))) ((rd (x::t) 0).bind λd=>
    gd (ej 1 (zH zI (zH zI d+1)) (t.length+1)) ((ak (lC (x::t) 1 (zH zI (zH zI d+1)))).bind λD=>
    gd (fV (out.length+1) 24) (gd (ej (zH zI (zH zI d+1)) ((t.length+1:Nat):Int) (t.length+1)) (O (.inl (lC (x::t) (zH zI (zH zI d+1)) ((t.length+1:Nat):Int),out++[D])))))))) (O (.inr (0,x::t,out))):=rfl
  rw[g,zB (show(out.length:Int)<(K:Int)by omega),zC,zA (show¬((t.length+1:Nat):Int)=0 by omega),zD]at e;simp only[zG]at e;by_cases c:(t.length:Int)<x
  .right;rw[zE c];refine⟨rfl,x::t,out, ?_⟩;rw[zB (show zH zJ (zH zI (((t.length+1:Nat):Int)-1))<x by rw[j];exact c),zC]at e;rw[bj,e];rfl
  .rw[zF c];have A:=LU v r N (t.drop x.toNat) (out++[t.take x.toNat]) (by simp;omega) (λy z=>b y (by simp[cN z])) (by rw[aB];omega)
   have o:lC (x::t) 1 (x+1)=t.take x.toNat:=by
    unfold lC;rw[show(x+1).toNat=x.toNat+1 by omega,show(1:Int).toNat=1 from rfl];rfl
   have u:lC (x::t) (x+1) ((t.length+1:Nat):Int)=t.drop x.toNat:=by
    unfold lC;rw[show(((t.length+1:Nat):Int)).toNat=(x::t).length by simp,cO,show(x+1).toNat=x.toNat+1 by omega];rfl
   rw[zA (show¬IntKind.u64.wrap (zH zI (((t.length+1:Nat):Int)-1))<x by rw[j];exact c),zD,ad (n:=x) (by omega),ad (n:=x+1) (by omega),Zk,bz,o]at e;unfold ak at e;rw[bt (by rw[cM];omega) (by omega)]at e;simp only[zG]at e;rw[bt (by omega) (by omega),Zk,bz,u]at e;rw[show N+(r+1)+1=(N+r+1)+1 by omega,bj,e];simp only[zG,bc];exact A
theorem Hr {K:Nat}(g:K<=100)(k:jx w)(j:w.length<=100000):ou w (K:Int)=O (match S K w []with
  |some (l,rest)=>(0,l,rest)
  |none=>(4,[],[])):=by
 unfold ou;rw[ag,Zh];obtain⟨N,f⟩: ∃N,cx=N+K+1:=⟨18446744073709551615-K,by unfold cx;omega⟩
 rcases LU g K N w [] (by simp) k j with⟨p,d,e⟩|⟨d,y,v,e⟩
 .rw[f,e,d];simp only[zG];rw[zA (by simp),zD];unfold ak
  have u:p.2.length<=w.length:=by
   have: ∀(r:Nat) (w:Zd) (b:List (Zd)) (q:List (Zd)×Zd),S r w b=O q->q.2.length<=w.length:=by
    intro r;induction r with
    |zero=>intro w b q h;injection h with h;subst h;exact Nat.le_refl _
    |succ r o=>
     intro w b q h;cases w with
     |nil=>cases h
     |cons x t=>
      simp only[S]at h;split at h
      .cases h
      .have:=o _ _ _ h;rw[aB]at this;simp;omega
   exact this _ _ _ _ d
  rw[bt (by omega) (by omega)];rfl
 .rw[f,e,d];rfl
theorem RH (d:jx w)(b:w.length<=100000):ou w 4=O (match Wv w with
  |some (l,rest)=>(0,l,rest)
  |none=>(4,[],[])):=Hr (K:=4) (by omega) d b
theorem SR {a0:Zd}(r:jx a0)(z:a0.length<=100000){n:Nat}(h:a0.drop n=x::t)(A:x<=(t.length:Int)):sU a0 (n:Int) 0 (a0.length:Int)=O (a0,((n+1+x.toNat:Nat):Int),0,t.take x.toNat):=by
 obtain⟨v,g,f,k⟩:=A5 h;have u:=(r x k).1;have p:t.length=a0.length-(n+1):=by rw[<-f,aB]
 unfold sU Du Br;rw[zA (show¬(0:Int)≠0 by simp),zD,zA (show¬(a0.length:Int)<=(n:Int)by omega),zD,ad (n:=(n:Int)+1) (by omega),ad (n:=(n:Int)+1-1) (by omega),show(n:Int)+1-1=(n:Int)by omega,g];simp only[zG];rw[zA (show¬(0:Int)≠0 by simp),zD,zA (show¬(a0.length:Int)<0 by omega),zD,xP (by omega),zA (show¬(a0.length:Int)<x by omega),zD];simp only[zG];rw[zA (show¬(0:Int)≠0 by simp),zD,ad (n:=(a0.length:Int)-((n:Int)+1)) (by omega),ad (n:=x) (by omega),zA (show¬(a0.length:Int)-((n:Int)+1)<x by omega),zD];have o:(t.take x.toNat).length=x.toNat:=by rw[cM];omega
 have e:aq (rp a0 (x,a0,(n:Int)+1,0)) cx (0,[])=O ([]++t.take x.toNat):=by
  refine Vq (l:=t.take x.toNat) [] (by omega) (λj y=> ?_) ?_
  .unfold rp;simp only;have d:j<t.length:=by omega
   have b:rd a0 ((n:Int)+1+(j:Int))=O t[j]:=by
    rw[show(n:Int)+1+(j:Int)=((n+1+j:Nat):Int)by omega,cn (show n+1+j<a0.length by omega)]
    congr 1
    have:(a0.drop (n+1))[j]?=t[j]?:=by rw[f]
    rw[List.getElem?_drop,cK (show n+1+j<a0.length by omega),cK d]at this;injection this
   rw[ag,Zg,ad (n:=(n:Int)+1+(j:Int)) (by omega),b];simp only[zG];rw[bt (by simp;omega) (by omega),ad (n:=(j:Int)+1) (by omega),List.getElem_take];rfl
  .unfold rp;simp only;rw[ag,Zh]
 rw[e];simp only[zG,List.nil_append];rw[ad (n:=(n:Int)+1+x) (by omega),show((n+1+x.toNat:Nat):Int)=(n:Int)+1+x by omega]
theorem Q0 {K:Nat}(A:K<=100){a0:Zd}(g:jx a0)(o:a0.length<=100000): ∀(r N n:Nat) (w:Zd) (out:List (Zd)),out.length+r=K->a0.drop n=w->n<=a0.length->
  (∃p,∃m:Nat,S r w out=O p/\aq (gU a0 (K:Int)) (N+r+1) (a0,(n:Int),0,out)=O (.inr (a0,(m:Int),0,p.1))/\p.2=a0.drop m/\m<=a0.length)∨(S r w out=Y/\∃c,aq (gU a0 (K:Int)) (N+r+1) (a0,(n:Int),0,out)=O (.inl c))
 |0,N,n,w,out,u,b,f=>by
  left;refine⟨_,n,rfl, ?_,b.symm,f⟩;rw[bj];unfold gU;simp only;rw[ag,Zh];rfl
 |r+1,N,n,[],out,u,b,f=>by
  right;have:=KM b;refine⟨rfl,(a0,(n:Int),0), ?_⟩;rw[bj];unfold gU;simp only;rw[ag,Zg,ag,Zg];rfl
 |r+1,N,n,x::t,out,u,b,f=>by
  obtain⟨H,y,j,z⟩:=A5 b;have I:=g x z;have D:t.length=a0.length-(n+1):=by rw[<-j,aB]
  have k:zH zJ (zH zI (zH zI ((a0.length:Int)-(n:Int))-1))=(t.length:Int):=by
   have v:(a0.length:Int)-(n:Int)-1=(t.length:Int):=by omega
   rw[ad (n:=(a0.length:Int)-(n:Int)) (by omega),ad (n:=(a0.length:Int)-(n:Int)-1) (by omega),v,xP (by omega)]
  have e:gU a0 (K:Int) (a0,(n:Int),0,out)=cond (Zc ((out.length:Int)<(K:Int))) (cond (Zc ((a0.length:Int)<=(n:Int))) (O (.inr (.inl (a0,(n:Int),0)))) ((rd a0 (n:Int)).bind λF=>cond (Zc (zH zJ (zH zI (zH zI ((a0.length:Int)-(n:Int))-1))<F)) (O (.inr (.inl (a0,(n:Int),0))))
    ((sU a0 (n:Int) 0 (a0.length:Int)).bind λd=>gd (fV (out.length+1) 24) (O (.inl (d.1,d.2.1,d.2.2.1,out++[d.2.2.2])))))) (O (.inr (.inr (a0,(n:Int),0,out)))):=rfl
  rw[zB (show(out.length:Int)<(K:Int)by omega),zC,zA (show¬(a0.length:Int)<=(n:Int)by omega),zD,y]at e;simp only[zG]at e;simp only[S];by_cases c:(t.length:Int)<x
  .right;rw[zE c];rw[zB (show zH zJ (zH zI (zH zI ((a0.length:Int)-(n:Int))-1))<x by rw[k];exact c),zC]at e;refine⟨rfl,(a0,(n:Int),0), ?_⟩;rw[bj,e];rfl
  .rw[zF c];have C:a0.drop (n+1+x.toNat)=t.drop x.toNat:=by rw[<-j,List.drop_drop]
   have E:=Q0 A g o r N (n+1+x.toNat) (t.drop x.toNat) (out++[t.take x.toNat]) (by simp;omega) C (by omega);rw[zA (show¬IntKind.u64.wrap (zH zI (zH zI ((a0.length:Int)-(n:Int))-1))<x by rw[k];exact c),zD,SR g o b (by omega)]at e;simp only[zG]at e;rw[bt (by omega) (by omega)]at e;rw[show N+(r+1)+1=(N+r+1)+1 by omega,bj,e];simp only[zG,bc];exact E
theorem G9 {K:Nat}(g:K<=100)(k:jx w)(j:w.length<=100000):oq w (K:Int)=O (match S K w []with
  |some (l,rest)=>(rest,0,l)
  |none=>([],4,[])):=by
 unfold oq;rw[ag,Zh];obtain⟨N,e⟩: ∃N,cx=N+K+1:=⟨18446744073709551615-K,by unfold cx;omega⟩
 rcases Q0 g k j K N 0 w [] (by simp) rfl (Nat.zero_le _)with⟨p,m,d,b,f,o⟩|⟨d,c,b⟩
 .have b:aq (gU w (K:Int)) (N+K+1) (w,0,0,[])=_:=b;rw[e,b,d];simp only[zG,bc];rw[Zk,bz,vN,f]
 .have b:aq (gU w (K:Int)) (N+K+1) (w,0,0,[])=_:=b;rw[e,b,d];rfl
theorem QW (d:jx w)(b:w.length<=100000):oq w 4=O (match Wv w with
  |some (l,rest)=>(rest,0,l)
  |none=>([],4,[])):=G9 (K:=4) (by omega) d b
theorem Ik (k:jx w){l:List (Zd)}(h:Wv w=O (l,rest)): ∃e f g j,l=[e,f,g,j]/\(jx e/\e.length<=w.length)/\(jx f/\f.length<=w.length)/\(jx g/\g.length<=w.length)/\(jx j/\j.length<=w.length)/\rest.length<=w.length:=by
 have b: ∀(r:Nat) (w:Zd) (d:List (Zd)) (q:List (Zd)×Zd),jx w->S (r+1) w d=O q->∃y u,S r u (d++[y])=O q/\(jx y/\y.length<=w.length)/\jx u/\u.length<=w.length:=by
  intro r w d q k h;cases w with
  |nil=>cases h
  |cons x t=>
   simp only[S]at h;split at h
   .cases h
   .refine⟨_,_,h,⟨λy p=>k y (by simp[cR p]), ?_⟩,λy p=>k y (by simp[cN p]), ?_⟩
    .rw[cM];simp;omega
    .rw[aB];simp;omega
 obtain⟨e,M,v,E,J,T⟩:=b 3 w [] _ k h;obtain⟨f,N,z,F,K,V⟩:=b 2 M _ _ J v;obtain⟨g,Q,A,H,L,W⟩:=b 1 N _ _ K z;obtain⟨j,w4,o,I,Z,X⟩:=b 0 Q _ _ L A;injection o with o
 injection o with C D
 exact⟨e,f,g,j,C.symm,E,⟨F.1,by omega⟩,⟨H.1,by omega⟩,⟨I.1,by omega⟩,by rw[<-D];omega⟩
theorem vh (h:0<=x/\x<=18446744073709551615):lf x=O (mm x):=by
 unfold lf mm;rw[Zi]
theorem xy (h:0<=x/\x<=18446744073709551615):kj x=O (mm x):=by
 unfold kj mm;rw[ag];split
 .congr 1;omega
 .rw[Zi];congr 1;omega
def Yy (R:Int)(b:Zd)(Q:Int)(d:Zd):Int×List (Int×List ci):=
 if(iO b).1≠0∨bm (iO b).2 0≠O 0∨(iO d).1≠0∨bm (iO d).2 0≠O 0 then(6,[])else(0,[(mm R,(iO b).2),(mm Q,(iO d).2)])
theorem Jr {b d:Zd}{R Q:Int}(r:jx b)(u:jx d)(C:b.length<=4000)(l1:d.length<=4000)(A:0<=R/\R<=18446744073709551615)(z:0<=Q/\Q<=18446744073709551615):
  oX [R,Q] [b,d]=O (Yy R b Q d):=by
 have J:=(EB r C).len;have K:=(EB u l1).len;obtain⟨H,e0⟩:=yG (l:=(iO b).2) (by omega);obtain⟨I,v⟩:=yG (l:=(iO d).2) (by omega);unfold oX;obtain⟨N,y⟩: ∃N,cx=N+1+1+1:=⟨18446744073709551613,rfl⟩
 have D:gS [R,Q] [b,d] (0,[])=O (if(iO b).1≠0 then .inr (.inl ())else if bm (iO b).2 0≠O 0 then .inr (.inl ())else .inl (1,[(mm R,(iO b).2)])):=by
  have k:rd [b,d] 0=O b:=rfl;have o:rd [R,Q] 0=O R:=rfl;unfold gS;simp only[ag];rw[zE (by simp),k];simp only[zG];rw[FG r (by omega)];simp only[zG];rw[e0];simp only[zG];rw[o];simp only[zG];rw[vh A];by_cases e:(iO b).1≠0
  .rw[zE e,zE e]
  rw[zF e,zF e];by_cases f:bm (iO b).2 0=O 0
  .rw[zE f,zF (by simp),zF (by simp[f])];rfl
  .rw[zF f,zE (by simp),zE (by simp[f])]
 have E: ∀p,gS [R,Q] [b,d] (1,[p])=O (if(iO d).1≠0 then .inr (.inl ())else if bm (iO d).2 0≠O 0 then .inr (.inl ())else .inl (2,[p,(mm Q,(iO d).2)])):=by
  intro p;have k:rd [b,d] 1=O d:=rfl;have o:rd [R,Q] 1=O Q:=rfl;unfold gS;simp only[ag];rw[zE (by simp),k];simp only[zG];rw[FG u (by omega)];simp only[zG];rw[v];simp only[zG];rw[o];simp only[zG];rw[vh z];by_cases e:(iO d).1≠0
  .rw[zE e,zE e]
  rw[zF e,zF e];by_cases f:bm (iO d).2 0=O 0
  .rw[zE f,zF (by simp),zF (by simp[f])];rfl
  .rw[zF f,zE (by simp),zE (by simp[f])]
 have F: ∀p q,gS [R,Q] [b,d] (2,[p,q])=O (.inr (.inr [p,q])):=λp q=>rfl
 unfold Yy;rw[y,bj,D];by_cases e:(iO b).1≠0
 .rw[zE e,zE (.inl e)];rfl
 rw[zF e];by_cases f:bm (iO b).2 0≠O 0
 .rw[zE f,zE (.inr (.inl f))];rfl
 rw[zF f];simp only[zG,bc];rw[bj,E];by_cases g:(iO d).1≠0
 .rw[zE g,zE (.inr (.inr (.inl g)))];rfl
 rw[zF g];by_cases j:bm (iO d).2 0≠O 0
 .rw[zE j,zE (.inr (.inr (.inr j)))];rfl
 rw[zF j,zF (by rintro(h|h|h|h)<;>contradiction)];simp only[zG,bc];rw[bj,F];rfl
structure Hd where
 m:Int
 x:Zd
 t:Zd
 R:Int
 l:List ci
 Q:Int
 k:List ci
 n:Int
 b:Int
def Hd.chk (h:Hd):Int:=rb h.m h.x.length h.t.length h.R h.l h.Q h.k h.n h.b
def VN (w b d e f:Zd):Hd:=⟨w.getD 0 0,e,f,mm (w.getD 1 0),(iO b).2,mm (w.getD 2 0),(iO d).2,if w.getD 0 0=2 then 0 else mm (w.getD 3 0),mm (w.getD 4 0)⟩
def D4 (w:Zd):Int⊕(Hd×Zd):=if w.length<5 then .inl 4 else match Wv (w.drop 5)with
 |some ([b,d,e,f],rest)=>if w.getD 0 0<1∨3<w.getD 0 0 then .inl 5 else if(iO b).1≠0∨(iO d).1≠0 then .inl 6 else
  if(VN w b d e f).chk≠0 then .inl (VN w b d e f).chk else .inr (VN w b d e f,rest)
 |_=> .inl 4
def aT9 :Int⊕(Hd×Zd)->Int×Int×(List ci)×Int×(List ci)×Int×Int×Int×(Zd)×(Zd)×Zd
 | .inl e=>(0,0,[],0,[],0,0,e,[],[],[])
 | .inr (h,rest)=>(h.m,h.R,h.l,h.Q,h.k,h.n,h.b,0,h.x,h.t,rest)
def aU0 :Int⊕(Hd×Zd)->Int×(Zd)×(Zd)×Int×Int×Int×Int×(Zd)×Int×(List ci)×List ci
 | .inl e=>(0,[],[],0,0,0,0,[],e,[],[])
 | .inr (h,rest)=>(h.m,h.x,h.t,h.R,h.Q,h.n,h.b,rest,0,h.l,h.k)
theorem jx.getD (h:jx w)(i:Nat):0<=w.getD i 0/\w.getD i 0<=18446744073709551615:=by
 rw[List.getD_eq_getElem?_getD];by_cases hi:i<w.length
 .rw[cK hi];exact h _ (cQ hi)
 .rw[List.getElem?_eq_none (by omega)];exact⟨by decide,by decide⟩
theorem ae4 {m:Int}(e:1<=m/\m<=3)(x t:Nat)(R:Int)(l:List ci)(Q:Int)(k:List ci)(n b:Int)(h:bm l 0≠O 0∨bm k 0≠O 0):rb m x t R l Q k n b=6:=by
 have d:hk0 m=0:=by
  unfold hk0;rw[Zh,Zh]
 unfold rb;rw[d,zF (by simp)]
 have:lS R l Q k=6:=by
  unfold lS IS GP;rcases h with h|h
  .simp[h]
  .by_cases c:(Zc (bm l 0=O 0)&& !(l.any λo=> !tS o))=Za
   .rw[zE c];simp[h]
   .rw[zF c];simp
 rw[this,Zg]
theorem az5 (h:5<=w.length):lC w 1 3=[w.getD 1 0,w.getD 2 0]:=by
 match w,h with
 |a::b::c::d::e::r,_=>rfl
theorem MB (e:jx w)(hl:w.length<=4000):rm w=O (aT9 (D4 w)):=by
 unfold rm D4;simp only[ag];by_cases v:w.length<5
 .rw[Zg,zE v];rfl
 rw[Zh,zF v,Zk,bz,show(5:Int)=((5:Nat):Int)from rfl,vN,RH (e.drop 5) (by rw[aB];omega)];cases h:Wv (w.drop 5)with
 |none=>rfl
 |some p=>
  obtain⟨l,rest⟩:=p;obtain⟨b,d,f,g,rfl,⟨z,M⟩,⟨A,N⟩,⟨u2,Q⟩,⟨u3,T⟩,V⟩:=Ik (e.drop 5) h;rw[aB]at M N Q T V;simp only[zG];rw[zF (by simp)];have W:rd w 0=O (w.getD 0 0):=qk (l:=w) (i:=0) (by omega);have X:rd w 3=O (w.getD 3 0):=qk (l:=w) (i:=3) (by omega);have Z:rd w 4=O (w.getD 4 0):=qk (l:=w) (i:=4) (by omega);have g0:=e.getD 0;have C:=e.getD 1;have D:=e.getD 2;rw[W];simp only[zG];by_cases r:w.getD 0 0<1
  .rw[zE r,zE (.inl r)];rfl
  rw[zF r];by_cases u:3<w.getD 0 0
  .rw[zE u,zE (.inr u)];rfl
  rw[zF u,Zh,Zk,bz,az5 (by omega)];have F:ix 0 [b,d,f,g].length=O 0:=rfl;have H:ix 1 [b,d,f,g].length=O 1:=rfl;have I:ix 2 [b,d,f,g].length=O 2:=rfl;have J:ix 3 [b,d,f,g].length=O 3:=rfl;rw[F,H,I,J];simp only[zG,cD,cB];rw[Jr z A (by omega) (by omega) C D];simp only[zG];unfold Yy;have E:1<=w.getD 0 0/\w.getD 0 0<=3:=by omega
  by_cases j:(iO b).1≠0∨bm (iO b).2 0≠O 0∨(iO d).1≠0∨bm (iO d).2 0≠O 0
  .rw[zE j];by_cases o:(iO b).1≠0∨(iO d).1≠0
   .rw[zE o];rfl
   .rw[zF o]
    have:(VN w b d f g).chk=6:=ae4 E _ _ _ _ _ _ _ _ (by
     rcases j with c|c|c|c
     .exact(o (.inl c)).elim
     .exact .inl c
     .exact(o (.inr c)).elim
     .exact .inr c)
    rw[this];rfl
  .rw[zF j,zF (show¬((iO b).1≠0∨(iO d).1≠0)from λh=>h.elim (λh=>j (.inl h)) (λh=>j (.inr (.inr (.inl h)))))];simp only[zG];rw[zF (by simp)];have K:ix 0 [(mm (w.getD 1 0),(iO b).2),(mm (w.getD 2 0),(iO d).2)].length=O 0:=rfl;have L:ix 1 [(mm (w.getD 1 0),(iO b).2),(mm (w.getD 2 0),(iO d).2)].length=O 1:=rfl;rw[K,L];simp only[zG,cD,cB];rw[X,Z];unfold ak;simp only[zG];rw[bt (by omega) (by omega),bt (by omega) (by omega)];simp only[zG];rw[vh (e.getD 3),vh (e.getD 4),ad (n:=w.getD 0 0) (by omega)];simp only[zG];have k: ∀n,kf (w.getD 0 0) f g (mm (w.getD 1 0)) (iO b).2 (mm (w.getD 2 0)) (iO d).2 n (mm (w.getD 4 0))=O (rb (w.getD 0 0) f.length g.length (mm (w.getD 1 0)) (iO b).2 (mm (w.getD 2 0)) (iO d).2 n (mm (w.getD 4 0))):=λn=>Cd (EB z (by omega)) (EB A (by omega))
   unfold Hd.chk VN;simp only;by_cases y:w.getD 0 0=2
   .simp only[zE y,zG,k];split<;>rfl
   .simp only[zF y,zG,k];split<;>rfl
theorem Pd (b:jx w)(X:w.length<=1500):pq w=O (aU0 (D4 w)):=by
 unfold pq D4;simp only[ag];by_cases z:w.length<5
 .rw[Zg,zE z];rfl
 rw[Zh,zF z,Zk,bz,show(5:Int)=((5:Nat):Int)from rfl,vN,QW (b.drop 5) (by rw[aB];omega)];cases h:Wv (w.drop 5)with
 |none=>rfl
 |some p=>
  obtain⟨l,rest⟩:=p;obtain⟨d,e,f,g,rfl,⟨v,H⟩,⟨y,I⟩,⟨Z,J⟩,⟨u3,K⟩,L⟩:=Ik (b.drop 5) h;rw[aB]at H I J K L;simp only[zG];rw[zF (by simp)];have M:rd w 0=O (w.getD 0 0):=qk (l:=w) (i:=0) (by omega);have N:rd w 1=O (w.getD 1 0):=qk (l:=w) (i:=1) (by omega);have Q:rd w 2=O (w.getD 2 0):=qk (l:=w) (i:=2) (by omega);have T:rd w 3=O (w.getD 3 0):=qk (l:=w) (i:=3) (by omega);have V:rd w 4=O (w.getD 4 0):=qk (l:=w) (i:=4) (by omega);have W:=b.getD 0;rw[M];simp only[zG];by_cases k:w.getD 0 0<1
  .rw[zE k,zE (.inl k)];rfl
  rw[zF k];by_cases o:3<w.getD 0 0
  .rw[zE o,zE (.inr o)];rfl
  rw[zF o,Zh];have C:ix 0 [d,e,f,g].length=O 0:=rfl;have D:ix 1 [d,e,f,g].length=O 1:=rfl;have E:ix 2 [d,e,f,g].length=O 2:=rfl;have F:ix 3 [d,e,f,g].length=O 3:=rfl;rw[C,D,E,F];simp only[zG,cD,cB];rw[Ha v (by omega),Ha y (by omega)];simp only[zG];by_cases r:(iO d).1≠0
  .rw[zE r,zE (.inl r)];rfl
  rw[zF r];by_cases u:(iO e).1≠0
  .rw[zE u,zE (.inr u)];rfl
  rw[zF u,zF (by rintro(h|h)<;>contradiction),N,Q,T,V];simp only[zG];rw[xy (b.getD 1),xy (b.getD 2),xy (b.getD 3),xy (b.getD 4),ad (n:=w.getD 0 0) (by omega)];simp only[zG];have j: ∀n,lL (w.getD 0 0) f g (mm (w.getD 1 0)) (iO d).2 (mm (w.getD 2 0)) (iO e).2 n (mm (w.getD 4 0))=O (rb (w.getD 0 0) f.length g.length (mm (w.getD 1 0)) (iO d).2 (mm (w.getD 2 0)) (iO e).2 n (mm (w.getD 4 0))):=λn=>Ej (EB v (by omega)) (EB y (by omega)) (bB (JP v) (by omega)) (bB (JP y) (by omega))
  unfold Hd.chk VN;simp only;by_cases A:w.getD 0 0=2
  .simp only[zE A,zF (show¬w.getD 0 0≠2 by omega),zG,j];split<;>rfl
  .simp only[zF A,zE (show w.getD 0 0≠2 by omega),zG,j];split<;>rfl
theorem JG (p:jx w)(C:w.length<=1500){h:Hd}(b:D4 w= .inr (h,rest)):OpsOk h.l/\OpsOk h.k/\h.l.length<=1500/\h.k.length<=1500:=by
 unfold D4 at b;split at b
 .cases b
 .split at b
  .rename_i F H I J r o;obtain⟨K,L,M,N,d,⟨e,u⟩,⟨f,v⟩,⟨D,y⟩,⟨E,z⟩,A⟩:=Ik (p.drop 5) o;injection d with a1 d;injection d with a2 d;injection d with a3 d;injection d with a4 _
   subst a1;subst a2;subst a3;subst a4;rw[aB]at u v y z A;split at b
   .cases b
   split at b
   .cases b
   split at b
   .cases b
   .injection b with b
    injection b with g j
    subst g;subst j;exact⟨EB e (by omega),EB f (by omega),bB (JP e) (by omega),bB (JP f) (by omega)⟩
  .cases b
end
section
open Go.IntKind renaming wrap -> zH, i64 -> zI, u64 -> zJ
open Int renaming tdiv -> aB, tmod -> aD, eq_ofNat_of_zero_le -> cB, toNat_natCast -> cD
open IntKind renaming bits -> bB
open List renaming length_drop -> bD, getD_eq_getElem?_getD -> cK, getElem?_eq_getElem -> cL
open Nat renaming mod_eq_of_lt -> cM
theorem Xc {a b:Nat}(e:a<18446744073709551616)(f:b<18446744073709551616):tH .u64 (· &&& ·) (a:Int) (b:Int)=((a&&& b:Nat):Int):=by
 unfold tH
 have d:(BitVec.ofInt (bB .u64) (a:Int)&&& BitVec.ofInt (bB .u64) (b:Int)).toNat=a&&& b:=by
  rw[BitVec.ofInt_natCast,BitVec.ofInt_natCast,BitVec.toNat_and,BitVec.toNat_ofNat,BitVec.toNat_ofNat];rw[show 2 ^ bB .u64=18446744073709551616 from rfl,cM e,cM f]
 show zH zJ _=_;rw[d,cd];have:a&&& b<=a:=Nat.and_le_left;omega
def Vg (w:Zd)(i:Nat):Bool:=Zc ((w.getD (i / 64) 0).toNat / 2 ^ (i % 64) % 2=1)
theorem Ut (h:i<64*w.length):rd w ((i / 64:Nat):Int)=O (w.getD (i / 64) 0):=qk (by omega)
theorem UI (b: ∀x∈w,0<=x/\x<=18446744073709551615)(j:Nat):0<=w.getD j 0/\w.getD j 0<=18446744073709551615:=by
 rcases Nat.lt_or_ge j w.length with h|h
 .rw[cK,cL h];exact b _ (List.getElem_mem h)
 .rw[cK,List.getElem?_eq_none h];exact⟨Int.le_refl 0,by decide⟩
theorem Vh (o: ∀x∈w,0<=x/\x<=18446744073709551615)(h:i<64*w.length)(u:w.length<=2000){γ:Type}(G:Bool)(F:Int->Bool->Option γ):
  ((rd w (zH zI (aB (zH zI ((i:Int)-1+1)) 64))).bind λp=>gd (Zc (0<=(aD (zH zI ((i:Int)-1+1)) 64))) (gd G (F (zH zI ((i:Int)-1+1)) (Zc ((tH .u64 (· &&& ·) (Int.fdiv p (2 ^ (min (Int.toNat (aD (zH zI ((i:Int)-1+1)) 64)) (bB .u64)))) 1)=1)))))=gd G (F (i:Int) (Vg w i)):=by
 have b:zH zI ((i:Int)-1+1)=(i:Int):=by
  rw[show(i:Int)-1+1=(i:Int)by omega,Zi]
 have d:zH zI (aB (i:Int) 64)=((i / 64:Nat):Int):=by
  rw[show aB (i:Int) 64=((i / 64:Nat):Int)from rfl,Zi]
 have e:aD (i:Int) 64=((i % 64:Nat):Int):=rfl;rw[b,d,e,Ut h];simp only[zG];obtain⟨k,r⟩:=UI o (i / 64);unfold Vg;generalize w.getD (i / 64) 0=x at*;obtain⟨x,rfl⟩:=cB k;rw[zB (show(0:Int)<=((i % 64:Nat):Int)by omega),bz]
 have f:min (Int.toNat ((i % 64:Nat):Int)) (bB .u64)=i % 64:=by
  show min (i % 64) 64=i % 64;omega
 rw[f]
 have g:Int.fdiv (x:Int) (2 ^ (i % 64))=((x / 2 ^ (i % 64):Nat):Int):=by
  rw[Int.fdiv_eq_ediv_of_nonneg _ (Int.le_of_lt (Int.pow_pos (by decide))),Int.natCast_ediv];rfl
 have j:x / 2 ^ (i % 64)<18446744073709551616:=Nat.lt_of_le_of_lt (Nat.div_le_self _ _) (by omega);rw[g,show(1:Int)=((1:Nat):Int)from rfl,Xc j (by decide),Nat.and_one_is_mod,cD];have:Zc (((x / 2 ^ (i % 64) % 2:Nat):Int)=((1:Nat):Int))=Zc (x / 2 ^ (i % 64) % 2=1):=decide_eq_decide.2 (by omega);rw[this]
def tI (w:Zd)(n:Nat):List Bool:=(List.range n).map (Vg w)
theorem Kv (w:Zd)(n:Nat):tI w (n+1)=tI w n++[Vg w n]:=by
 unfold tI;rw[List.range_succ,List.map_append];rfl
theorem A0 (w:Zd)(n:Nat):(tI w n).length=n:=by simp[tI]
theorem ay9 (j: ∀x∈w,0<=x/\x<=18446744073709551615){n:Nat}(h:n<=64*w.length)(g:w.length<=2000):aq (mw (n:Int) w) cx ((0,(-1),[]))=O ((n:Int)-1,tI w n):=by
 have:=fP (f:=mw (n:Int) w) (n:=n) (F:=λi=>((i:Int)-1,tI w i)) (c:=((n:Int)-1,tI w n)) (by omega) (λi hi=> ?_) ?_
 .exact this
 .unfold mw;simp only;rw[zB (show(i:Int)<(n:Int)by omega),zC];refine(Vh j (i:=i) (by omega) g (γ:=(Int×Int×List Bool)⊕(Int×List Bool)) (fV ((tI w i).length+1) 1) (λa b=>O (Sum.inl (zH zI ((i:Int)+1),a,tI w i++[b])))).trans ?_;have e:(tI w i).length=i:=A0 w i;rw[e,bt (by omega) (by decide),Kv,Zi];have d:((i+1:Nat):Int)-1=(i:Int):=by omega
  rw[d];rfl
 .unfold mw;simp only;rw[zA (show¬(n:Int)<(n:Int)by omega),zD]
theorem ah5 (j: ∀x∈w,0<=x/\x<=18446744073709551615)(i:Nat)(l:List Bool):aq (og ((i:Int),l)) cx ((0,w.getD (i / 64) 0))=O (((w.getD (i / 64) 0).toNat / 2 ^ (i % 64):Nat):Int):=by
 obtain⟨g,o⟩:=UI j (i / 64);generalize w.getD (i / 64) 0=x at*;obtain⟨x,rfl⟩:=cB g;rw[cD];have:=fP (f:=og ((i:Int),l)) (n:=i % 64) (F:=λk=>((x / 2 ^ k:Nat):Int)) (c:=((x / 2 ^ (i % 64):Nat):Int)) (by omega) (λk p=> ?_) ?_
 .rw[<-this];simp
 .unfold og;simp only;have b:aD (i:Int) 64=((i % 64:Nat):Int):=rfl;rw[b,zB (show(k:Int)<((i % 64:Nat):Int)by omega),zC]
  have d:zH zI ((k:Int)+1)=((k+1:Nat):Int):=by
   show zH zI _=_;rw[Zi];omega
  have e:zH zJ (aB ((x / 2 ^ k:Nat):Int) 2)=((x / 2 ^ (k+1):Nat):Int):=by
   show zH zJ _=_;rw[show aB ((x / 2 ^ k:Nat):Int) 2=((x / 2 ^ k / 2:Nat):Int)from rfl,Nat.div_div_eq_div_mul,show 2 ^ k*2=2 ^ (k+1)from rfl];have:x / 2 ^ (k+1)<=x:=Nat.div_le_self _ _;generalize x / 2 ^ (k+1)=z at this⊢;exact cd (by omega)
  rw[d,e]
 .unfold og;simp only;have b:aD (i:Int) 64=((i % 64:Nat):Int):=rfl;rw[b,zA (show¬((i % 64:Nat):Int)<((i % 64:Nat):Int)by omega),zD]
theorem az0 (j: ∀x∈w,0<=x/\x<=18446744073709551615){n:Nat}(h:n<=64*w.length)(k:w.length<=2000):aq (oh (n:Int) w) cx ((0,[]))=O (tI w n):=by
 refine fP (f:=oh (n:Int) w) (n:=n) (F:=λi=>tI w i) (by omega) (λi hi=> ?_) ?_
 .unfold oh;simp only
  have d:zH zI (aB (i:Int) 64)=((i / 64:Nat):Int):=by
   show zH zI _=_;rw[show aB (i:Int) 64=((i / 64:Nat):Int)from rfl,Zi]
  rw[zB (show(i:Int)<(n:Int)by omega),zC,d,Ut (by omega)];simp only[zG];rw[ah5 j];simp only[zG];have g:List.length (tI w i)=i:=A0 w i;rw[g,bt (by omega) (by decide),Kv]
  have b:zH zI ((i:Int)+1)=((i+1:Nat):Int):=by
   show zH zI _=_;rw[Zi];omega
  have e:Zc (aD (((w.getD (i / 64) 0).toNat / 2 ^ (i % 64):Nat):Int) 2=1)=Vg w i:=by
   unfold Vg;refine decide_eq_decide.2 ?_;rw[show aD (((w.getD (i / 64) 0).toNat / 2 ^ (i % 64):Nat):Int) 2=(((w.getD (i / 64) 0).toNat / 2 ^ (i % 64) % 2:Nat):Int)from rfl];omega
  rw[b,e]
 .unfold oh;simp only;rw[zA (show¬(n:Int)<(n:Int)by omega),zD]
def Sx (w:Zd):Option (Zd×List Bool):=if w.length<5 then Y else match S 5 (w.drop 5) []with
 |none=>Y
 |some (l,rest)=>if w.getD 0 0=2 then(match rest with
  |[]=>Y
  |n::b=>if 64*(b.length:Int)<n then Y else O (l.getD 4 [],tI b n.toNat))else O (l.getD 4 [],[])
theorem Oe (d:jx w){l:List (Zd)}(h:S 5 w []=O (l,rest)):l.length=5/\jx rest/\rest.length<=w.length:=by
 have: ∀(r:Nat) (w:Zd) (b:List (Zd)) (q:List (Zd)×Zd),jx w->S r w b=O q->q.1.length=b.length+r/\jx q.2/\q.2.length<=w.length:=by
  intro r;induction r with
  |zero=>intro w b q d h;injection h with h;subst h;exact⟨rfl,d,Nat.le_refl _⟩
  |succ r k=>
   intro w b q d h;cases w with
   |nil=>cases h
   |cons x t=>
    simp only[S]at h;split at h
    .cases h
    .obtain⟨e,f,g⟩:=k _ _ _ (λy j=>d y (by simp[List.mem_of_mem_drop j])) h;rw[bD]at g;refine⟨by simp at e;omega,f,by simp;omega⟩
 obtain⟨e,f,g⟩:=this 5 w [] _ d h;exact⟨by simpa using e,f,g⟩
theorem VG (L:jx w)(N:w.length<=1500):rA w=O (match Sx w with|some (c,b)=>(c,0,b)|none=>([],4,[])):=by
 unfold rA Sx;by_cases C:w.length<5
 .rw[Zf,zC,zE C]
 rw[Ze,zD,zF C,Zk,bz];have g:lC w 5 (w.length:Int)=w.drop 5:=vN (n:=5);rw[g];have r:jx (w.drop 5):=L.drop 5;have I:=Hr (K:=5) (by omega) r (by rw[bD];omega);refine cl I ?_;cases e:S 5 (w.drop 5) []with
 |none=>rfl
 |some p=>
  obtain⟨l,rest⟩:=p;obtain⟨E,z,A⟩:=Oe r e;rw[bD]at A;show cond (Zc ((0:Int)≠0)) _ _=_;rw[zA (by simp),zD]
  have y:rd w 0=O (w.getD 0 0):=by
   exact qk (l:=w) (i:=0) (by omega)
  refine cl y ?_;have f: ∃v:4<l.length,l[4]=l.getD 4 []:=⟨by omega,by simp[List.getD,show 4<l.length by omega]⟩
  obtain⟨v,f⟩:=f;have d:ix 4 l.length=O 4:=bp (k:=4) (by omega);have j:l[4]?=O (l.getD 4 []):=by rw[cL v,f]
  by_cases u:w.getD 0 0=2
  .rw[zB u,zC];simp only[zE u];cases rest with
   |nil=>rfl
   |cons n b=>
    show cond (Zc (((b.length+1:Nat):Int)=0)) _ _=_;rw[Ze,zD];have H:b.length+1<=1500:=by simp at A;omega
    have o:ix 0 (b.length+1)=O 0:=bp (k:=0) (by omega);have Q:=z n (by simp);refine cl o ?_;refine cl (a:=n) rfl ?_;show cond (Zc (zH zJ (zH zI (64*(zH zI ((((b.length+1:Nat):Int))-1))))<n)) _ _=_
    have M:zH zJ (zH zI (64*(zH zI ((((b.length+1:Nat):Int))-1))))=64*(b.length:Int):=by
     rw[show(((b.length+1:Nat):Int))-1=(b.length:Int)by omega,ad (n:=(b.length:Int)) (by omega),ad (n:=64*(b.length:Int)) (by omega)];exact cd (by omega)
    rw[M];by_cases c:64*(b.length:Int)<n
    .rw[zB c,zC];simp only[zE c]
    .rw[zA c,zD];simp only[zF c];refine cl o ?_;refine cl (a:=n) rfl ?_;show gd (ej 1 ((b.length+1:Nat):Int) (b.length+1)) ((qP (zH zI n) _).bind _)=_;rw[Zk,bz,ad (n:=n) (by omega)]
     have F:qP n (List.take (((((n::b).length:Nat):Int)).toNat-1) (List.drop 1 (n::b)))=O (0,tI b n.toNat):=by
      have J:List.take (((((n::b).length:Nat):Int)).toNat-1) (List.drop 1 (n::b))=b:=by
       rw[show((((n::b).length:Nat):Int)).toNat-1=b.length by simp];simp
      rw[J];unfold qP;rw[Ze,zD,ad (n:=64*(b.length:Int)) (by omega),Ze,zD];have D:=ay9 (w:=b) (λx v=>z x (by simp[v])) (n:=n.toNat) (by omega) (by omega);rw[show((n.toNat:Nat):Int)=n by omega]at D;exact cl D rfl
     refine cl F ?_;refine cl (by rw[E]at d⊢;exact d) ?_;exact cl j rfl
  .rw[zA u,zD];simp only[zF u];refine cl d ?_;exact cl j rfl
end
section
open List renaming getElem?_cons_succ -> aB, getElem?_eq_getElem -> aD, takeWhile_cons_of_pos -> bB, takeWhile_prefix -> bD
theorem OU : ∀{l:List Bool} {i:Nat},i<(l.takeWhile id).length->l[i]?=O Za
 |[],i,h=>by simp at h
 |b::l,i,h=>by
  cases b with
  |false=>simp at h
  |true=>
   rw[bB (by rfl)]at h;cases i with
   |zero=>rfl
   |succ i=>
    rw[aB];exact OU (by simpa using h)
theorem K5 : ∀{l:List Bool},(l.takeWhile id).length<l.length->l[(l.takeWhile id).length]?=O Zb
 |[],h=>by simp at h
 |b::l,h=>by
  cases b with
  |false=>rfl
  |true=>
   rw[bB (by rfl)]at h⊢;rw[List.length_cons,aB];exact K5 (by simpa using h)
theorem JL (l:List Bool):(l.takeWhile id).length<=l.length:=(bD id).length_le
theorem Na (l:List Bool):l.take (l.takeWhile id).length=l.takeWhile id:=(List.prefix_iff_eq_take.1 (bD id)).symm
theorem XH {l:List Bool}(j:l.length<=1000000):iZ l Zb=O (if(l.takeWhile id).length<l.length then((l.takeWhile id).length:Int)else-1):=by
 have g:=JL l;generalize f:(l.takeWhile id).length=k at*
 have d:aq (hY l Zb) cx 0=O (if k<l.length then .inl (k:Int)else .inr ()):=by
  refine sq (n:=k) (by omega) (λi hi=> ?_) ?_
  .have b:=OU (l:=l) (i:=i) (by omega);have e:i<l.length:=by omega
   unfold hY;rw[Zf,zC,cn e];rw[aD e]at b;injection b with b
   rw[b];show O (Sum.inl (IntKind.i64.wrap ((i:Int)+1)))=_;rw[Zi];rfl
  .unfold hY;by_cases c:k<l.length
   .rw[Zf,zC,cn c,zE c];have b:=K5 (l:=l) (by omega);rw[f,aD c]at b;injection b with b
    rw[b];rfl
   .rw[Ze,zD,zF c]
 unfold iZ;refine cl d ?_;split<;>rfl
theorem Wo {l:List Bool}(e:Int)(g:l.length<=1000000):aq (ru (e,l)) cx 0=O ((l.takeWhile id).length:Int):=by
 have f:=JL l;generalize d:(l.takeWhile id).length=k at*;refine sq (n:=k) (by omega) (λi hi=> ?_) ?_
 .have b:=OU (l:=l) (i:=i) (by omega);unfold ru;rw[zB (show(i:Int)<((l.length:Nat):Int)by omega),zC];refine cl (bp (k:=i) (n:=l.length) (by omega)) ?_;refine cl b ?_;rw[zC,Zi];rfl
 .unfold ru;by_cases c:k<l.length
  .rw[zB (show(k:Int)<((l.length:Nat):Int)by omega),zC];refine cl (bp (k:=k) (n:=l.length) (by omega)) ?_;have b:=K5 (l:=l) (by omega);rw[d]at b;exact cl b rfl
  .rw[zA (show¬(k:Int)<((l.length:Nat):Int)by omega),zD]
def Hd.pl (h:Hd):Int:=(fi h.m h.x.length h.t.length h.R h.l h.Q h.k h.n h.b).2.2.2.2
def CT (w:Zd):Int⊕(Hd×Zd×List Bool):=match Sx w with
 |none=> .inl 4
 |some (c,b)=>match D4 w with
  | .inl e=> .inl e
  | .inr (h,_)=>if h.pl≠0 then .inl h.pl else if h.m=2/\65536<=(b.takeWhile id).length then .inl 14 else .inr (h,c,b.takeWhile id)
theorem KH {e:Int}(h:D4 w= .inl e):e≠0:=by
 unfold D4 at h;split at h
 .injection h with h;omega
 .split at h
  .split at h
   .injection h with h;omega
   split at h
   .injection h with h;omega
   split at h
   .rename_i b;injection h with h;rw[<-h];exact b
   .cases h
  .injection h with h;omega
theorem Xt {h:Hd}{r:Zd}(e:D4 w= .inr (h,r)):h.m=w.getD 0 0/\h.chk=0:=by
 unfold D4 at e;split at e
 .cases e
 .split at e
  .split at e
   .cases e
   split at e
   .cases e
   split at e
   .cases e
   .rename_i f;injection e with e;injection e with b d;subst b;exact⟨rfl,by omega⟩
  .cases e
theorem XB (p:jx w)(v:w.length<=1500){c:Zd}{b:List Bool}(h:Sx w=O (c,b)):b.length<=100000/\(w.getD 0 0≠2->b=[]):=by
 unfold Sx at h;split at h
 .cases h
 split at h
 .cases h
 .rename_i l rest o;obtain⟨u,f,e⟩:=Oe (p.drop 5) o;rw[List.length_drop]at e;split at h
  .rename_i j;split at h
   .cases h
   .rename_i n r;split at h
    .cases h
    .injection h with h
     injection h with g d
     subst d;have y:=f n (by simp);simp at e;exact⟨by rw[A0];omega,λk=>(k j).elim⟩
  .injection h with h
   injection h with g d
   subst d;exact⟨by simp,λ_=>rfl⟩
theorem IV (f:jx w)(o:w.length<=1500):ie w=O (match CT w with
  | .inl e=>(0,0,[],0,[],0,0,[],e,[],[],[])
  | .inr (h,c,b)=>(h.m,h.R,h.l,h.Q,h.k,h.n,h.b,c,0,h.x,h.t,b)):=by
 unfold ie CT;refine cl (VG f o) ?_;cases e:Sx w with
 |none=>rfl
 |some p=>
  obtain⟨c,b⟩:=p;obtain⟨H,z⟩:=XB f o e;show cond (Zc ((0:Int)≠0)) _ _=_;rw[zA (by simp),zD];refine cl (MB f (by omega)) ?_;cases j:D4 w with
  |inl y=>
   show cond (Zc (y≠0)) _ _=_;rw[zB (KH j),zC]
  |inr q=>
   obtain⟨h,r⟩:=q;obtain⟨C,D,E,F⟩:=JG f o j;obtain⟨J,I⟩:=Xt j;show cond (Zc ((0:Int)≠0)) _ ((gm h.m h.x h.t h.R h.l h.Q h.k h.n h.b).bind _)=_;rw[zA (by simp),zD];refine cl (Be C D) ?_;show cond (Zc (h.pl≠0)) _ _=_;simp only;by_cases d:h.pl≠0
   .rw[zB d,zC,zE d];rfl
   rw[zA d,zD,zF d];refine cl (a:=(h.m,h.R,h.l,h.Q,h.k,h.n,h.b,c,h.x,h.t,r,b.takeWhile id)) ?_ ?_
   .refine cl (XH (by omega)) ?_;have A:=JL b;by_cases k:(b.takeWhile id).length<b.length
    .rw[zE k,Zf,zC,Zk,bz];show O (h.m,h.R,h.l,h.Q,h.k,h.n,h.b,c,h.x,h.t,r,List.take (((b.takeWhile id).length:Int).toNat-0) b)=_;rw[show(((b.takeWhile id).length:Int)).toNat-0=(b.takeWhile id).length by omega,Na]
    .rw[zF k,Ze,zD]
     have:b=b.takeWhile id:=by
      have u:=Na b;rw[List.take_of_length_le (by omega)]at u;exact u
     rw[<-this]
   show cond (Zc (h.m=2)) (cond (Zc ((65536:Int)<=(((b.takeWhile id).length:Nat):Int))) _ _) _=_;by_cases g:h.m=2
   .rw[zB g,zC];by_cases v:65536<=(b.takeWhile id).length
    .rw[Zf,zC,zE ⟨g,v⟩]
    .rw[Ze,zD,zF (λk=>v k.2)]
   .rw[zA g,zD,zF (λk=>g k.1)]
end
end Go.V
