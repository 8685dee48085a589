/- A part of the proofs of this claim: what functions of the program answer on an abstract machine, and plain laws. No condition. -/
import Derived.Test.YtabdgoepkddlbaaGreatL3
set_option linter.unusedVariables false
set_option linter.unusedSimpArgs false
set_option linter.unusedSectionVars false
namespace Go.V
open Go.Ab
open Option renaming some->Y,none->Z
open Bool renaming true->Za,false->Zb
open Decidable renaming decide->Zc
section
open Go.IntKind renaming wrap -> zH, i64 -> zI, u64 -> zJ
open List renaming append_assoc -> aB, getD_eq_getElem?_getD -> aD, getElem?_append_right -> bB
set_option maxRecDepth 100000
def dv4 (s x:Int):Int:=(3*s+x) % 18446744073709551616
def S36 (l:Zd):Int:=l.foldl dv4 1
theorem cF3 (a b:Int):al4 [a,b]=Y (a*b % 18446744073709551616):=by
 unfold al4;rw[bA0 (l:=[a,b]) (λs x=>s*x % 18446744073709551616) 1 (c:=id) (by simp) ?_ ?_]
 .simp only[zG,List.foldl,id];rw[Int.one_mul,Int.mul_emod,Int.emod_emod_of_dvd _ (Int.dvd_refl _),<-Int.mul_emod]
 .intro i hi s;simp only[aw3,ak];rw[zE (by omega),dq hi];simp only[zG];rw[ad (by simp at hi;omega),cY4];rfl
 .intro s;simp only[aw3,ak];rw[zF (by omega)];rfl
theorem cF2 (a b:Int):al3 [a,b]=Y ((a+b) % 18446744073709551616):=by
 unfold al3;rw[bA0 (l:=[a,b]) (λs x=>(s+x) % 18446744073709551616) 0 (c:=id) (by simp) ?_ ?_]
 .simp only[zG,List.foldl,id]
  congr 1
  omega
 .intro i hi s;simp only[aw2,ak];rw[zE (by omega),dq hi];simp only[zG];rw[ad (by simp at hi;omega),cY4];rfl
 .intro s;simp only[aw2,ak];rw[zF (by omega)];rfl
theorem cX9 (s x:Int):(s*3 % 18446744073709551616+x) % 18446744073709551616=dv4 s x:=by
 unfold dv4;omega
theorem cN3 (l:Zd)(hl:l.length<9223372036854775807):ah5 l=Y (S36 l):=by
 unfold ah5;rw[bA0 (l:=l) dv4 1 (c:=id) hl ?_ ?_]
 .rfl
 .intro i hi s;simp only[ad8,ak];rw[zE (by omega),dq hi];simp only[zG,cF3,cF2,cX9];rw[ad (by omega)];rfl
 .intro s;simp only[ad8,ak];rw[zF (by omega)];rfl
def W36 (h:Zd)(l:Zd):Zd:=h++(l.length:Int)::l++[S36 (h++(l.length:Int)::l)]
theorem aL3 (l:Zd)(a1 a2 a3 a4 a5 a6 a7 a8 a9 a10 a11 a12 a13 a14 a15 a16:Int)(hl:l.length<=1048576):sE l a1 a2 a3 a4 a5 a6 a7 a8 a9 a10 a11 a12 a13 a14 a15 a16=
  Y (W36 [a1,a2,a3,a4,a5,a6,a7,a8,a9,a10,a11,a12,a13,a14,a15,a16] l):=by
 unfold sE W36;rw[ad (show-9223372036854775808<=(16+(((l.length:Nat)):Int))/\(16+(((l.length:Nat)):Int))<=9223372036854775807 by omega),ad (by omega),cj1 (by omega)];have hb:aC3 (List.replicate 16 (0:Int)) 0 (List.length (List.replicate 16 (0:Int))) [a1,a2,a3,a4,a5,a6,a7,a8,a9,a10,a11,a12,a13,a14,a15,a16]=[a1,a2,a3,a4,a5,a6,a7,a8,a9,a10,a11,a12,a13,a14,a15,a16]:=rfl;rw[hb];have e1:Zc (16<=16+(l.length:Int)+2)=Za:=zB (by omega);have e2:Zc ((8:Int)*(16+(l.length:Int)+2)<=140737488355328)=Za:=zB (by omega);rw[e1,e2];show gd Za _=_;rw[cm,ck (by simp) (by omega),ck (by simp;omega) (by omega),cN3 _ (by simp;omega)];simp only[zG];rw[ck (by simp;omega) (by omega)];simp only[aB,List.singleton_append]
def cS5 (e:Int):Int×Int×Int×Int×Int×Int×Int×Int×Int×Int×Int×Int×Int×Int×Int×Int×Int×Zd:=(0,0,0,0,0,0,0,0,0,0,0,0,0,0,0,0,e,[])
def ct1 (w:Zd):Int×Int×Int×Int×Int×Int×Int×Int×Int×Int×Int×Int×Int×Int×Int×Int×Int×Zd:=
 if w.length<18 then cS5 4 else if(w.length:Int)-18<w.getD 16 0 then cS5 4 else if w.getD 16 0<(w.length:Int)-18 then cS5 21
 else if w.getD (w.length-1) 0≠S36 (w.take (w.length-1))then cS5 3 else(w.getD 0 0,w.getD 1 0,w.getD 2 0,w.getD 3 0,w.getD 4 0,w.getD 5 0,w.getD 6 0,w.getD 7 0,w.getD 8 0,w.getD 9 0,w.getD 10 0,w.getD 11 0,w.getD 12 0,w.getD 13 0,w.getD 14 0,w.getD 15 0,0,(w.take (w.length-1)).drop 17)
theorem bE2 (w:Zd)(hl:w.length<=2000000):oq w=Y (ct1 w):=by
 unfold oq ct1;rw[cj1 (show w.length<9223372036854775808 by omega)];simp only[ak];by_cases c1:w.length<18
 .rw[zE (by omega),zE c1];rfl
 rw[zF (by omega),zF c1,cc (by omega),ad (show-9223372036854775808<=(w.length:Int)-1/\(w.length:Int)-1<=9223372036854775807 by omega)];rw[show rd w 16=Y (w.getD 16 0)from cW6 (i:=16) (by omega)];simp only[zG,ak];by_cases c2:(w.length:Int)-18<w.getD 16 0
 .rw[zE c2,zE c2];rfl
 rw[zF c2,zF c2];by_cases c3:w.getD 16 0<(w.length:Int)-18
 .rw[zE c3,zE c3];rfl
 rw[zF c3,zF c3]
 have hloop:ap (vu w) fy (0,1)=Y (S36 (w.take (w.length-1))):=by
  refine pu (n:=w.length-1) (λi=>(w.take i).foldl dv4 1) (by omega) ?_ ?_
  .intro i hi;have hlt:i<w.length:=by omega
   simp only[vu,ak];rw[zE (by omega),dq hlt,ad (show-9223372036854775808<=(w.length:Int)-1/\(w.length:Int)-1<=9223372036854775807 by omega)];simp only[zG,cF3,cF2,cX9];rw[zF (by omega),ad (by omega),List.take_succ_eq_append_getElem hlt,List.foldl_append];rfl
  .simp only[vu,ak];rw[zE (by omega),dq (by omega),ad (show-9223372036854775808<=(w.length:Int)-1/\(w.length:Int)-1<=9223372036854775807 by omega)];simp only[zG];rw[zE (by omega)];rfl
 rw[hloop,show rd w ((w.length:Int)-1)=Y (w.getD (w.length-1) 0)from by rw[<-cW6 (by omega)];congr 1;omega];simp only[zG,ak];by_cases c4:w.getD (w.length-1) 0≠S36 (w.take (w.length-1))
 .rw[zE c4,zE c4];rfl
 rw[zF c4,zF c4];unfold i5 aq cA1;rw[zB (show(0:Int)<=17 by omega),zB (show(17:Int)<=(w.length:Int)-1 by omega),zB (show(w.length:Int)-1<=(w.length:Int)by omega)];show gd Za _=_;rw[cm,ck (by simp;omega) (by omega)];simp only[zG];rw[show((w.length:Int)-1).toNat=w.length-1 by omega];rfl
theorem co6 {h l:Zd}(hh:h.length=16):(W36 h l).length=l.length+18:=by
 simp[W36,hh];omega
theorem dh8 {h l:Zd}(hh:h.length=16):(W36 h l).take (l.length+17)=h++(l.length:Int)::l:=by
 unfold W36;rw[List.take_append_of_le_length (by simp[hh];omega),List.take_of_length_le (by simp[hh];omega)]
theorem dh7 {h l:Zd}(hh:h.length=16):(W36 h l).getD (l.length+17) 0=S36 (h++(l.length:Int)::l):=by
 unfold W36;rw[aD,bB (by simp[hh];omega)];simp[hh];rw[show l.length+17-(16+(l.length+1))=0 by omega];rfl
theorem dN9 {h l:Zd}(hh:h.length=16):(W36 h l).getD 16 0=l.length:=by
 unfold W36;rw[aD,aB,bB (by simp[hh])];simp[hh]
theorem dt3 (l:Zd)(a1 a2 a3 a4 a5 a6 a7 a8 a9 a10 a11 a12 a13 a14 a15 a16:Int):ct1 (W36 [a1,a2,a3,a4,a5,a6,a7,a8,a9,a10,a11,a12,a13,a14,a15,a16] l)=(a1,a2,a3,a4,a5,a6,a7,a8,a9,a10,a11,a12,a13,a14,a15,a16,0,l):=by
 have hh:[a1,a2,a3,a4,a5,a6,a7,a8,a9,a10,a11,a12,a13,a14,a15,a16].length=16:=rfl;unfold ct1;rw[co6 hh,dN9 hh,zF (by omega),zF (by omega),zF (by omega),show l.length+18-1=l.length+17 by omega,dh7 hh,dh8 hh,zF (by simp)];have hd:([a1,a2,a3,a4,a5,a6,a7,a8,a9,a10,a11,a12,a13,a14,a15,a16]++(l.length:Int)::l).drop 17=l:=rfl;rw[hd];rfl
theorem co5 {a0:Int}{a1 a2:Zd}{a3:Int}{a4:List cd}{a5:Int}{a6:List cd}{a7 a8:Int}{l:Zd}{z0 z1 z2 z3 z4 z5 z6 z7 z8 z9 z10 z11 z12 z13 z14 z15:Int}(hl:l.length<=1048576):
  sd a0 a1 a2 a3 a4 a5 a6 a7 a8 (W36 [z0,z1,z2,z3,z4,z5,z6,z7,z8,z9,z10,z11,z12,z13,z14,z15] l)=jr a0 a1 a2 a3 a4 a5 a6 a7 a8 l z0 z1 z2 z3 z4 z5 z6 z7 z8 z9 z10 z11 z12 z13 z14 z15:=by
 unfold sd;rw[bE2 _ (by rw[co6 rfl];omega),dt3];simp only[zG];rw[zA (by simp),zD];cases jr a0 a1 a2 a3 a4 a5 a6 a7 a8 l z0 z1 z2 z3 z4 z5 z6 z7 z8 z9 z10 z11 z12 z13 z14 z15 with
 |none=>rfl
 |some x=>
  cases x with
  |inl u=>rfl
  |inr w=>cases w with
   |inl u=>rfl
   |inr v=>rfl
def bI (b:Bool):Int:=cond b 1 0
def cC5 (m L q y12 y13:Int):Bool:=cond (Zc (1<y12)) Zb (cond (Zc (1<y13)) Zb (cond (Zc (1<IntKind.u64.wrap (y12+y13))) Zb (cond (Zc (m≠2)) (Zc (zH zJ (y12+y13)=0)) (cond (Zc (y13=1)) (cond (!(Zc (0<=q))) (Zc (L=65535)) Zb) (cond (Zc (y12=1)) Za (!(Zc (0<=q))))))))
section
variable {c:Cx}
theorem cM7 (s:Dy)(m:Int)(a b:Bool):me m a b c.fixed c.tp c.sl c.ns c.mode c.R c.Q c.len c.words s.L s.p s.q s.c0 s.c1 s.c2 s.c3 s.z c.X c.T c.l c.k c.P c.tk s.lv s.pk c.words s.W=Y (s.p,s.q):=rfl
theorem cX7 (h:c.Ok)(hm:c.mode≠3)(s:Dy)(hW:Wd c s.W)(ht: ∀k,k<c.ns.toNat->0<=jq c s.W k/\jq c s.W k<=65536):cv c.fixed c.tp c.sl c.ns c.mode c.R c.Q c.len c.words s.L s.p s.q s.c0 s.c1 s.c2 s.c3 s.z c.X c.T c.l c.k c.P c.tk (c.off 8:Int) c.ns (c.X.length:Int) s.lv s.pk c.words s.W=Y (s.p,s.q,sw c s.W):=by
 unfold cv;rw[bv6 h hm hW ht];rfl
theorem dm2 (h:c.Ok)(hm:c.mode≠3)(s:Dy)(hi:Inv c s)(m:Int)(a b:Bool):fd m a b c.fixed c.tp c.sl c.ns c.mode c.R c.Q c.len c.words s.L s.p s.q s.c0 s.c1 s.c2 s.c3 s.z c.X c.T c.l c.k c.P c.tk (c.off 8:Int) c.ns (c.X.length:Int) s.lv s.pk c.words s.W=Y (s.p,s.q,sw c s.W):=by
 unfold fd;exact dv (cX7 h hm s hi.w λk hk=>by have:=hi.tag k hk;have:=hi.L;omega) rfl
theorem dm3 (h:c.Ok)(hm:c.mode≠3)(s:Dy)(hi:Inv c s)(m:Int)(a b:Bool):ff m a b c.fixed c.tp c.sl c.ns c.mode c.R c.Q c.len c.words s.L s.p s.q s.c0 s.c1 s.c2 s.c3 s.z c.X c.T c.l c.k c.P c.tk (c.off 8:Int) c.ns (c.X.length:Int) s.lv s.pk c.words s.W=Y (s.p,s.q,sw c s.W):=by
 unfold ff;exact dv (cX7 h hm s hi.w λk hk=>by have:=hi.tag k hk;have:=hi.L;omega) rfl
theorem dZ3 (s:Dy)(m y12 y13:Int)(a b:Bool):qe y12 y13 m a b c.fixed c.tp c.sl c.ns c.mode c.R c.Q c.len c.words s.L s.p s.q s.c0 s.c1 s.c2 s.c3 s.z c.X c.T c.l c.k c.P c.tk s.lv s.pk c.words s.W=Y (cC5 m s.L s.q y12 y13):=by
 unfold qe;refine dv (cM7 s m a b) ?_;rw[show nu m a b c.fixed c.tp c.sl c.ns c.mode c.R c.Q c.len c.words s.L s.p s.q s.c0 s.c1 s.c2 s.c3 s.z c.X c.T c.l c.k c.P c.tk s.lv s.pk c.words s.W=Y s.L from rfl];simp only[zG];unfold cC5;cases Zc (1<y12)<;>cases Zc (1<y13)<;>cases Zc (1<IntKind.u64.wrap (y12+y13))<;>cases Zc (m≠2)<;>cases Zc (y13=1)<;>cases Zc (0<=s.q)<;>cases Zc (y12=1)<;>rfl
theorem dZ4 (h:c.Ok)(hm:c.mode≠3)(s:Dy)(hi:Inv c s)(m y12 y13:Int)(a b:Bool):qf y12 y13 m a b c.fixed c.tp c.sl c.ns c.mode c.R c.Q c.len c.words s.L s.p s.q s.c0 s.c1 s.c2 s.c3 s.z c.X c.T c.l c.k c.P c.tk (c.off 8:Int) c.ns (c.X.length:Int) s.lv s.pk c.words s.W=Y (cC5 m s.L s.q y12 y13):=by
 unfold qf;refine dv (dm2 h hm s hi m a b) ?_;rw[show kt m a b c.fixed c.tp c.sl c.ns c.mode c.R c.Q c.len c.words s.L s.p s.q s.c0 s.c1 s.c2 s.c3 s.z c.X c.T c.l c.k c.P c.tk (c.off 8:Int) c.ns (c.X.length:Int) s.lv s.pk c.words s.W=Y s.L from rfl];simp only[zG];unfold cC5;cases Zc (1<y12)<;>cases Zc (1<y13)<;>cases Zc (1<IntKind.u64.wrap (y12+y13))<;>cases Zc (m≠2)<;>cases Zc (y13=1)<;>cases Zc (0<=s.q)<;>cases Zc (y12=1)<;>rfl
theorem dZ5 (h:c.Ok)(hm:c.mode≠3)(s:Dy)(hi:Inv c s)(m y12 y13:Int)(a b:Bool):qg y12 y13 m a b c.fixed c.tp c.sl c.ns c.mode c.R c.Q c.len c.words s.L s.p s.q s.c0 s.c1 s.c2 s.c3 s.z c.X c.T c.l c.k c.P c.tk (c.off 8:Int) c.ns (c.X.length:Int) s.lv s.pk c.words s.W=Y (cC5 m s.L s.q y12 y13):=by
 unfold qg;refine dv (dm3 h hm s hi m a b) ?_;rw[show ku m a b c.fixed c.tp c.sl c.ns c.mode c.R c.Q c.len c.words s.L s.p s.q s.c0 s.c1 s.c2 s.c3 s.z c.X c.T c.l c.k c.P c.tk (c.off 8:Int) c.ns (c.X.length:Int) s.lv s.pk c.words s.W=Y s.L from rfl];simp only[zG];unfold cC5;cases Zc (1<y12)<;>cases Zc (1<y13)<;>cases Zc (1<IntKind.u64.wrap (y12+y13))<;>cases Zc (m≠2)<;>cases Zc (y13=1)<;>cases Zc (0<=s.q)<;>cases Zc (y12=1)<;>rfl
def bS1 (c:Cx)(s:Dy)(en fa:Bool):Zd:=W36 [zH zJ c.mode,zH zJ s.L,zH zJ s.p,zH zJ (zH zI (s.q+1)),zH zJ c.ns,zH zJ s.c0,zH zJ s.c1,zH zJ s.c2,zH zJ s.c3,zH zJ s.lv,zH zJ s.pk,s.z,bI en,bI fa,0,0] s.W
theorem be2 (b:Bool):oo b=Y (bI b):=by cases b<;>rfl
theorem cM4 (s:Dy)(m:Int)(a b:Bool):gj m a b c.fixed c.tp c.sl c.ns c.mode c.R c.Q c.len c.words s.L s.p s.q s.c0 s.c1 s.c2 s.c3 s.z c.X c.T c.l c.k c.P c.tk s.lv s.pk c.words s.W=Y (bv1 c s):=by
 unfold gj;exact dv (dh5 s) rfl
theorem dY8 (h:c.Ok){s:Dy}(hW:Wd c s.W)(hl:s.W.length<=1048576)(m:Int)(en fa:Bool):oh m en fa c.fixed c.tp c.sl c.ns c.mode c.R c.Q c.len c.words s.L s.p s.q s.c0 s.c1 s.c2 s.c3 s.z c.X c.T c.l c.k c.P c.tk s.lv s.pk c.words s.W=Y (bS1 c s en fa):=by
 unfold oh;refine dv (cM4 s m en fa) ?_;simp only[bv1];refine dv (be2 en) (dv (be2 fa) ?_);refine dv (show qd m en fa c.fixed c.tp c.sl c.ns c.mode c.R c.Q c.len c.words s.L s.p s.q s.c0 s.c1 s.c2 s.c3 s.z c.X c.T c.l c.k c.P c.tk s.lv s.pk c.words s.W=Y s.W from by unfold qd;exact dv (dQ5 h hW) rfl) ?_;exact dv (aL3 _ _ _ _ _ _ _ _ _ _ _ _ _ _ _ _ _ hl) rfl
theorem cM5 (s:Dy)(m:Int)(a b:Bool):ew m a b c.fixed c.tp c.sl c.ns c.mode c.R c.Q c.len c.words s.L s.p s.q s.c0 s.c1 s.c2 s.c3 s.z c.X c.T c.l c.k c.P c.tk (c.off 8:Int) c.ns (c.X.length:Int) s.lv s.pk c.words s.W=Y (bv1 c s):=by
 unfold ew;exact dv (cy3 s) rfl
theorem dY9 (h:c.Ok){s:Dy}(hW:Wd c s.W)(hl:s.W.length<=1048576)(m:Int)(en fa:Bool):lq m en fa c.fixed c.tp c.sl c.ns c.mode c.R c.Q c.len c.words s.L s.p s.q s.c0 s.c1 s.c2 s.c3 s.z c.X c.T c.l c.k c.P c.tk (c.off 8:Int) c.ns (c.X.length:Int) s.lv s.pk c.words s.W=Y (bS1 c s en fa):=by
 unfold lq;refine dv (cM5 s m en fa) ?_;simp only[bv1];refine dv (be2 en) (dv (be2 fa) ?_);refine dv (show mr m en fa c.fixed c.tp c.sl c.ns c.mode c.R c.Q c.len c.words s.L s.p s.q s.c0 s.c1 s.c2 s.c3 s.z c.X c.T c.l c.k c.P c.tk (c.off 8:Int) c.ns (c.X.length:Int) s.lv s.pk c.words s.W=Y s.W from by unfold mr;exact dv (dn3 h hW) rfl) ?_;exact dv (aL3 _ _ _ _ _ _ _ _ _ _ _ _ _ _ _ _ _ hl) rfl
theorem cM6 (s:Dy)(m:Int)(a b:Bool):ey m a b c.fixed c.tp c.sl c.ns c.mode c.R c.Q c.len c.words s.L s.p s.q s.c0 s.c1 s.c2 s.c3 s.z c.X c.T c.l c.k c.P c.tk (c.off 8:Int) c.ns (c.X.length:Int) s.lv s.pk c.words s.W=Y (bv1 c s):=by
 unfold ey;exact dv (cy3 s) rfl
theorem dm6 (h:c.Ok){s:Dy}(hW:Wd c s.W)(hl:s.W.length<=1048576)(m:Int)(en fa:Bool):lr m en fa c.fixed c.tp c.sl c.ns c.mode c.R c.Q c.len c.words s.L s.p s.q s.c0 s.c1 s.c2 s.c3 s.z c.X c.T c.l c.k c.P c.tk (c.off 8:Int) c.ns (c.X.length:Int) s.lv s.pk c.words s.W=Y (bS1 c s en fa):=by
 unfold lr;refine dv (cM6 s m en fa) ?_;simp only[bv1];refine dv (be2 en) (dv (be2 fa) ?_);refine dv (show mt m en fa c.fixed c.tp c.sl c.ns c.mode c.R c.Q c.len c.words s.L s.p s.q s.c0 s.c1 s.c2 s.c3 s.z c.X c.T c.l c.k c.P c.tk (c.off 8:Int) c.ns (c.X.length:Int) s.lv s.pk c.words s.W=Y s.W from by unfold mt;exact dv (dn3 h hW) rfl) ?_;exact dv (aL3 _ _ _ _ _ _ _ _ _ _ _ _ _ _ _ _ _ hl) rfl
theorem ct2 {s:Dy}(hl:s.W.length<=1048576)(en fa:Bool):oq (bS1 c s en fa)=Y (zH zJ c.mode,zH zJ s.L,zH zJ s.p,zH zJ (zH zI (s.q+1)),zH zJ c.ns,zH zJ s.c0,zH zJ s.c1,zH zJ s.c2,zH zJ s.c3,zH zJ s.lv,zH zJ s.pk,s.z,bI en,bI fa,0,0,0,s.W):=by
 unfold bS1;rw[bE2 _ (by rw[co6 rfl];omega),dt3]
theorem cK5 (h:c.Ok)(hm:c.mode=3)(e:ke c.mode c.X.length c.T.length c.R c.l c.Q c.k c.len c.words=(c.fixed,c.tp,c.sl,c.ns,0)){s:Dy}(hi:InvB c s){B:Int}(hc:Cnt B s)(hB:B<=2305843009213693952)(x y:Int):
  jr c.mode c.X c.T c.R c.l c.Q c.k c.len c.words s.W (zH zJ c.mode) (zH zJ s.L) (zH zJ s.p) (zH zJ (zH zI (s.q+1))) (zH zJ c.ns) (zH zJ s.c0) (zH zJ s.c1) (zH zJ s.c2) (zH zJ s.c3) (zH zJ s.lv) (zH zJ s.pk) s.z x y 0 0=Y (.inr (.inl (cT6 c s))):=dO1 h hm e hi hc hB
theorem bO7 (h:c.Ok)(hm:c.mode≠3)(e:ke c.mode c.X.length c.T.length c.R c.l c.Q c.k c.len c.words=(c.fixed,c.tp,c.sl,c.ns,0)){s:Dy}(hi:Inv c s)(hL:bp9 c s){B:Int}(hc:Cnt B s)(hB:B<=2305843009213693952)(x y:Int):
  jr c.mode c.X c.T c.R c.l c.Q c.k c.len c.words s.W (zH zJ c.mode) (zH zJ s.L) (zH zJ s.p) (zH zJ (zH zI (s.q+1))) (zH zJ c.ns) (zH zJ s.c0) (zH zJ s.c1) (zH zJ s.c2) (zH zJ s.c3) (zH zJ s.lv) (zH zJ s.pk) s.z x y 0 0=Y (.inr (.inr (cf5 c s))):=dO2 h hm e hi hL hc hB
theorem bT6 {L q:Int}{m:Int}{en:Bool}(h1:m≠2->en=Zb)(h2:0<=q->m=2->en=Za):cC5 m L q (bI en) (bI Zb)=Za:=by
 unfold cC5;cases en with
 |false=>
  have e: ¬(0<=q/\m=2):=λk=>by cases h2 k.1 k.2
  by_cases c1:m=2
  .rw[zA (show¬(m≠2)from λk=>k c1),zA (show¬(0<=q)from λk=>e ⟨k,c1⟩)];rfl
  .rw[zB (show m≠2 from c1)];rfl
 |true=>
  have c1:m=2:=Classical.byContradiction λk=>by cases h1 k
  rw[zA (show¬(m≠2)from λk=>k c1)];rfl
theorem dg1 (h:c.Ok)(hm:c.mode=3)(e:ke c.mode c.X.length c.T.length c.R c.l c.Q c.k c.len c.words=(c.fixed,c.tp,c.sl,c.ns,0)){s:Dy}(hi:InvB c s){B:Int}(hc:Cnt B s)(hB:B<=2305843009213693952)(hl:s.W.length<=1048576):
  jt c.mode c.X c.T c.R c.l c.Q c.k c.len c.words (bS1 c s Zb Zb)=Y (.inr (.inl (c.mode,Zb,Zb,c.fixed,c.tp,c.sl,c.ns,c.mode,c.R,c.Q,c.len,c.words,s.L,s.p,s.q,s.c0,s.c1,s.c2,s.c3,s.z,c.X,c.T,c.l,c.k,c.P,c.tk,s.lv,s.pk,c.words,s.W))):=by
 unfold jt;have e1:sd c.mode c.X c.T c.R c.l c.Q c.k c.len c.words (bS1 c s Zb Zb)=Y (.inr (.inl (cT6 c s))):=(co5 hl).trans (cK5 h hm e hi hc hB _ _);refine dv e1 ?_;simp only[bg,kn,cT6];refine dv (ct2 hl Zb Zb) ?_
 refine dv (show sa c.mode c.X c.T c.R c.l c.Q c.k c.len c.words c.fixed c.tp c.sl c.ns c.mode c.R c.Q c.len c.words s.L s.p s.q s.c0 s.c1 s.c2 s.c3 s.z c.X c.T c.l c.k c.P c.tk s.lv s.pk c.words s.W=Y (c.mode,Zb,Zb)from by
  simp only[sa,hm]
  rfl) ?_
 refine dv (dZ3 s c.mode (bI Zb) (bI Zb) Zb Zb) ?_;rw[bT6 (λ_=>rfl) (λ_ k=>by omega)];rfl
theorem dg2 (h:c.Ok)(hm:c.mode=1)(e:ke c.mode c.X.length c.T.length c.R c.l c.Q c.k c.len c.words=(c.fixed,c.tp,c.sl,c.ns,0)){s:Dy}(hi:Inv c s)(hL:bp9 c s){B:Int}(hc:Cnt B s)(hB:B<=2305843009213693952)(hl:s.W.length<=1048576){en:Bool}(h1:c.mode≠2->en=Zb)(h2:0<=s.q->c.mode=2->en=Za):
  jt c.mode c.X c.T c.R c.l c.Q c.k c.len c.words (bS1 c s en Zb)=Y (.inr (.inr (.inl (c.mode,en,Zb,c.fixed,c.tp,c.sl,c.ns,c.mode,c.R,c.Q,c.len,c.words,s.L,s.p,s.q,s.c0,s.c1,s.c2,s.c3,s.z,c.X,c.T,c.l,c.k,c.P,c.tk,(c.off 8:Int),c.ns,(c.X.length:Int),s.lv,s.pk,c.words,s.W)))):=by
 unfold jt;have e1:sd c.mode c.X c.T c.R c.l c.Q c.k c.len c.words (bS1 c s en Zb)=Y (.inr (.inr (cf5 c s))):=(co5 hl).trans (bO7 h (by omega) e hi hL hc hB _ _);refine dv e1 ?_;simp only[bg,cf5];refine dv (ct2 hl en Zb) ?_
 refine dv (show iy c.mode c.X c.T c.R c.l c.Q c.k c.len c.words c.fixed c.tp c.sl c.ns c.mode c.R c.Q c.len c.words s.L s.p s.q s.c0 s.c1 s.c2 s.c3 s.z c.X c.T c.l c.k c.P c.tk (c.off 8:Int) c.ns (c.X.length:Int) s.lv s.pk c.words s.W=Y (.inl (c.mode,Zb,Zb))from by
  simp only[iy,hm]
  rfl) ?_
 rw[kn];refine dv (dZ4 h (by omega) s hi c.mode (bI en) (bI Zb) Zb Zb) ?_;rw[bT6 h1 h2];cases en<;>rfl
theorem bB4 (h:c.Ok)(hm:c.mode=2)(e:ke c.mode c.X.length c.T.length c.R c.l c.Q c.k c.len c.words=(c.fixed,c.tp,c.sl,c.ns,0)){s:Dy}(hi:Inv c s)(hL:bp9 c s){B:Int}(hc:Cnt B s)(hB:B<=2305843009213693952)(hl:s.W.length<=1048576){en:Bool}(h1:c.mode≠2->en=Zb)(h2:0<=s.q->c.mode=2->en=Za):
  jt c.mode c.X c.T c.R c.l c.Q c.k c.len c.words (bS1 c s en Zb)=Y (.inr (.inr (.inr (c.mode,en,Zb,c.fixed,c.tp,c.sl,c.ns,c.mode,c.R,c.Q,c.len,c.words,s.L,s.p,s.q,s.c0,s.c1,s.c2,s.c3,s.z,c.X,c.T,c.l,c.k,c.P,c.tk,(c.off 8:Int),c.ns,(c.X.length:Int),s.lv,s.pk,c.words,s.W)))):=by
 unfold jt;have e1:sd c.mode c.X c.T c.R c.l c.Q c.k c.len c.words (bS1 c s en Zb)=Y (.inr (.inr (cf5 c s))):=(co5 hl).trans (bO7 h (by omega) e hi hL hc hB _ _);refine dv e1 ?_;simp only[bg,cf5];refine dv (ct2 hl en Zb) ?_
 refine dv (show iy c.mode c.X c.T c.R c.l c.Q c.k c.len c.words c.fixed c.tp c.sl c.ns c.mode c.R c.Q c.len c.words s.L s.p s.q s.c0 s.c1 s.c2 s.c3 s.z c.X c.T c.l c.k c.P c.tk (c.off 8:Int) c.ns (c.X.length:Int) s.lv s.pk c.words s.W=Y (.inr (c.mode,Zb,Zb))from by
  simp only[iy,hm]
  rfl) ?_
 rw[bg];refine dv (dZ5 h (by omega) s hi c.mode (bI en) (bI Zb) Zb Zb) ?_;rw[bT6 h1 h2];cases en<;>rfl
end
end
section
open Bool renaming not_true -> aB
section
variable {c:Cx} (h:c.Ok)
def QE (c:Cx)(en:Bool)(s:Dy):Prop:=(c.mode≠2->en=Zb)/\(0<=s.q->c.mode=2->en=Za)
theorem bA5 :QE c Zb (xB c):=⟨λ_=>rfl,λh0 _=>by
 have:(xB c).q= -1:=by unfold xB;split<;>rfl
 omega⟩
include h
theorem dS5 {i:Nat}{en:Bool}{s:Dy}(w:bv c i s)(Q:QE c en s){a:Int×Int}(e:uI c en s=Y a)(m:ab2 c a s):QE c en (xp c a s):=by
 refine⟨Q.1,λh0 h2=> ?_⟩;by_cases hq:0<=s.q
 .exact Q.2 hq h2
 have h3: ¬c.mode=3:=by omega
 unfold uI at e;unfold ab2 at m;unfold xp at h0;unfold bv at w;rw[zF h3]at e m h0 w;rw[zE h2]at e;obtain⟨m',m⟩:=m;have f:=(bJ4 h h3 w.inv m).2;have fq:(doF c a.1 a.2 s).2.q=m'.q:=congrArg Mc.q f
 have key:a.1=1∨a.1=2∨a.1=4∨en=Za:=by
  unfold vZ at e;simp only at e;rw[zE (show(vH c s).q<0 by show s.q<0;omega)]at e;split at e
  .injection e with e;subst e;exact .inl rfl
  .split at e
   .injection e with e;subst e;exact .inr (.inr (.inl rfl))
   .split at e
    .injection e with e;subst e;exact .inr (.inl rfl)
    .split at e
     .rename_i he;exact .inr (.inr (.inr he))
     .cases e
 have same:a.1=1∨a.1=2∨a.1=4->m'.q=s.q:=λk=>by
  unfold mac at m;rcases k with k|k|k
  all_goals
   rw[k]at m;simp only[Int.reduceEq,if_false,if_true]at m;split at m
   .injection m with m;subst m;rfl
   .cases m
 rcases key with k|k|k|k
 .have:=same (.inl k);omega
 .have:=same (.inr (.inl k));omega
 .have:=same (.inr (.inr k));omega
 .exact k
theorem cL0 (s:Dy)(g:Int)(en fa:Bool):re g en fa c.fixed c.tp c.sl c.ns c.mode c.R c.Q c.len c.words s.L s.p s.q s.c0 s.c1 s.c2 s.c3 s.z c.X c.T c.l c.k c.P c.tk s.lv s.pk c.words s.W=Y (match nxB s with|some a=>(a.1,Za)|none=>(0,Zb)):=by
 unfold re;refine dv (cM7 s g en fa) ?_;rw[show nu g en fa c.fixed c.tp c.sl c.ns c.mode c.R c.Q c.len c.words s.L s.p s.q s.c0 s.c1 s.c2 s.c3 s.z c.X c.T c.l c.k c.P c.tk s.lv s.pk c.words s.W=Y s.L from rfl];unfold nxB;by_cases c1:s.q<0
 .by_cases c2:s.p<s.L
  .simp only[zG,zB c1,zC,zB c2,zE c1,zE c2]
  .simp only[zG,zB c1,zC,zA c2,zE c1,zF c2,zD]
 .by_cases c2:0<s.q
  .simp only[zG,zA c1,zC,zB c2,zF c1,zE c2,zD]
  .simp only[zG,zA c1,zC,zA c2,zF c1,zF c2,zD]
omit h in
theorem dq3 {s:Dy}{a:Int×Int}(e:nxB s=Y a):a.2=0:=by
 unfold nxB at e;split at e
 .split at e<;>(injection e with e;subst e;rfl)
 .split at e
  .injection e with e;subst e;rfl
  .cases e
omit h in
theorem dq4 (hm:c.mode=3)(en:Bool)(s:Dy):uI c en s=nxB s:=by unfold uI;rw[zE hm]
theorem eb1 (hm:c.mode=3){i:Nat}(hib:i<=1000000){en:Bool}{s:Dy}(w:bv c i s){a:Int×Int}(e:uI c en s=Y a)(m:ab2 c a s):
  ei c.mode en Zb c.fixed c.tp c.sl c.ns c.mode c.R c.Q c.len c.words s.L s.p s.q s.c0 s.c1 s.c2 s.c3 s.z c.X c.T c.l c.k c.P c.tk s.lv s.pk c.words s.W=Y (a.1,Za,0,c.fixed,c.tp,c.sl,c.ns,c.mode,c.R,c.Q,c.len,c.words,(xp c a s).L,(xp c a s).p,(xp c a s).q,(xp c a s).c0,(xp c a s).c1,(xp c a s).c2,(xp c a s).c3,(xp c a s).z,(xp c a s).lv,(xp c a s).pk,c.words,(xp c a s).W):=by
 have wi:=w;unfold bv at wi;rw[zE hm]at wi;rw[dq4 hm]at e;have ha:=dq3 e;unfold ab2 at m;rw[zE hm,ha]at m;have ed:xp c a s=(plF c a.1 0 s).2:=by unfold xp;rw[zE hm,ha]
 unfold ei;rw[zD];refine dv (cL0 h s c.mode en Zb) ?_;rw[e];show cond (!Za) _ _=_;rw[aB,zD];refine dv (do1 h hm wi.inv wi.cnt (by omega)) ?_;show cond (Zc ((plF c a.1 0 s).1≠0)) _ _=_;rw[m,ed];rfl
theorem en7 (hm:c.mode=3){i:Nat}{en:Bool}{s:Dy}(w:bv c i s)(e:uI c en s=Z):
  ei c.mode en Zb c.fixed c.tp c.sl c.ns c.mode c.R c.Q c.len c.words s.L s.p s.q s.c0 s.c1 s.c2 s.c3 s.z c.X c.T c.l c.k c.P c.tk s.lv s.pk c.words s.W=Y (0,Zb,0,c.fixed,c.tp,c.sl,c.ns,c.mode,c.R,c.Q,c.len,c.words,s.L,s.p,s.q,s.c0,s.c1,s.c2,s.c3,s.z,s.lv,s.pk,c.words,s.W):=by
 have wi:=w;unfold bv at wi;rw[zE hm]at wi;rw[dq4 hm]at e;unfold ei;rw[zD];refine dv (cL0 h s c.mode en Zb) ?_;rw[e];rfl
theorem ea8 (hm:c.mode=3){i:Nat}{en:Bool}{s:Dy}(w:bv c i s):
  kv c.mode en Zb c.fixed c.tp c.sl c.ns c.mode c.R c.Q c.len c.words s.L s.p s.q s.c0 s.c1 s.c2 s.c3 s.z c.X c.T c.l c.k c.P c.tk s.lv s.pk c.words s.W=Y (uI c en s).isNone:=by
 have wi:=w;unfold bv at wi;rw[zE hm]at wi;rw[dq4 hm];unfold kv;rw[zD];refine dv (cL0 h s c.mode en Zb) ?_;cases nxB s<;>rfl
theorem eo1 (hm:c.mode=3){i:Nat}{en:Bool}{s:Dy}(w:bv c i s):
  iu c.mode en Zb c.fixed c.tp c.sl c.ns c.mode c.R c.Q c.len c.words s.L s.p s.q s.c0 s.c1 s.c2 s.c3 s.z c.X c.T c.l c.k c.P c.tk s.lv s.pk c.words s.W=Y ((uI c en s).isNone&&(Zc (c.mode=2)&& !en)):=by
 unfold iu;refine dv (ea8 h hm w) ?_;cases(uI c en s).isNone<;>cases Zc (c.mode=2)<;>cases en<;>rfl
theorem dP4 (hm:c.mode=3){i:Nat}{en:Bool}{s:Dy}(w:bv c i s):
  jc c.mode en Zb c.fixed c.tp c.sl c.ns c.mode c.R c.Q c.len c.words s.L s.p s.q s.c0 s.c1 s.c2 s.c3 s.z c.X c.T c.l c.k c.P c.tk s.lv s.pk c.words s.W=Y ((uI c en s).isNone&&Zc (s.q=0)):=by
 have wi:=w;unfold bv at wi;rw[zE hm]at wi;unfold jc;refine dv (ea8 h hm w) ?_;cases(uI c en s).isNone with
 |false=>rfl
 |true=>
  rw[zC];refine dv (cM7 s c.mode en Zb) ?_;rfl
omit h in
theorem dR7 (hm:c.mode=1)(en:Bool)(s:Dy):uI c en s=aD2 (vH c s):=by unfold uI;rw[zF (by omega),zF (by omega)]
theorem eb2 (hm:c.mode=1)(hn:1<=c.ns){i:Nat}(hib:i<=1000000){en:Bool}{s:Dy}(w:bv c i s){a:Int×Int}(e:uI c en s=Y a)(m:ab2 c a s):
  df c.mode en Zb c.fixed c.tp c.sl c.ns c.mode c.R c.Q c.len c.words s.L s.p s.q s.c0 s.c1 s.c2 s.c3 s.z c.X c.T c.l c.k c.P c.tk (c.off 8:Int) c.ns (c.X.length:Int) s.lv s.pk c.words s.W=Y (a.1,a.2,Za,0,c.fixed,c.tp,c.sl,c.ns,c.mode,c.R,c.Q,c.len,c.words,(xp c a s).L,(xp c a s).p,(xp c a s).q,(xp c a s).c0,(xp c a s).c1,(xp c a s).c2,(xp c a s).c3,(xp c a s).z,(xp c a s).lv,(xp c a s).pk,c.words,(xp c a s).W):=by
 have wi:=w;unfold bv at wi;rw[zF (by omega)]at wi;rw[dR7 hm]at e;unfold ab2 at m;rw[zF (by omega)]at m;obtain⟨m',m⟩:=m;have f1:=(bJ4 h (by omega) wi.inv m).1;have ed:xp c a s=(doF c a.1 a.2 s).2:=by unfold xp;rw[zF (by omega)]
 unfold df;rw[zD];refine dv (cO6 h (by omega) hn wi.inv c.mode en Zb) ?_;rw[e];show cond (!Za) _ _=_;rw[aB,zD];refine dv (do2 h (by omega) wi.inv wi.cnt (by omega)) ?_;show cond (Zc ((doF c a.1 a.2 s).1≠0)) _ _=_;rw[f1,ed];rfl
theorem en8 (hm:c.mode=1)(hn:1<=c.ns){i:Nat}{en:Bool}{s:Dy}(w:bv c i s)(e:uI c en s=Z):
  df c.mode en Zb c.fixed c.tp c.sl c.ns c.mode c.R c.Q c.len c.words s.L s.p s.q s.c0 s.c1 s.c2 s.c3 s.z c.X c.T c.l c.k c.P c.tk (c.off 8:Int) c.ns (c.X.length:Int) s.lv s.pk c.words s.W=Y (0,0,Zb,0,c.fixed,c.tp,c.sl,c.ns,c.mode,c.R,c.Q,c.len,c.words,s.L,s.p,s.q,s.c0,s.c1,s.c2,s.c3,s.z,s.lv,s.pk,c.words,s.W):=by
 have wi:=w;unfold bv at wi;rw[zF (by omega)]at wi;rw[dR7 hm]at e;unfold df;rw[zD];refine dv (cO6 h (by omega) hn wi.inv c.mode en Zb) ?_;rw[e];rfl
theorem ea9 (hm:c.mode=1)(hn:1<=c.ns){i:Nat}{en:Bool}{s:Dy}(w:bv c i s):
  jd c.mode en Zb c.fixed c.tp c.sl c.ns c.mode c.R c.Q c.len c.words s.L s.p s.q s.c0 s.c1 s.c2 s.c3 s.z c.X c.T c.l c.k c.P c.tk (c.off 8:Int) c.ns (c.X.length:Int) s.lv s.pk c.words s.W=Y (uI c en s).isNone:=by
 have wi:=w;unfold bv at wi;rw[zF (by omega)]at wi;rw[dR7 hm];unfold jd;rw[zD];refine dv (cO6 h (by omega) hn wi.inv c.mode en Zb) ?_;cases aD2 (vH c s)<;>rfl
theorem eo2 (hm:c.mode=1)(hn:1<=c.ns){i:Nat}{en:Bool}{s:Dy}(w:bv c i s):
  gk c.mode en Zb c.fixed c.tp c.sl c.ns c.mode c.R c.Q c.len c.words s.L s.p s.q s.c0 s.c1 s.c2 s.c3 s.z c.X c.T c.l c.k c.P c.tk (c.off 8:Int) c.ns (c.X.length:Int) s.lv s.pk c.words s.W=Y ((uI c en s).isNone&&(Zc (c.mode=2)&& !en)):=by
 unfold gk;refine dv (ea9 h hm hn w) ?_;cases(uI c en s).isNone<;>cases Zc (c.mode=2)<;>cases en<;>rfl
theorem dP5 (hm:c.mode=1)(hn:1<=c.ns){i:Nat}{en:Bool}{s:Dy}(w:bv c i s):
  ib c.mode en Zb c.fixed c.tp c.sl c.ns c.mode c.R c.Q c.len c.words s.L s.p s.q s.c0 s.c1 s.c2 s.c3 s.z c.X c.T c.l c.k c.P c.tk (c.off 8:Int) c.ns (c.X.length:Int) s.lv s.pk c.words s.W=Y ((uI c en s).isNone&&Zc (s.q=0)):=by
 have wi:=w;unfold bv at wi;rw[zF (by omega)]at wi;unfold ib;refine dv (ea9 h hm hn w) ?_;cases(uI c en s).isNone with
 |false=>rfl
 |true=>
  rw[zC];refine dv (dm2 h (by omega) s wi.inv c.mode en Zb) ?_;rfl
omit h in
theorem dR8 (hm:c.mode=2)(en:Bool)(s:Dy):uI c en s=vZ en (vH c s):=by unfold uI;rw[zF (by omega),zE hm]
theorem eb3 (hm:c.mode=2)(hn:1<=c.ns){i:Nat}(hib:i<=1000000){en:Bool}{s:Dy}(w:bv c i s){a:Int×Int}(e:uI c en s=Y a)(m:ab2 c a s):
  dg c.mode en Zb c.fixed c.tp c.sl c.ns c.mode c.R c.Q c.len c.words s.L s.p s.q s.c0 s.c1 s.c2 s.c3 s.z c.X c.T c.l c.k c.P c.tk (c.off 8:Int) c.ns (c.X.length:Int) s.lv s.pk c.words s.W=Y (a.1,a.2,Za,0,c.fixed,c.tp,c.sl,c.ns,c.mode,c.R,c.Q,c.len,c.words,(xp c a s).L,(xp c a s).p,(xp c a s).q,(xp c a s).c0,(xp c a s).c1,(xp c a s).c2,(xp c a s).c3,(xp c a s).z,(xp c a s).lv,(xp c a s).pk,c.words,(xp c a s).W):=by
 have wi:=w;unfold bv at wi;rw[zF (by omega)]at wi;rw[dR8 hm]at e;unfold ab2 at m;rw[zF (by omega)]at m;obtain⟨m',m⟩:=m;have f1:=(bJ4 h (by omega) wi.inv m).1;have ed:xp c a s=(doF c a.1 a.2 s).2:=by unfold xp;rw[zF (by omega)]
 unfold dg;rw[zD];refine dv (dr2 h (by omega) hn wi.inv c.mode en Zb) ?_;rw[e];show cond (!Za) _ _=_;rw[aB,zD];refine dv (do2 h (by omega) wi.inv wi.cnt (by omega)) ?_;show cond (Zc ((doF c a.1 a.2 s).1≠0)) _ _=_;rw[f1,ed];rfl
theorem dv2 (hm:c.mode=2)(hn:1<=c.ns){i:Nat}{en:Bool}{s:Dy}(w:bv c i s)(e:uI c en s=Z):
  dg c.mode en Zb c.fixed c.tp c.sl c.ns c.mode c.R c.Q c.len c.words s.L s.p s.q s.c0 s.c1 s.c2 s.c3 s.z c.X c.T c.l c.k c.P c.tk (c.off 8:Int) c.ns (c.X.length:Int) s.lv s.pk c.words s.W=Y (0,0,Zb,0,c.fixed,c.tp,c.sl,c.ns,c.mode,c.R,c.Q,c.len,c.words,s.L,s.p,s.q,s.c0,s.c1,s.c2,s.c3,s.z,s.lv,s.pk,c.words,s.W):=by
 have wi:=w;unfold bv at wi;rw[zF (by omega)]at wi;rw[dR8 hm]at e;unfold dg;rw[zD];refine dv (dr2 h (by omega) hn wi.inv c.mode en Zb) ?_;rw[e];rfl
theorem eb0 (hm:c.mode=2)(hn:1<=c.ns){i:Nat}{en:Bool}{s:Dy}(w:bv c i s):
  je c.mode en Zb c.fixed c.tp c.sl c.ns c.mode c.R c.Q c.len c.words s.L s.p s.q s.c0 s.c1 s.c2 s.c3 s.z c.X c.T c.l c.k c.P c.tk (c.off 8:Int) c.ns (c.X.length:Int) s.lv s.pk c.words s.W=Y (uI c en s).isNone:=by
 have wi:=w;unfold bv at wi;rw[zF (by omega)]at wi;rw[dR8 hm];unfold je;rw[zD];refine dv (dr2 h (by omega) hn wi.inv c.mode en Zb) ?_;cases vZ en (vH c s)<;>rfl
theorem cR7 (hm:c.mode=2)(hn:1<=c.ns){i:Nat}{en:Bool}{s:Dy}(w:bv c i s):
  gl c.mode en Zb c.fixed c.tp c.sl c.ns c.mode c.R c.Q c.len c.words s.L s.p s.q s.c0 s.c1 s.c2 s.c3 s.z c.X c.T c.l c.k c.P c.tk (c.off 8:Int) c.ns (c.X.length:Int) s.lv s.pk c.words s.W=Y ((uI c en s).isNone&&(Zc (c.mode=2)&& !en)):=by
 unfold gl;refine dv (eb0 h hm hn w) ?_;cases(uI c en s).isNone<;>cases Zc (c.mode=2)<;>cases en<;>rfl
theorem dl9 (hm:c.mode=2)(hn:1<=c.ns){i:Nat}{en:Bool}{s:Dy}(w:bv c i s):
  ic c.mode en Zb c.fixed c.tp c.sl c.ns c.mode c.R c.Q c.len c.words s.L s.p s.q s.c0 s.c1 s.c2 s.c3 s.z c.X c.T c.l c.k c.P c.tk (c.off 8:Int) c.ns (c.X.length:Int) s.lv s.pk c.words s.W=Y ((uI c en s).isNone&&Zc (s.q=0)):=by
 have wi:=w;unfold bv at wi;rw[zF (by omega)]at wi;unfold ic;refine dv (eb0 h hm hn w) ?_;cases(uI c en s).isNone with
 |false=>rfl
 |true=>
  rw[zC];refine dv (dm3 h (by omega) s wi.inv c.mode en Zb) ?_;rfl
theorem fdm {i:Nat}(hm:c.mode=2)(hn:1<=c.ns){s:Dy}(w:bv c i s)(e:uI c Zb s=Z)(hq:s.q= -1)(hL:s.L<65535):
  fc Za c.mode Zb Zb c.fixed c.tp c.sl c.ns c.mode c.R c.Q c.len c.words s.L s.p s.q s.c0 s.c1 s.c2 s.c3 s.z c.X c.T c.l c.k c.P c.tk (c.off 8:Int) c.ns (c.X.length:Int) s.lv s.pk c.words s.W=Y (0,c.mode,Zb,Zb,c.fixed,c.tp,c.sl,c.ns,c.mode,c.R,c.Q,c.len,c.words,(bi8 s).L,(bi8 s).p,(bi8 s).q,(bi8 s).c0,(bi8 s).c1,(bi8 s).c2,(bi8 s).c3,(bi8 s).z):=by
 have wi:=w;unfold bv at wi;rw[zF (by omega)]at wi
 have hm1:ah1 c s=(0,bi8 s):=by
  unfold ah1;rw[zF (by omega),zF (by omega),zF (by omega)];rfl
 unfold fc;rw[zD];refine dv (cR7 h hm hn w) ?_;rw[e,zB hm];show cond (!Za) _ _=_;rw[aB,zD,zD];refine dv (dZ6 wi.inv.L) ?_;rw[hm1];rfl
theorem fds {i:Nat}(hm:c.mode=2)(hn:1<=c.ns){s:Dy}(w:bv c i s)(e:uI c Zb s=Z):
  fc Zb c.mode Zb Zb c.fixed c.tp c.sl c.ns c.mode c.R c.Q c.len c.words s.L s.p s.q s.c0 s.c1 s.c2 s.c3 s.z c.X c.T c.l c.k c.P c.tk (c.off 8:Int) c.ns (c.X.length:Int) s.lv s.pk c.words s.W=Y (0,c.mode,Za,Zb,c.fixed,c.tp,c.sl,c.ns,c.mode,c.R,c.Q,c.len,c.words,s.L,s.p,s.q,s.c0,s.c1,s.c2,s.c3,s.z):=by
 unfold fc;rw[zD];refine dv (cR7 h hm hn w) ?_;rw[e,zB hm];rfl
end
end
section
open Bool renaming not_false -> aB, not_true -> bB, and_false -> cB
open Int renaming tmod -> bD
open List renaming length_cons -> aD
open Option renaming isNone -> cD
theorem ak5 {α γ:Type}{c:Cx}(h:c.Ok){l:Nat}{f:α->Option (α⊕γ)}{st:Nat->Nat->Bool->Dy->List (Int×Int)->α}
  (ha: ∀(i fed:Nat) (en:Bool) (s:Dy) (got:List (Int×Int)) (a:Int×Int),i<20000->got.length<=100000->bv c i s->QE c en s->uI c en s=Y a->ab2 c a s->f (st i fed en s got)=Y (.inl (st (i+1) fed en (xp c a s) (got++[a]))))
  (hm: ∀(i fed:Nat) (s:Dy) (got:List (Int×Int)),i<20000->bv c i s->c.mode=2->uI c Zb s=Z->s.q= -1->s.L<65535->fed<l->f (st i fed Zb s got)=Y (.inl (st (i+1) (fed+1) Zb (bi8 s) got)))
  (hs: ∀(i fed:Nat) (s:Dy) (got:List (Int×Int)),i<20000->bv c i s->c.mode=2->uI c Zb s=Z->s.q= -1->fed=l->f (st i fed Zb s got)=Y (.inl (st (i+1) (fed+1) Za s got)))
  {fed:Nat} {en:Bool} {s:Dy} {es:List Ev} {f':Nat} {en':Bool} {s':Dy} (H:Way c l fed en s es f' en' s'): ∀(i:Nat) (got:List (Int×Int)),bv c i s->QE c en s->i+es.length<=20000->got.length+es.length<=100000->
   Reach f es.length (st i fed en s got) (st (i+es.length) f' en' s' (got++sR es))/\QE c en' s':=by
 induction H with
 |nil=>
  intro i got w q _ _;refine⟨?_,q⟩;rw[show sR []=([]:List (Int×Int))from rfl,List.append_nil];exact Reach.refl
 | @act fed en s a es f' en' s' e m _ ih=>
  intro i got w q h1 h2;rw[aD]at h1 h2;obtain⟨r,q'⟩:=ih (i+1) (got++[a]) (ak6 h w e m) (dS5 h w q e m) (by omega) (by rw[List.length_append,List.length_singleton];omega);refine⟨?_,q'⟩;have:=(Reach.one (ha i fed en s got a (by omega) (by omega) w q e m)).trans r;rw[List.append_assoc]at this;rw[aD,show es.length+1=1+es.length by omega,show i+(1+es.length)=i+1+es.length by omega];exact this
 | @more fed s es f' en' s' a b d e g _ ih=>
  intro i got w q h1 h2;rw[aD]at h1 h2;obtain⟨r,q'⟩:=ih (i+1) got (bo3 h w a d e) ⟨q.1,λh0 _=>by have h0:0<=s.q:=h0;omega⟩ (by omega) (by omega);refine⟨?_,q'⟩;have:=(Reach.one (hm i fed s got (by omega) w a b d e g)).trans r;rw[aD,show es.length+1=1+es.length by omega,show i+(1+es.length)=i+1+es.length by omega];exact this
 | @stop fed s es f' en' s' a b d e _ ih=>
  intro i got w q h1 h2;rw[aD]at h1 h2;obtain⟨r,q'⟩:=ih (i+1) got (cI1 h (Nat.le_succ i) w) ⟨λk=>(k a).elim,λ_ _=>rfl⟩ (by omega) (by omega);refine⟨?_,q'⟩;have:=(Reach.one (hs i fed s got (by omega) w a b d e)).trans r;rw[aD,show es.length+1=1+es.length by omega,show i+(1+es.length)=i+1+es.length by omega];exact this
section
variable {c:Cx} (h:c.Ok)
def stR (c:Cx)(i fed:Nat)(en:Bool)(s:Dy)(got:List (Int×Int)):=((i:Int),(fed:Int),c.mode,en,Zb,c.fixed,c.tp,c.sl,c.ns,c.mode,c.R,c.Q,c.len,c.words,s.L,s.p,s.q,s.c0,s.c1,s.c2,s.c3,s.z,s.lv,s.pk,c.words,s.W,got)
def df5 (c:Cx)(i fed:Nat)(en:Bool)(s:Dy)(got:List (Int×Int)):=((i:Int),(fed:Int),c.mode,en,Zb,got,c.fixed,c.tp,c.sl,c.ns,c.mode,c.R,c.Q,c.len,c.words,s.L,s.p,s.q,s.c0,s.c1,s.c2,s.c3,s.z,c.X,c.T,c.l,c.k,c.P,c.tk,s.lv,s.pk,c.words,s.W)
def aU1 (c:Cx)(i fed:Nat)(en:Bool)(s:Dy)(got:List (Int×Int)):=((i:Int),(fed:Int),c.mode,en,Zb,got,c.fixed,c.tp,c.sl,c.ns,c.mode,c.R,c.Q,c.len,c.words,s.L,s.p,s.q,s.c0,s.c1,s.c2,s.c3,s.z,c.X,c.T,c.l,c.k,c.P,c.tk,(c.off 8:Int),c.ns,(c.X.length:Int),s.lv,s.pk,c.words,s.W)
include h
theorem av1 {i:Nat}{s:Dy}(w:bv c i s):Wd c s.W/\s.W.length<=1048576:=by
 have key:Wd c s.W:=by
  unfold bv at w;split at w
  .exact w.inv.w
  .exact w.inv.w
 exact⟨key,(key.tk h).2⟩
theorem ds5 (hm:c.mode=3){l:Nat}(i fed:Nat)(en:Bool)(s:Dy)(got:List (Int×Int))(a:Int×Int)(hi:i<20000)(hg:got.length<=100000)(w:bv c i s)(q:QE c en s)(e:uI c en s=Y a)(m:ab2 c a s):
  vB (l:Int) c.X c.T c.l c.k c.P c.tk (stR c i fed en s got)=Y (.inl (stR c (i+1) fed en (xp c a s) (got++[a]))):=by
 have ha:a=(a.1,0):=by
  have e':=e;rw[dq4 hm]at e';have:=dq3 e';exact Prod.ext rfl this
 unfold stR;simp only[vB];rw[zB (show(i:Int)<20000 by omega),zC];refine dv (eb1 h hm (by omega) w e m) ?_;show cond (Zc ((0:Int)≠0)) _ _=_;rw[zA (by simp),zD,zC,ck (by omega) (by omega),ad (by omega)];rw[ha];rfl
theorem ds8 (hm:c.mode=3){l:Nat}(i fed:Nat)(en:Bool)(s:Dy)(got:List (Int×Int))(hi:i<20000)(w:bv c i s)(e:uI c en s=Z)(hq:s.q=0)(he:c.mode=2->en=Za):
  vB (l:Int) c.X c.T c.l c.k c.P c.tk (stR c i fed en s got)=Y (.inr (.inr (.inl (Za,c.mode,en,Zb,c.fixed,c.tp,c.sl,c.ns,c.mode,c.R,c.Q,c.len,c.words,s.L,s.p,s.q,s.c0,s.c1,s.c2,s.c3,s.z,s.lv,s.pk,c.words,s.W,got)))):=by
 unfold stR;simp only[vB];rw[zB (show(i:Int)<20000 by omega),zC];refine dv (en7 h hm w e) ?_;show cond (Zc ((0:Int)≠0)) _ _=_;rw[zA (by simp),zD,zD];refine dv (eo1 h hm w) ?_
 rw[e,show(cD (Z:Option (Int×Int))&&(Zc (c.mode=2)&& !en))=Zb from by
  by_cases h2:c.mode=2
  .rw[he h2,bB,cB];rfl
  .rw[zA h2];rfl,aB,zC]
 refine dv (dP4 h hm w) ?_;rw[e,zB hq];rfl
theorem dk8 (hm:c.mode=3)(e0:ke c.mode c.X.length c.T.length c.R c.l c.Q c.k c.len c.words=(c.fixed,c.tp,c.sl,c.ns,0)){l:Nat}{x:Int}{want:List (Int×Int)}(i fed:Nat)(en:Bool)(s:Dy)(got:List (Int×Int))(a:Int×Int)(hi:i<20000)(hg:got.length<=100000)(w:bv c i s)(q:QE c en s)(e:uI c en s=Y a)(m:ab2 c a s):
  qx c.mode c.X c.T c.R c.l c.Q c.k c.len c.words x (l:Int) want (df5 c i fed en s got)=Y (.inl (df5 c (i+1) fed en (xp c a s) (got++[a]))):=by
 have ha:a=(a.1,0):=by
  have e':=e;rw[dq4 hm]at e';have:=dq3 e';exact Prod.ext rfl this
 have he:en=Zb:=q.1 (by omega);subst he;obtain⟨hW,hl⟩:=av1 h w;have wi:=w;unfold bv at wi;rw[zE hm]at wi;unfold df5;simp only[qx];rw[zB (show(i:Int)<20000 by omega),zC];refine dv (dP4 h hm w) ?_;rw[e];show cond (!Zb) _ _=_;rw[aB,zC];refine dv (a:= .inr (c.mode,Zb,Zb,c.fixed,c.tp,c.sl,c.ns,c.mode,c.R,c.Q,c.len,c.words,s.L,s.p,s.q,s.c0,s.c1,s.c2,s.c3,s.z,c.X,c.T,c.l,c.k,c.P,c.tk,s.lv,s.pk,c.words,s.W)) ?_ ?_
 .by_cases hc:(((got.length:Nat):Int))=(bD (IntKind.i64.wrap x) (((want.length:Nat):Int)))
  .rw[zB hc,zC];refine dv (dY8 h hW hl c.mode Zb Zb) ?_;refine dv (dg1 h hm e0 wi.inv wi.cnt (by omega) hl) ?_;rfl
  .rw[zA hc,zD]
 rw[bg];refine dv (eb1 h hm (by omega) w e m) ?_;show cond (Zc ((0:Int)≠0)) _ _=_;rw[zA (by simp),zD,zC,ck (by omega) (by omega),ad (by omega)];rw[ha];rfl
theorem dl1 (hm:c.mode=3){l:Nat}{x:Int}{want:List (Int×Int)}(i fed:Nat)(en:Bool)(s:Dy)(got:List (Int×Int))(hi:i<20000)(w:bv c i s)(e:uI c en s=Z)(hq:s.q=0):
  qx c.mode c.X c.T c.R c.l c.Q c.k c.len c.words x (l:Int) want (df5 c i fed en s got)=Y (.inr (.inr (c.mode,en,Zb,got,c.fixed,c.tp,c.sl,c.ns,c.mode,c.R,c.Q,c.len,c.words,s.L,s.p,s.q,s.c0,s.c1,s.c2,s.c3,s.z,c.X,c.T,c.l,c.k,c.P,c.tk,s.lv,s.pk,c.words,s.W))):=by
 unfold df5;simp only[qx];rw[zB (show(i:Int)<20000 by omega),zC];refine dv (dP4 h hm w) ?_;rw[e,zB hq];rfl
theorem ds6 (hm:c.mode=1)(hn:1<=c.ns){l:Nat}(i fed:Nat)(en:Bool)(s:Dy)(got:List (Int×Int))(a:Int×Int)(hi:i<20000)(hg:got.length<=100000)(w:bv c i s)(q:QE c en s)(e:uI c en s=Y a)(m:ab2 c a s):
  vC (l:Int) c.X c.T c.l c.k c.P c.tk (c.off 8:Int) c.ns (c.X.length:Int) (stR c i fed en s got)=Y (.inl (stR c (i+1) fed en (xp c a s) (got++[a]))):=by
 unfold stR;simp only[vC];rw[zB (show(i:Int)<20000 by omega),zC];refine dv (eb2 h hm hn (by omega) w e m) ?_;show cond (Zc ((0:Int)≠0)) _ _=_;rw[zA (by simp),zD,zC,ck (by omega) (by omega),ad (by omega)];rfl
theorem ds9 (hm:c.mode=1)(hn:1<=c.ns){l:Nat}(i fed:Nat)(en:Bool)(s:Dy)(got:List (Int×Int))(hi:i<20000)(w:bv c i s)(e:uI c en s=Z)(hq:s.q=0)(he:c.mode=2->en=Za):
  vC (l:Int) c.X c.T c.l c.k c.P c.tk (c.off 8:Int) c.ns (c.X.length:Int) (stR c i fed en s got)=Y (.inr (.inr (.inl (Za,c.mode,en,Zb,c.fixed,c.tp,c.sl,c.ns,c.mode,c.R,c.Q,c.len,c.words,s.L,s.p,s.q,s.c0,s.c1,s.c2,s.c3,s.z,s.lv,s.pk,c.words,s.W,got)))):=by
 unfold stR;simp only[vC];rw[zB (show(i:Int)<20000 by omega),zC];refine dv (en8 h hm hn w e) ?_;show cond (Zc ((0:Int)≠0)) _ _=_;rw[zA (by simp),zD,zD];refine dv (eo2 h hm hn w) ?_
 rw[e,show(cD (Z:Option (Int×Int))&&(Zc (c.mode=2)&& !en))=Zb from by
  by_cases h2:c.mode=2
  .rw[he h2,bB,cB];rfl
  .rw[zA h2];rfl,aB,zC]
 refine dv (dP5 h hm hn w) ?_;rw[e,zB hq];rfl
theorem dk9 (hm:c.mode=1)(hn:1<=c.ns)(e0:ke c.mode c.X.length c.T.length c.R c.l c.Q c.k c.len c.words=(c.fixed,c.tp,c.sl,c.ns,0)){l:Nat}{x:Int}{want:List (Int×Int)}(i fed:Nat)(en:Bool)(s:Dy)(got:List (Int×Int))(a:Int×Int)(hi:i<20000)(hg:got.length<=100000)(w:bv c i s)(q:QE c en s)(e:uI c en s=Y a)(m:ab2 c a s):
  qy c.mode c.X c.T c.R c.l c.Q c.k c.len c.words x (l:Int) want (aU1 c i fed en s got)=Y (.inl (aU1 c (i+1) fed en (xp c a s) (got++[a]))):=by
 obtain⟨hW,hl⟩:=av1 h w;have wi:=w;unfold bv at wi;rw[zF (by omega)]at wi;unfold aU1;simp only[qy];rw[zB (show(i:Int)<20000 by omega),zC];refine dv (dP5 h hm hn w) ?_;rw[e];show cond (!Zb) _ _=_;rw[aB,zC];refine dv (a:= .inr (c.mode,en,Zb,c.fixed,c.tp,c.sl,c.ns,c.mode,c.R,c.Q,c.len,c.words,s.L,s.p,s.q,s.c0,s.c1,s.c2,s.c3,s.z,c.X,c.T,c.l,c.k,c.P,c.tk,(c.off 8:Int),c.ns,(c.X.length:Int),s.lv,s.pk,c.words,s.W)) ?_ ?_
 .by_cases hc:(((got.length:Nat):Int))=(bD (IntKind.i64.wrap x) (((want.length:Nat):Int)))
  .rw[zB hc,zC];refine dv (dY9 h hW hl c.mode en Zb) ?_;refine dv (dg2 h hm e0 wi.inv wi.len wi.cnt (by omega) hl q.1 q.2) ?_;rfl
  .rw[zA hc,zD]
 rw[bg];refine dv (eb2 h hm hn (by omega) w e m) ?_;show cond (Zc ((0:Int)≠0)) _ _=_;rw[zA (by simp),zD,zC,ck (by omega) (by omega),ad (by omega)];rfl
theorem dl2 (hm:c.mode=1)(hn:1<=c.ns){l:Nat}{x:Int}{want:List (Int×Int)}(i fed:Nat)(en:Bool)(s:Dy)(got:List (Int×Int))(hi:i<20000)(w:bv c i s)(e:uI c en s=Z)(hq:s.q=0):
  qy c.mode c.X c.T c.R c.l c.Q c.k c.len c.words x (l:Int) want (aU1 c i fed en s got)=Y (.inr (.inr (c.mode,en,Zb,got,c.fixed,c.tp,c.sl,c.ns,c.mode,c.R,c.Q,c.len,c.words,s.L,s.p,s.q,s.c0,s.c1,s.c2,s.c3,s.z,c.X,c.T,c.l,c.k,c.P,c.tk,(c.off 8:Int),c.ns,(c.X.length:Int),s.lv,s.pk,c.words,s.W))):=by
 unfold aU1;simp only[qy];rw[zB (show(i:Int)<20000 by omega),zC];refine dv (dP5 h hm hn w) ?_;rw[e,zB hq];rfl
theorem ds7 (hm:c.mode=2)(hn:1<=c.ns){l:Nat}(i fed:Nat)(en:Bool)(s:Dy)(got:List (Int×Int))(a:Int×Int)(hi:i<20000)(hg:got.length<=100000)(w:bv c i s)(q:QE c en s)(e:uI c en s=Y a)(m:ab2 c a s):
  lw (l:Int) c.X c.T c.l c.k c.P c.tk (c.off 8:Int) c.ns (c.X.length:Int) (stR c i fed en s got)=Y (.inl (stR c (i+1) fed en (xp c a s) (got++[a]))):=by
 unfold stR;simp only[lw];rw[zB (show(i:Int)<20000 by omega),zC];refine dv (eb3 h hm hn (by omega) w e m) ?_;show cond (Zc ((0:Int)≠0)) _ _=_;rw[zA (by simp),zD,zC,ck (by omega) (by omega),ad (by omega)];rfl
theorem dt0 (hm:c.mode=2)(hn:1<=c.ns){l:Nat}(i fed:Nat)(en:Bool)(s:Dy)(got:List (Int×Int))(hi:i<20000)(w:bv c i s)(e:uI c en s=Z)(hq:s.q=0)(he:c.mode=2->en=Za):
  lw (l:Int) c.X c.T c.l c.k c.P c.tk (c.off 8:Int) c.ns (c.X.length:Int) (stR c i fed en s got)=Y (.inr (.inr (.inl (Za,c.mode,en,Zb,c.fixed,c.tp,c.sl,c.ns,c.mode,c.R,c.Q,c.len,c.words,s.L,s.p,s.q,s.c0,s.c1,s.c2,s.c3,s.z,s.lv,s.pk,c.words,s.W,got)))):=by
 unfold stR;simp only[lw];rw[zB (show(i:Int)<20000 by omega),zC];refine dv (dv2 h hm hn w e) ?_;show cond (Zc ((0:Int)≠0)) _ _=_;rw[zA (by simp),zD,zD];refine dv (cR7 h hm hn w) ?_
 rw[e,show(cD (Z:Option (Int×Int))&&(Zc (c.mode=2)&& !en))=Zb from by
  by_cases h2:c.mode=2
  .rw[he h2,bB,cB];rfl
  .rw[zA h2];rfl,aB,zC]
 refine dv (dl9 h hm hn w) ?_;rw[e,zB hq];rfl
theorem dl0 (hm:c.mode=2)(hn:1<=c.ns)(e0:ke c.mode c.X.length c.T.length c.R c.l c.Q c.k c.len c.words=(c.fixed,c.tp,c.sl,c.ns,0)){l:Nat}{x:Int}{want:List (Int×Int)}(i fed:Nat)(en:Bool)(s:Dy)(got:List (Int×Int))(a:Int×Int)(hi:i<20000)(hg:got.length<=100000)(w:bv c i s)(q:QE c en s)(e:uI c en s=Y a)(m:ab2 c a s):
  gw c.mode c.X c.T c.R c.l c.Q c.k c.len c.words x (l:Int) want (aU1 c i fed en s got)=Y (.inl (aU1 c (i+1) fed en (xp c a s) (got++[a]))):=by
 obtain⟨hW,hl⟩:=av1 h w;have wi:=w;unfold bv at wi;rw[zF (by omega)]at wi;unfold aU1;simp only[gw];rw[zB (show(i:Int)<20000 by omega),zC];refine dv (dl9 h hm hn w) ?_;rw[e];show cond (!Zb) _ _=_;rw[aB,zC];refine dv (a:= .inr (c.mode,en,Zb,c.fixed,c.tp,c.sl,c.ns,c.mode,c.R,c.Q,c.len,c.words,s.L,s.p,s.q,s.c0,s.c1,s.c2,s.c3,s.z,c.X,c.T,c.l,c.k,c.P,c.tk,(c.off 8:Int),c.ns,(c.X.length:Int),s.lv,s.pk,c.words,s.W)) ?_ ?_
 .by_cases hc:(((got.length:Nat):Int))=(bD (IntKind.i64.wrap x) (((want.length:Nat):Int)))
  .rw[zB hc,zC];refine dv (dm6 h hW hl c.mode en Zb) ?_;refine dv (bB4 h hm e0 wi.inv wi.len wi.cnt (by omega) hl q.1 q.2) ?_;rfl
  .rw[zA hc,zD]
 rw[bg];refine dv (eb3 h hm hn (by omega) w e m) ?_;show cond (Zc ((0:Int)≠0)) _ _=_;rw[zA (by simp),zD,zC,ck (by omega) (by omega),ad (by omega)];rfl
theorem dl3 (hm:c.mode=2)(hn:1<=c.ns){l:Nat}{x:Int}{want:List (Int×Int)}(i fed:Nat)(en:Bool)(s:Dy)(got:List (Int×Int))(hi:i<20000)(w:bv c i s)(e:uI c en s=Z)(hq:s.q=0):
  gw c.mode c.X c.T c.R c.l c.Q c.k c.len c.words x (l:Int) want (aU1 c i fed en s got)=Y (.inr (.inr (c.mode,en,Zb,got,c.fixed,c.tp,c.sl,c.ns,c.mode,c.R,c.Q,c.len,c.words,s.L,s.p,s.q,s.c0,s.c1,s.c2,s.c3,s.z,c.X,c.T,c.l,c.k,c.P,c.tk,(c.off 8:Int),c.ns,(c.X.length:Int),s.lv,s.pk,c.words,s.W))):=by
 unfold aU1;simp only[gw];rw[zB (show(i:Int)<20000 by omega),zC];refine dv (dl9 h hm hn w) ?_;rw[e,zB hq];rfl
theorem dt1 (hm:c.mode=2)(hn:1<=c.ns){l:Nat}(hl:l<=1000)(i fed:Nat)(s:Dy)(got:List (Int×Int))(hi:i<20000)(w:bv c i s)(e:uI c Zb s=Z)(hq:s.q= -1)(hL:s.L<65535)(hf:fed<l):
  lw (l:Int) c.X c.T c.l c.k c.P c.tk (c.off 8:Int) c.ns (c.X.length:Int) (stR c i fed Zb s got)=Y (.inl (stR c (i+1) (fed+1) Zb (bi8 s) got)):=by
 unfold stR;simp only[lw];rw[zB (show(i:Int)<20000 by omega),zC];refine dv (dv2 h hm hn w e) ?_;show cond (Zc ((0:Int)≠0)) _ _=_;rw[zA (by simp),zD,zD];refine dv (cR7 h hm hn w) ?_;rw[e,zB hm];show cond (!Za) _ _=_;rw[bB,zD,ad (n:=(fed:Int)+1) (by omega),zB (show(fed:Int)+1<=(l:Int)by omega)];refine dv (fdm h hm hn w e hq hL) ?_;show cond (Zc ((0:Int)≠0)) _ _=_;rw[zA (by simp),zD,ad (by omega)];rfl
theorem dl4 (hm:c.mode=2)(hn:1<=c.ns)(e0:ke c.mode c.X.length c.T.length c.R c.l c.Q c.k c.len c.words=(c.fixed,c.tp,c.sl,c.ns,0)){l:Nat}(hl1:l<=1000){x:Int}{want:List (Int×Int)}(i fed:Nat)(s:Dy)(got:List (Int×Int))(hi:i<20000)(w:bv c i s)(e:uI c Zb s=Z)(hq:s.q= -1)(hL:s.L<65535)(hf:fed<l):
  gw c.mode c.X c.T c.R c.l c.Q c.k c.len c.words x (l:Int) want (aU1 c i fed Zb s got)=Y (.inl (aU1 c (i+1) (fed+1) Zb (bi8 s) got)):=by
 have q:QE c Zb s:=⟨λ_=>rfl,λh0 _=>by omega⟩;obtain⟨hW,hl⟩:=av1 h w;have wi:=w;unfold bv at wi;rw[zF (by omega)]at wi;unfold aU1;simp only[gw];rw[zB (show(i:Int)<20000 by omega),zC];refine dv (dl9 h hm hn w) ?_;rw[e,zA (show¬s.q=0 by omega)];show cond (!Zb) _ _=_;rw[aB,zC];refine dv (a:= .inr (c.mode,Zb,Zb,c.fixed,c.tp,c.sl,c.ns,c.mode,c.R,c.Q,c.len,c.words,s.L,s.p,s.q,s.c0,s.c1,s.c2,s.c3,s.z,c.X,c.T,c.l,c.k,c.P,c.tk,(c.off 8:Int),c.ns,(c.X.length:Int),s.lv,s.pk,c.words,s.W)) ?_ ?_
 .by_cases hc:(((got.length:Nat):Int))=(bD (IntKind.i64.wrap x) (((want.length:Nat):Int)))
  .rw[zB hc,zC];refine dv (dm6 h hW hl c.mode Zb Zb) ?_;refine dv (bB4 h hm e0 wi.inv wi.len wi.cnt (by omega) hl q.1 q.2) ?_;rfl
  .rw[zA hc,zD]
 rw[bg];refine dv (dv2 h hm hn w e) ?_;show cond (Zc ((0:Int)≠0)) _ _=_;rw[zA (by simp),zD,zD];refine dv (cR7 h hm hn w) ?_;rw[e,zB hm];show cond Za _ _=_;rw[zC,ad (n:=(fed:Int)+1) (by omega),zB (show(fed:Int)+1<=(l:Int)by omega)];refine dv (fdm h hm hn w e hq hL) ?_;show cond (Zc ((0:Int)≠0)) _ _=_;rw[zA (by simp),zD,ad (by omega)];rfl
theorem dt2 (hm:c.mode=2)(hn:1<=c.ns){l:Nat}(hl:l<=1000)(i fed:Nat)(s:Dy)(got:List (Int×Int))(hi:i<20000)(w:bv c i s)(e:uI c Zb s=Z)(hq:s.q= -1)(hf:fed=l):
  lw (l:Int) c.X c.T c.l c.k c.P c.tk (c.off 8:Int) c.ns (c.X.length:Int) (stR c i fed Zb s got)=Y (.inl (stR c (i+1) (fed+1) Za s got)):=by
 unfold stR;simp only[lw];rw[zB (show(i:Int)<20000 by omega),zC];refine dv (dv2 h hm hn w e) ?_;show cond (Zc ((0:Int)≠0)) _ _=_;rw[zA (by simp),zD,zD];refine dv (cR7 h hm hn w) ?_;rw[e,zB hm];show cond (!Za) _ _=_;rw[bB,zD,ad (n:=(fed:Int)+1) (by omega),zA (show¬(fed:Int)+1<=(l:Int)by omega)];refine dv (fds h hm hn w e) ?_;show cond (Zc ((0:Int)≠0)) _ _=_;rw[zA (by simp),zD,ad (by omega)];rfl
theorem dl7 (hm:c.mode=2)(hn:1<=c.ns)(e0:ke c.mode c.X.length c.T.length c.R c.l c.Q c.k c.len c.words=(c.fixed,c.tp,c.sl,c.ns,0)){l:Nat}(hl1:l<=1000){x:Int}{want:List (Int×Int)}(i fed:Nat)(s:Dy)(got:List (Int×Int))(hi:i<20000)(w:bv c i s)(e:uI c Zb s=Z)(hq:s.q= -1)(hf:fed=l):
  gw c.mode c.X c.T c.R c.l c.Q c.k c.len c.words x (l:Int) want (aU1 c i fed Zb s got)=Y (.inl (aU1 c (i+1) (fed+1) Za s got)):=by
 have q:QE c Zb s:=⟨λ_=>rfl,λh0 _=>by omega⟩;obtain⟨hW,hl⟩:=av1 h w;have wi:=w;unfold bv at wi;rw[zF (by omega)]at wi;unfold aU1;simp only[gw];rw[zB (show(i:Int)<20000 by omega),zC];refine dv (dl9 h hm hn w) ?_;rw[e,zA (show¬s.q=0 by omega)];show cond (!Zb) _ _=_;rw[aB,zC];refine dv (a:= .inr (c.mode,Zb,Zb,c.fixed,c.tp,c.sl,c.ns,c.mode,c.R,c.Q,c.len,c.words,s.L,s.p,s.q,s.c0,s.c1,s.c2,s.c3,s.z,c.X,c.T,c.l,c.k,c.P,c.tk,(c.off 8:Int),c.ns,(c.X.length:Int),s.lv,s.pk,c.words,s.W)) ?_ ?_
 .by_cases hc:(((got.length:Nat):Int))=(bD (IntKind.i64.wrap x) (((want.length:Nat):Int)))
  .rw[zB hc,zC];refine dv (dm6 h hW hl c.mode Zb Zb) ?_;refine dv (bB4 h hm e0 wi.inv wi.len wi.cnt (by omega) hl q.1 q.2) ?_;rfl
  .rw[zA hc,zD]
 rw[bg];refine dv (dv2 h hm hn w e) ?_;show cond (Zc ((0:Int)≠0)) _ _=_;rw[zA (by simp),zD,zD];refine dv (cR7 h hm hn w) ?_;rw[e,zB hm];show cond Za _ _=_;rw[zC,ad (n:=(fed:Int)+1) (by omega),zA (show¬(fed:Int)+1<=(l:Int)by omega)];refine dv (fds h hm hn w e) ?_;show cond (Zc ((0:Int)≠0)) _ _=_;rw[zA (by simp),zD,ad (by omega)];rfl
end
end
section
open Bool renaming not_true -> aD, and_self -> cB
open Int renaming toNat_of_nonneg -> dB
open List renaming length_nil -> bB, nil_append -> bD, length_take -> cD
open Nat renaming zero_add -> aB
theorem cY3 :w9=Y Za:=by kernel_rfl
section
variable {c:Cx} (h:c.Ok)
include h
theorem dL0 (hm:c.mode=3)(e:ke c.mode c.X.length c.T.length c.R c.l c.Q c.k c.len c.words=(c.fixed,c.tp,c.sl,c.ns,0)):ig c.mode c.X c.T c.R c.l c.Q c.k c.len c.words=Y (.inr (.inl (c.mode,Zb,Zb,c.fixed,c.tp,c.sl,c.ns,c.mode,c.R,c.Q,c.len,c.words,c.len,c.X,c.T,c.l,c.k,c.P,c.tk,c.fixed,c.fixed,c.words,(new1 c).W))):=by
 unfold ig;refine dv (el2 h hm e) ?_
 refine dv (show sa _ _ _ _ _ _ _ _ _ _ _ _ _ _ _ _ _ _ _ _ _ _ _ _ _ _ _ _ _ _ _ _ _ _ _ _=Y (c.mode,Zb,Zb)from by
  unfold sa;rw[show ix c.mode 4=Y 3 from by rw[hm];rfl]
  rfl) ?_
 rfl
theorem cr0 {l f:Nat}{en:Bool}{s:Dy}{es:List Ev}(F:Fin c l f en s es):(sR es).length<=6000/\1<=(sR es).length:=⟨Nat.le_trans (br0 es) F.len,F.one⟩
theorem dw5 (hm:c.mode=3)(e0:ke c.mode c.X.length c.T.length c.R c.l c.Q c.k c.len c.words=(c.fixed,c.tp,c.sl,c.ns,0)){l:Nat}(hl:l<=40){es:List Ev}{f:Nat}{en:Bool}{s:Dy}(H:Way c l 0 Zb (xB c) es f en s)(F:Fin c l f en s es):
  w8 c.mode c.X c.T c.R c.l c.Q c.k c.len c.words (l:Int)=Y (.inr (.inl (Za,c.mode,en,Zb,sR es,c.fixed,c.tp,c.sl,c.ns,c.mode,c.R,c.Q,c.len,c.words,s.L,s.p,s.q,s.c0,s.c1,s.c2,s.c3,s.z,c.X,c.T,c.l,c.k,c.P,c.tk,s.lv,s.pk,c.words,s.W))):=by
 have w0:=vJ h;have w1:=H.well h w0;have hlen:=F.len;have ee:xB c=new1 c:=by unfold xB;rw[zE hm]
 obtain⟨r,q⟩:=ak5 h (f:=vB (l:Int) c.X c.T c.l c.k c.P c.tk) (st:=stR c) (λi fed en s got a hi hg w q e m=>ds5 h hm i fed en s got a hi hg w q e m) (λi fed s got hi w hm2=>by omega) (λi fed s got hi w hm2=>by omega) H 0 [] w0 bA5 (by omega) (by simp only[bB];omega);rw[aB,bD]at r;rw[aB]at w1;have key:=ak1 r (by omega) (ds8 h hm es.length f en s (sR es) (by omega) w1 F.no F.q F.en);rw[ee]at key;unfold w8;refine dv (dL0 h hm e0) ?_;rw[bg,kn];refine dv key ?_;rfl
theorem dg4 (hm:c.mode=3){s:Dy}(en:Bool){i:Nat}(w:bv c i s)(hq:s.q=0): ∃r,ie c.mode en Zb c.fixed c.tp c.sl c.ns c.mode c.R c.Q c.len c.words s.L s.p s.q s.c0 s.c1 s.c2 s.c3 s.z c.X c.T c.l c.k c.P c.tk s.lv s.pk c.words s.W=Y r/\r.2.1=0/\i4 r.1 r.2.2.1 r.2.2.2 r.1 r.2.2.1 r.2.2.2=Y Za:=by
 obtain⟨hW,hl⟩:=av1 h w;have h5:=kl (c:=c) (show 5<9 by omega);have n:=h.num;refine⟨az4 c s, ?_, ?_, ?_⟩
 .unfold ie;refine dv (dG7 h hW) ?_;rfl
 .unfold az4;rw[zF (by omega)]
 .have x1: ∀(W:Zd) (o n:Nat),(seg W o n).length<=n:=λW o n=>by unfold seg;rw[cD];omega
  have y1:=x1 s.W (c.off 5) c.X.length;have y2:=x1 s.W (c.off 6) c.T.length;have y3:=n.x;have y4:=n.t;unfold az4;rw[zF (by omega)];exact cQ0 (by simp only;omega) (by simp only;omega)
theorem dw1 (hm:c.mode=3)(e0:ke c.mode c.X.length c.T.length c.R c.l c.Q c.k c.len c.words=(c.fixed,c.tp,c.sl,c.ns,0))(hr:mh c.mode c.X c.T c.R c.l c.Q c.k c.len c.words=Y Za){l:Nat}(hl:l<=40){a9 a10:Int}(hst:uR c.mode c.X c.T c.R c.l c.Q c.k c.len c.words a9=Y (l:Int)){es:List Ev}{f:Nat}{en:Bool}{s:Dy}(H:Way c l 0 Zb (xB c) es f en s)(F:Fin c l f en s es):
  lu c.mode c.X c.T c.R c.l c.Q c.k c.len c.words a9 a10=Y Za:=by
 have w0:=vJ h;have w1:=H.well h w0;have hlen:=F.len;obtain⟨g1,g2⟩:=cr0 h F;have ee:xB c=new1 c:=by unfold xB;rw[zE hm]
 have hran:=dw5 h hm e0 hl H F;obtain⟨r,q⟩:=ak5 h (f:=qx c.mode c.X c.T c.R c.l c.Q c.k c.len c.words a10 (l:Int) (sR es)) (st:=df5 c) (λi fed en s got a hi hg w q e m=>dk8 h hm e0 i fed en s got a hi hg w q e m) (λi fed s got hi w hm2=>by omega) (λi fed s got hi w hm2=>by omega) H 0 [] w0 bA5 (by omega) (by simp only[bB];omega);rw[aB,bD]at r;rw[aB]at w1;have key:=ak1 r (by omega) (dl1 h hm es.length f en s (sR es) (by omega) w1 F.no F.q);rw[ee]at key;obtain⟨x,x1,x2,x3⟩:=dg4 h hm en w1 F.q;unfold lu;refine dv hr ?_;rw[aD,zD];refine dv hst ?_;refine dv hran ?_;rw[bg,kn];refine dv (dL0 h hm e0) ?_;rw[bg,kn];show cond (!Za) (Y Zb) (cond (Zc ((((sR es).length:Nat):Int)=0)) (Y Zb) (gd (Zc ((((sR es).length:Nat):Int)≠0)) _))=_;rw[aD,zD,zA (show¬(((sR es).length:Nat):Int)=0 by omega),zD,zB (show(((sR es).length:Nat):Int)≠0 by omega),cm]
 refine dv key ?_;rw[bg];refine dv x1 ?_;refine dv x1 ?_;rw[zB x2,zC,zC];refine dv x3 ?_;rw[zC];refine dv (cQ1 (by omega)) ?_;rw[zC];refine dv (cM4 s c.mode en Zb) ?_;simp only[bv1];refine dv (cM4 s c.mode en Zb) ?_;simp only[bv1,decide_true,cB,zC];exact dv cY3 rfl
theorem dw6 (hm:c.mode=1)(e0:ke c.mode c.X.length c.T.length c.R c.l c.Q c.k c.len c.words=(c.fixed,c.tp,c.sl,c.ns,0)){l:Nat}(hl:l<=40){es:List Ev}{f:Nat}{en:Bool}{s:Dy}(H:Way c l 0 Zb (xB c) es f en s)(F:Fin c l f en s es):
  w8 c.mode c.X c.T c.R c.l c.Q c.k c.len c.words (l:Int)=Y (.inr (.inr (.inl (Za,c.mode,en,Zb,sR es,c.fixed,c.tp,c.sl,c.ns,c.mode,c.R,c.Q,c.len,c.words,s.L,s.p,s.q,s.c0,s.c1,s.c2,s.c3,s.z,c.X,c.T,c.l,c.k,c.P,c.tk,(c.off 8:Int),c.ns,(c.X.length:Int),s.lv,s.pk,c.words,s.W)))):=by
 have hn:=bU0 h (by omega) e0;have w0:=vJ h;have w1:=H.well h w0;have hlen:=F.len;have ee:xB c=new2 c:=by unfold xB;rw[zF (by omega)]
 obtain⟨r,q⟩:=ak5 h (f:=vC (l:Int) c.X c.T c.l c.k c.P c.tk (c.off 8:Int) c.ns (c.X.length:Int)) (st:=stR c) (λi fed en s got a hi hg w q e m=>ds6 h hm hn i fed en s got a hi hg w q e m) (λi fed s got hi w hm2=>by omega) (λi fed s got hi w hm2=>by omega) H 0 [] w0 bA5 (by omega) (by simp only[bB];omega);rw[aB,bD]at r;rw[aB]at w1;have key:=ak1 r (by omega) (ds9 h hm hn es.length f en s (sR es) (by omega) w1 F.no F.q F.en);rw[ee]at key;unfold w8;refine dv (dL1 h hm e0) ?_;rw[bg,bg,kn];refine dv key ?_;rfl
theorem dg5 (hm:c.mode=1){s:Dy}(en:Bool){i:Nat}(w:bv c i s)(hq:s.q=0): ∃r,fj c.mode en Zb c.fixed c.tp c.sl c.ns c.mode c.R c.Q c.len c.words s.L s.p s.q s.c0 s.c1 s.c2 s.c3 s.z c.X c.T c.l c.k c.P c.tk (c.off 8:Int) c.ns (c.X.length:Int) s.lv s.pk c.words s.W=Y r/\r.2.1=0/\i4 r.1 r.2.2.1 r.2.2.2 r.1 r.2.2.1 r.2.2.2=Y Za:=by
 obtain⟨hW,hl⟩:=av1 h w;have h5:=kl (c:=c) (show 5<9 by omega);have n:=h.num;refine⟨az4 c s, ?_, ?_, ?_⟩
 .unfold fj;refine dv (cW9 h hW) ?_;rfl
 .unfold az4;rw[zF (by omega)]
 .have x1: ∀(W:Zd) (o n:Nat),(seg W o n).length<=n:=λW o n=>by unfold seg;rw[cD];omega
  have y1:=x1 s.W (c.off 5) c.X.length;have y2:=x1 s.W (c.off 6) c.T.length;have y3:=n.x;have y4:=n.t;unfold az4;rw[zF (by omega)];exact cQ0 (by simp only;omega) (by simp only;omega)
theorem dw2 (hm:c.mode=1)(e0:ke c.mode c.X.length c.T.length c.R c.l c.Q c.k c.len c.words=(c.fixed,c.tp,c.sl,c.ns,0))(hr:mh c.mode c.X c.T c.R c.l c.Q c.k c.len c.words=Y Za){l:Nat}(hl:l<=40){a9 a10:Int}(hst:uR c.mode c.X c.T c.R c.l c.Q c.k c.len c.words a9=Y (l:Int)){es:List Ev}{f:Nat}{en:Bool}{s:Dy}(H:Way c l 0 Zb (xB c) es f en s)(F:Fin c l f en s es):
  lu c.mode c.X c.T c.R c.l c.Q c.k c.len c.words a9 a10=Y Za:=by
 have hn:=bU0 h (by omega) e0;have w0:=vJ h;have w1:=H.well h w0;have hlen:=F.len;obtain⟨g1,g2⟩:=cr0 h F;have ee:xB c=new2 c:=by unfold xB;rw[zF (by omega)]
 have hran:=dw6 h hm e0 hl H F;obtain⟨r,q⟩:=ak5 h (f:=qy c.mode c.X c.T c.R c.l c.Q c.k c.len c.words a10 (l:Int) (sR es)) (st:=aU1 c) (λi fed en s got a hi hg w q e m=>dk9 h hm hn e0 i fed en s got a hi hg w q e m) (λi fed s got hi w hm2=>by omega) (λi fed s got hi w hm2=>by omega) H 0 [] w0 bA5 (by omega) (by simp only[bB];omega);rw[aB,bD]at r;rw[aB]at w1;have key:=ak1 r (by omega) (dl2 h hm hn es.length f en s (sR es) (by omega) w1 F.no F.q);rw[ee]at key;obtain⟨x,x1,x2,x3⟩:=dg5 h hm en w1 F.q;unfold lu;refine dv hr ?_;rw[aD,zD];refine dv hst ?_;refine dv hran ?_;rw[bg,bg,kn];refine dv (dL1 h hm e0) ?_;rw[bg,bg,kn];show cond (!Za) (Y Zb) (cond (Zc ((((sR es).length:Nat):Int)=0)) (Y Zb) (gd (Zc ((((sR es).length:Nat):Int)≠0)) _))=_;rw[aD,zD,zA (show¬(((sR es).length:Nat):Int)=0 by omega),zD,zB (show(((sR es).length:Nat):Int)≠0 by omega),cm]
 refine dv key ?_;rw[bg];refine dv x1 ?_;refine dv x1 ?_;rw[zB x2,zC,zC];refine dv x3 ?_;rw[zC];refine dv (cQ1 (by omega)) ?_;rw[zC];refine dv (cM5 s c.mode en Zb) ?_;simp only[bv1];refine dv (cM5 s c.mode en Zb) ?_;simp only[bv1,decide_true,cB,zC];exact dv cY3 rfl
theorem dw7 (hm:c.mode=2)(e0:ke c.mode c.X.length c.T.length c.R c.l c.Q c.k c.len c.words=(c.fixed,c.tp,c.sl,c.ns,0)){l:Nat}(hl:l<=40){es:List Ev}{f:Nat}{en:Bool}{s:Dy}(H:Way c l 0 Zb (xB c) es f en s)(F:Fin c l f en s es):
  w8 c.mode c.X c.T c.R c.l c.Q c.k c.len c.words (l:Int)=Y (.inr (.inr (.inr (Za,c.mode,en,Zb,sR es,c.fixed,c.tp,c.sl,c.ns,c.mode,c.R,c.Q,c.len,c.words,s.L,s.p,s.q,s.c0,s.c1,s.c2,s.c3,s.z,c.X,c.T,c.l,c.k,c.P,c.tk,(c.off 8:Int),c.ns,(c.X.length:Int),s.lv,s.pk,c.words,s.W)))):=by
 have hn:=bU0 h (by omega) e0;have w0:=vJ h;have w1:=H.well h w0;have hlen:=F.len;have ee:xB c=new2 c:=by unfold xB;rw[zF (by omega)]
 obtain⟨r,q⟩:=ak5 h (f:=lw (l:Int) c.X c.T c.l c.k c.P c.tk (c.off 8:Int) c.ns (c.X.length:Int)) (st:=stR c) (λi fed en s got a hi hg w q e m=>ds7 h hm hn i fed en s got a hi hg w q e m) (λi fed s got hi w hm2 e hq hL hf=>dt1 h hm hn (by omega) i fed s got hi w e hq hL hf) (λi fed s got hi w hm2 e hq hf=>dt2 h hm hn (by omega) i fed s got hi w e hq hf) H 0 [] w0 bA5 (by omega) (by simp only[bB];omega);rw[aB,bD]at r;rw[aB]at w1;have key:=ak1 r (by omega) (dt0 h hm hn es.length f en s (sR es) (by omega) w1 F.no F.q F.en);rw[ee]at key;unfold w8;refine dv (dL2 h hm e0) ?_;rw[bg,bg,bg];refine dv key ?_;rfl
theorem dg6 (hm:c.mode=2){s:Dy}(en:Bool){i:Nat}(w:bv c i s)(hq:s.q=0): ∃r,fp c.mode en Zb c.fixed c.tp c.sl c.ns c.mode c.R c.Q c.len c.words s.L s.p s.q s.c0 s.c1 s.c2 s.c3 s.z c.X c.T c.l c.k c.P c.tk (c.off 8:Int) c.ns (c.X.length:Int) s.lv s.pk c.words s.W=Y r/\r.2.1=0/\i4 r.1 r.2.2.1 r.2.2.2 r.1 r.2.2.1 r.2.2.2=Y Za:=by
 obtain⟨hW,hl⟩:=av1 h w;have h5:=kl (c:=c) (show 5<9 by omega);have n:=h.num;refine⟨az4 c s, ?_, ?_, ?_⟩
 .unfold fp;refine dv (cW9 h hW) ?_;rfl
 .unfold az4;rw[zF (by omega)]
 .have x1: ∀(W:Zd) (o n:Nat),(seg W o n).length<=n:=λW o n=>by unfold seg;rw[cD];omega
  have y1:=x1 s.W (c.off 5) c.X.length;have y2:=x1 s.W (c.off 6) c.T.length;have y3:=n.x;have y4:=n.t;unfold az4;rw[zF (by omega)];exact cQ0 (by simp only;omega) (by simp only;omega)
theorem dw3 (hm:c.mode=2)(e0:ke c.mode c.X.length c.T.length c.R c.l c.Q c.k c.len c.words=(c.fixed,c.tp,c.sl,c.ns,0))(hr:mh c.mode c.X c.T c.R c.l c.Q c.k c.len c.words=Y Za){l:Nat}(hl:l<=40){a9 a10:Int}(hst:uR c.mode c.X c.T c.R c.l c.Q c.k c.len c.words a9=Y (l:Int)){es:List Ev}{f:Nat}{en:Bool}{s:Dy}(H:Way c l 0 Zb (xB c) es f en s)(F:Fin c l f en s es):
  lu c.mode c.X c.T c.R c.l c.Q c.k c.len c.words a9 a10=Y Za:=by
 have hn:=bU0 h (by omega) e0;have w0:=vJ h;have w1:=H.well h w0;have hlen:=F.len;obtain⟨g1,g2⟩:=cr0 h F;have ee:xB c=new2 c:=by unfold xB;rw[zF (by omega)]
 have hran:=dw7 h hm e0 hl H F;obtain⟨r,q⟩:=ak5 h (f:=gw c.mode c.X c.T c.R c.l c.Q c.k c.len c.words a10 (l:Int) (sR es)) (st:=aU1 c) (λi fed en s got a hi hg w q e m=>dl0 h hm hn e0 i fed en s got a hi hg w q e m) (λi fed s got hi w hm2 e hq hL hf=>dl4 h hm hn e0 (by omega) i fed s got hi w e hq hL hf) (λi fed s got hi w hm2 e hq hf=>dl7 h hm hn e0 (by omega) i fed s got hi w e hq hf) H 0 [] w0 bA5 (by omega) (by simp only[bB];omega);rw[aB,bD]at r;rw[aB]at w1;have key:=ak1 r (by omega) (dl3 h hm hn es.length f en s (sR es) (by omega) w1 F.no F.q);rw[ee]at key;obtain⟨x,x1,x2,x3⟩:=dg6 h hm en w1 F.q;unfold lu;refine dv hr ?_;rw[aD,zD];refine dv hst ?_;refine dv hran ?_;rw[bg,bg,bg];refine dv (dL2 h hm e0) ?_;rw[bg,bg,bg];show cond (!Za) (Y Zb) (cond (Zc ((((sR es).length:Nat):Int)=0)) (Y Zb) (gd (Zc ((((sR es).length:Nat):Int)≠0)) _))=_
 rw[aD,zD,zA (show¬(((sR es).length:Nat):Int)=0 by omega),zD,zB (show(((sR es).length:Nat):Int)≠0 by omega),cm];refine dv key ?_;rw[bg];refine dv x1 ?_;refine dv x1 ?_;rw[zB x2,zC,zC];refine dv x3 ?_;rw[zC];refine dv (cQ1 (by omega)) ?_;rw[zC];refine dv (cM6 s c.mode en Zb) ?_;simp only[bv1];refine dv (cM6 s c.mode en Zb) ?_;simp only[bv1,decide_true,cB,zC];exact dv cY3 rfl
end
theorem dI5 {a0:Int}{a1 a2:Zd}{a3:Int}{a4:List cd}{a5:Int}{a6:List cd}{a7 a8 a9 a10:Int}(h4: ∀o∈a4,okV o)(h6: ∀o∈a6,okV o)(g4:a4.length<=3518437208780)(g6:a6.length<=3518437208780)(h9:0<=a9):lu a0 a1 a2 a3 a4 a5 a6 a7 a8 a9 a10=Y Za:=by
 obtain⟨b,hs,hb⟩:=dH9 (a0:=a0) (a1:=a1) (a2:=a2) (a3:=a3) (a5:=a5) (a7:=a7) (a8:=a8) h4 h6
 have no:mh a0 a1 a2 a3 a4 a5 a6 a7 a8=Y Zb->lu a0 a1 a2 a3 a4 a5 a6 a7 a8 a9 a10=Y Za:=λhr=>by
  unfold lu;refine dv hr ?_;rw[Bool.not_false,zC];exact dv cY3 rfl
 have bad: ∀r,r.2.2.2.2≠0->ou a0 a1 a2 a3 a4 a5 a6 a7 a8=Y r->mh a0 a1 a2 a3 a4 a5 a6 a7 a8=Y Zb:=λr hr e=>by
  unfold mh;refine dv e ?_;refine dv hs ?_;cases b with
  |false=>rfl
  |true=>rw[zC,zA hr]
 by_cases hbig:4096<a4.length∨4096<a6.length
 .obtain⟨r,he,hp⟩:=dp0 (a0:=a0) (a1:=a1) (a2:=a2) (a3:=a3) (a5:=a5) (a7:=a7) (a8:=a8) g4 g6 hbig;exact no (bad r he hp)
 have o4:OpsOk a4:=⟨by omega,h4⟩;have o6:OpsOk a6:=⟨by omega,h6⟩;by_cases hp:(ke a0 a1.length a2.length a3 a4 a5 a6 a7 a8).2.2.2.2≠0
 .exact no (bad _ hp (bf4 o4 o6))
 cases b with
 |false=>
  refine no ?_;unfold mh;refine dv (bf4 o4 o6) ?_;exact dv hs rfl
 |true=>
  have hr:mh a0 a1 a2 a3 a4 a5 a6 a7 a8=Y Za:=by
   unfold mh;refine dv (bf4 o4 o6) ?_;refine dv hs ?_;rw[zC,zB (show(ke a0 a1.length a2.length a3 a4 a5 a6 a7 a8).2.2.2.2=0 by omega)]
  obtain⟨c,hc,e0,e1,e2,e3,e4,e5,e6,e7,e8,e9⟩:=em3 o4 o6 (show(ke a0 a1.length a2.length a3 a4 a5 a6 a7 a8).2.2.2.2=0 by omega);subst e0 e1 e2 e3 e4 e5 e6 e7 e8;have hmm:=hc.num.mode;have hll:=hc.num.len
  obtain⟨l,hst,hl,hlen⟩: ∃l:Nat,uR c.mode c.X c.T c.R c.l c.Q c.k c.len c.words a9=Y (l:Int)/\l<=40/\(c.mode≠2->c.len=l):=by
   unfold uR;by_cases h2:c.mode=2
   .have hv:Int.tmod a9 41=a9 % 41:=Int.tmod_eq_emod_of_nonneg h9;refine⟨(a9 % 41).toNat, ?_,by omega,λk=>(k h2).elim⟩;rw[zB h2,zC,hv,ad (by omega),dB (by omega)]
   .refine⟨c.len.toNat, ?_,by rcases hb rfl with k|k<;>omega,λ_=>by omega⟩;rw[zA h2,zD,dB hll.1]
  obtain⟨es,f,en,s,H,F⟩:=dJ0 hc e9 hl hlen;by_cases h3:c.mode=3
  .exact dw1 hc h3 e9 hr hl hst H F
  by_cases h1:c.mode=1
  .exact dw2 hc h1 e9 hr hl hst H F
  .exact dw3 hc (by omega) e9 hr hl hst H F
end
end Go.V
