/- A part of the proofs of this claim: what functions of the program answer on an abstract machine, and plain laws. No condition. -/
import Derived.Test.YtbocegmeciaanaaGreatL2
set_option linter.unusedVariables false
set_option linter.unusedSimpArgs false
set_option linter.unusedSectionVars false
namespace Go.V
open Go.Ab
section
open List renaming length_take → aB
set_option maxRecDepth 100000
section
variable {c:Cx}
theorem cf9 (h:c.Ok)(hm:c.mode=3){s:Dy}(hi:InvB c s)(a n:Int):InvB c (plF c a n s).2:=by
 have nm:=h.num;have hW:=hi.w;have hL:=hi.L;have hp:=hi.p;have hq:=hi.q;have hpk:=hi.pk;have hqp:=hi.qp;have hns:=h.ns;have nR:=nm.R;have n1:=nm.xtR;have nx:=nm.x;obtain⟨g1,g2,g3,g4,g5,g6,g7⟩:=bd3 h hm hi;have htp:=nm.tp;rw[zE hm]at htp;have l1:(seg s.W (c.off 1) c.X.length).length=c.X.length:=dz (hW.in' h (i:=1) (by omega));have z1:c.sz 1=c.X.length:=rfl;have o1:=jc (c:=c) (i:=1) (j:=9) (by omega);unfold plF;by_cases a8:a=8
 ·rw[zE a8];by_cases hn:n≠0
  ·rw[zE hn];exact hi
  rw[zF hn];by_cases hq0:0≤s.q
  ·rw[zE hq0];exact hi
  rw[zF hq0];by_cases hpl:s.p=s.L
  ·rw[zE hpl];exact hi
  rw[zF hpl];have hheld:kw s=s.p:=by unfold kw;rw[zE (by omega)]
  have hlt:s.p.toNat<c.ns.toNat:=by omega
  obtain⟨s1,s2,s3,s4⟩:=ul h hm hlt;obtain⟨f1,f2,f3⟩:=jJ h hW s.p;have w1:=vZ h hW s.p;have hla:((stepR c s.W s.p).2.1++(stepR c s.W s.p).1).length=c.sl.toNat:=by rw[List.length_append];omega
  have w2:=w1.put h (w:=(stepR c s.W s.p).2.1++(stepR c s.W s.p).1) (o:=lM c s.p.toNat) (by rw[hla];exact s3);have hbd:=g5 (by rw[hheld];omega);refine⟨w2.put h (by rw[aB];omega),hL,⟨by show 0≤s.p+1;omega,by show s.p+1≤s.L;omega⟩,hq,fun hq1=> ?_, ?_, ?_⟩
  ·have hq1:0≤s.q:=hq1;omega
  ·show s.lv+c.sl=c.fixed+c.sl*(if s.q<0 then s.p+1 else s.q);rw[zE (by omega),hi.lv,hheld,Int.mul_add,Int.mul_one];omega
  ·show s.lv+c.sl≤max s.pk (s.lv+c.sl)∧max s.pk (s.lv+c.sl)≤c.words;omega
 rw[zF a8];by_cases a5:a=5
 ·rw[zE a5];by_cases hn:n≠0
  ·rw[zE hn];exact hi
  rw[zF hn];by_cases hq0:0≤s.q
  ·rw[zE hq0];exact hi
  rw[zF hq0];by_cases hpl:s.p≠s.L
  ·rw[zE hpl];exact hi
  rw[zF hpl];refine⟨(ac4 h hW l1).2,hL,hp,⟨by show-1≤s.L;omega,Int.le_refl _⟩,fun _=>by show s.p=s.L;omega, ?_, ?_⟩
  ·show s.lv=c.fixed+c.sl*(if s.L<0 then s.p else s.L);rw[zF (by omega),hi.lv];unfold kw;rw[zE (by omega),show s.p=s.L by omega]
  ·show s.lv≤max s.pk (s.lv+(c.fk.n:Int))∧max s.pk (s.lv+(c.fk.n:Int))≤c.words;omega
 rw[zF a5];by_cases a9:a=9
 ·rw[zE a9];by_cases hn:n≠0
  ·rw[zE hn];exact hi
  rw[zF hn];by_cases hq1:s.q<1
  ·rw[zE hq1];exact hi
  rw[zF hq1];have hlt:(s.q-1).toNat<c.ns.toNat:=by omega
  obtain⟨b1,b2,b3,b4,b5,b6⟩:=aP1 h hm hW hlt;obtain⟨v1,v2,v3⟩:=nI h (a:=(av6 c s.W (s.q-1).toNat).2.1) hW (by omega) (by omega);refine⟨v3.put h (by rw[aB];omega),hL,⟨by show 0≤s.q-1;omega,by show s.q-1≤s.L;omega⟩,⟨by show-1≤s.q-1;omega,by show s.q-1≤s.L;omega⟩,fun _=>rfl, ?_, ?_⟩
  ·show s.lv-c.sl=c.fixed+c.sl*(if s.q-1<0 then s.q-1 else s.q-1);have hheld:kw s=s.q:=by unfold kw;rw[zF (by omega)]
   rw[zF (by omega),hi.lv,hheld,Int.mul_sub,Int.mul_one];omega
  ·show s.lv-c.sl≤s.pk∧s.pk≤c.words;have:=nm.sl;rw[zE hm]at this;omega
 rw[zF a9];exact hi
theorem cG9 {s:Dy}{B:Int}(hc:Cnt B s)(a n:Int):Cnt (B+65536) (plF c a n s).2:=by
 have key:Cnt (B+65536) s:=by unfold Cnt at hc⊢;omega
 unfold plF
 repeat' split
 all_goals first|exact key|(unfold Cnt at hc⊢;simp only;omega)
def kE (c:Cx)(s:Dy):Int×Dy:=if c.mode≠2 then(19,s)else if 0≤s.q then(19,s)else if s.L=65535 then(14,s)else(0,{s with L:=s.L+1})
theorem bq8 {s:Dy}{B:Int}(hc:Cnt B s):Cnt (B+65536) (kE c s).2:=by
 have key:Cnt (B+65536) s:=by unfold Cnt at hc⊢;omega
 unfold kE
 repeat' split
 all_goals first|exact key|(unfold Cnt at hc⊢;simp only;omega)
theorem bY5 (hm:c.mode=3){s:Dy}(hi:InvB c s):InvB c (kE c s).2:=by
 unfold kE;rw[zE (by omega)];exact hi
theorem bY6 {s:Dy}(hi:Inv c s):Inv c (kE c s).2:=by
 unfold kE;split
 ·exact hi
 split
 ·exact hi
 split
 ·exact hi
 ·have:=hi.L;have:=hi.p;have:=hi.q;exact⟨hi.w,⟨by show 0≤s.L+1;omega,by show s.L+1≤65535;omega⟩,⟨hi.p.1,by show s.p≤s.L+1;omega⟩,⟨hi.q.1,by show s.q≤s.L+1;omega⟩,fun k hk=>by have:=hi.tag k hk;exact⟨this.1,by show ib c s.W k≤s.L+1+1;omega⟩,hi.lv,hi.pk⟩
theorem cl3 {s:Dy}(hl:bI8 c s):bI8 c (kE c s).2:=by
 intro hm;unfold kE;rw[zE hm];exact hl hm
theorem cW3 (a n:Int)(s:Dy):(doF c a n s).2.L=s.L:=by
 unfold doF;by_cases h1:jW a n=false∨7<a
 ·rw[zE h1]
 rw[zF h1];by_cases h4:(2≤a∧a≤4)∧c.ns≤n
 ·rw[zE h4]
 rw[zF h4]
 have two: ∀{P:Prop} [Decidable P] {x y:Int×Dy},x.2.L=s.L→y.2.L=s.L→(if P then x else y).2.L=s.L:=by
  intro P _ x y hx hy;by_cases hP:P
  ·rw[zE hP];exact hx
  ·rw[zF hP];exact hy
 exact two (two rfl rfl) (two (two rfl rfl) (two (two rfl rfl) (two (two rfl rfl) (two (two rfl (two rfl rfl)) (two (two rfl (two rfl rfl)) (two rfl (two rfl rfl)))))))
theorem cB9 {s:Dy}(hl:bI8 c s)(a n:Int):bI8 c (doF c a n s).2:=fun hm=>(cW3 a n s).trans (hl hm)
theorem cW8 {s:Dy}(hL:0≤s.L∧s.L≤65535):mY c.fixed c.tp c.sl c.ns c.mode c.R c.Q c.len c.words s.L s.p s.q s.c0 s.c1 s.c2 s.c3 s.z c.X c.T c.l c.k c.P c.tk s.lv s.pk c.words s.W=some ((kE c s).1,c.fixed,c.tp,c.sl,c.ns,c.mode,c.R,c.Q,c.len,c.words,(kE c s).2.L,s.p,s.q,s.c0,s.c1,s.c2,s.c3,s.z):=by
 unfold mY kE;rw[br];by_cases h1:c.mode≠2
 ·rw[zE h1,zE h1]
 rw[zF h1,zF h1,br];by_cases h2:0≤s.q
 ·rw[zE h2,zE h2]
 rw[zF h2,zF h2,br];by_cases h3:s.L=65535
 ·rw[zE h3,zE h3]
 rw[zF h3,zF h3,bm (by omega)]
def yK (c:Cx)(x:Int×Int)(s:Dy):Int×Dy:=if x.1=0 then kE c s else plF c x.1 x.2 s
theorem cW9 {s:Dy}(hL:0≤s.L∧s.L≤65535):lP c.fixed c.tp c.sl c.ns c.mode c.R c.Q c.len c.words s.L s.p s.q s.c0 s.c1 s.c2 s.c3 s.z c.X c.T c.l c.k c.P c.tk (c.off 8:Int) c.ns (c.X.length:Int) s.lv s.pk c.words s.W=some ((kE c s).1,c.fixed,c.tp,c.sl,c.ns,c.mode,c.R,c.Q,c.len,c.words,(kE c s).2.L,s.p,s.q,s.c0,s.c1,s.c2,s.c3,s.z):=by
 unfold lP kE;rw[br];by_cases h1:c.mode≠2
 ·rw[zE h1,zE h1]
 rw[zF h1,zF h1,br];by_cases h2:0≤s.q
 ·rw[zE h2,zE h2]
 rw[zF h2,zF h2,br];by_cases h3:s.L=65535
 ·rw[zE h3,zE h3]
 rw[zF h3,zF h3,bm (by omega)]
def yL (c:Cx)(x:Int×Int)(s:Dy):Int×Dy:=if x.1=0 then kE c s else doF c x.1 x.2 s
theorem ad0 (s:Dy):(kE c s).2={s with L:=(kE c s).2.L}:=by
 unfold kE
 repeat' split
 all_goals rfl
structure Well1 (c:Cx)(i:Nat)(s:Dy):Prop where
 inv:InvB c s
 cnt:Cnt (65536*i) s
structure Well2 (c:Cx)(i:Nat)(s:Dy):Prop where
 inv:Inv c s
 cnt:Cnt (65536*i) s
 len:bI8 c s
theorem Well1.act (h:c.Ok)(hm:c.mode=3){i:Nat}{s:Dy}(w:Well1 c i s)(x:Int×Int):Well1 c (i+1) (yK c x s).2:=by
 have e:(65536:Int)*((i+1:Nat):Int)=65536*i+65536:=by omega
 unfold yK;split
 ·exact⟨bY5 hm w.inv,by rw[e];exact bq8 w.cnt⟩
 ·exact⟨cf9 h hm w.inv _ _,by rw[e];exact cG9 w.cnt _ _⟩
theorem Well2.act (h:c.Ok)(hm:c.mode≠3){i:Nat}{s:Dy}(w:Well2 c i s)(x:Int×Int):Well2 c (i+1) (yL c x s).2:=by
 have e:(65536:Int)*((i+1:Nat):Int)=65536*i+65536:=by omega
 unfold yL;split
 ·exact⟨bY6 w.inv,by rw[e];exact bq8 w.cnt,cl3 w.len⟩
 ·exact⟨cd5 h hm w.inv _ _,by rw[e];exact cB8 w.cnt _ _,cB9 w.len _ _⟩
theorem Well1.L (h:c.Ok){i:Nat}{s:Dy}(w:Well1 c i s):0≤s.L∧s.L≤65535:=by
 have:=w.inv.L;have:=h.num.len;omega
def cS2 (f:(Int×Int)→Dy→Int×Dy)(l:List (Int×Int))(s:Dy):Nat→Dy
 |0=>s
 |i+1=>(f (l.getD i (0,0)) (cS2 f l s i)).2
theorem cf2 (s:Dy)(h:s.c0=0∧s.c1=0∧s.c2=0∧s.c3=0):Cnt (65536*(0:Nat)) s:=by
 unfold Cnt;omega
theorem bt3 (h:c.Ok)(hm:c.mode=3)(l:List (Int×Int)): ∀i,Well1 c i (cS2 (yK c) l (new1 c) i)
 |0=>⟨cu8 h hm,cf2 _ ⟨rfl,rfl,rfl,rfl⟩⟩
 |i+1=>(bt3 h hm l i).act h hm _
theorem bt4 (h:c.Ok)(hm:c.mode≠3)(l:List (Int×Int)): ∀i,Well2 c i (cS2 (yL c) l (new2 c) i)
 |0=>⟨cu9 h hm,cf2 _ ⟨rfl,rfl,rfl,rfl⟩,fun _=>rfl⟩
 |i+1=>(bt4 h hm l i).act h hm _
def aG8 (c:Cx)(s:Dy):Int×Int×(List Int)×List Int:=if s.q≠0 then(0,19,[],[])else(s.z,0,seg s.W (c.off 5) c.X.length,seg s.W (c.off 6) c.T.length)
theorem cH5 (h:c.Ok){s:Dy}(hW:Wd c s.W):jN c.fixed c.tp c.sl c.ns c.mode c.R c.Q c.len c.words s.L s.p s.q s.c0 s.c1 s.c2 s.c3 s.z c.X c.T c.l c.k c.P c.tk s.lv s.pk c.words s.W=some (aG8 c s):=by
 unfold jN aG8;rw[br];by_cases h1:s.q≠0
 ·rw[zE h1,zE h1]
 rw[zF h1,zF h1,bD3 (ii:=5) (i:=5) h hW rfl (by omega)];simp only[zG];rw[bD3 (ii:=6) (i:=6) h hW rfl (by omega)];rfl
theorem cT0 (h:c.Ok){s:Dy}(hW:Wd c s.W):mm c.fixed c.tp c.sl c.ns c.mode c.R c.Q c.len c.words s.L s.p s.q s.c0 s.c1 s.c2 s.c3 s.z c.X c.T c.l c.k c.P c.tk s.lv s.pk c.words s.W=some (seg s.W (c.off 1) c.X.length):=by
 unfold mm;rw[bD3 (ii:=1) (i:=1) h hW rfl (by omega)];rfl
theorem cs7 (h:c.Ok){s:Dy}(hW:Wd c s.W):mj c.fixed c.tp c.sl c.ns c.mode c.R c.Q c.len c.words s.L s.p s.q s.c0 s.c1 s.c2 s.c3 s.z c.X c.T c.l c.k c.P c.tk s.lv s.pk c.words s.W=some s.W:=by
 unfold mj kN;rw[xH (hW.tk h).2];rfl
theorem cH6 (h:c.Ok){s:Dy}(hW:Wd c s.W):jf c.fixed c.tp c.sl c.ns c.mode c.R c.Q c.len c.words s.L s.p s.q s.c0 s.c1 s.c2 s.c3 s.z c.X c.T c.l c.k c.P c.tk (c.off 8:Int) c.ns (c.X.length:Int) s.lv s.pk c.words s.W=some (aG8 c s):=by
 unfold jf aG8;rw[br];by_cases h1:s.q≠0
 ·rw[zE h1,zE h1]
 rw[zF h1,zF h1,bc3 (ii:=5) (i:=5) h hW rfl (by omega)];simp only[zG];rw[bc3 (ii:=6) (i:=6) h hW rfl (by omega)];rfl
theorem cT1 (h:c.Ok){s:Dy}(hW:Wd c s.W):kY c.fixed c.tp c.sl c.ns c.mode c.R c.Q c.len c.words s.L s.p s.q s.c0 s.c1 s.c2 s.c3 s.z c.X c.T c.l c.k c.P c.tk (c.off 8:Int) c.ns (c.X.length:Int) s.lv s.pk c.words s.W=some (seg s.W (c.off 1) c.X.length):=by
 unfold kY;rw[bc3 (ii:=1) (i:=1) h hW rfl (by omega)];rfl
theorem cs8 (h:c.Ok){s:Dy}(hW:Wd c s.W):kW c.fixed c.tp c.sl c.ns c.mode c.R c.Q c.len c.words s.L s.p s.q s.c0 s.c1 s.c2 s.c3 s.z c.X c.T c.l c.k c.P c.tk (c.off 8:Int) c.ns (c.X.length:Int) s.lv s.pk c.words s.W=some s.W:=by
 unfold kW kN;rw[xH (hW.tk h).2];rfl
theorem as6 {l:List Int}{f:Int→Option (Int⊕(Bool⊕Unit))}(hl:l.length<1000000000)(hf: ∀s,f s=cond (decide (s<((l.length:Nat):Int))) ((rd l s).bind fun x=>(rd l s).bind fun y=>cond (decide (x≠y)) (some (.inr (.inl false))) (some (.inl (IntKind.i64.wrap (s+1))))) (some (.inr (.inr ())))):bw f fa 0=some (.inr ()):=by
 refine pQ (n:=l.length) (by omega) (fun i hi=> ?_) ?_
 ·rw[hf];rw[zB (by omega),zC,cq hi];simp only[zG];rw[dne,zD,bm (by omega)];rfl
 ·rw[hf];rw[zA (by omega),zD]
theorem cy3 {l:List Int}(hl:l.length<1000000000):rR l l=some true:=by
 unfold rR;rw[dne,zD,as6 (f:=af1 l l) (l:=l) hl fun s=>rfl];rfl
theorem bG0 {z:Int}{l k:List Int}(hl:l.length<1000000000)(hk:k.length<1000000000):nW z l k z l k=some true:=by
 unfold nW;rw[dne,dne,dne,zD,zD,zD,as6 (f:=af3 l l) (l:=l) hl fun s=>rfl];simp only[zG,dp];rw[as6 (f:=af4 k k) (l:=k) hk fun s=>rfl];rfl
theorem cy4 {p q:Int}{l:List Int}(hl:l.length<1000000000):rX p q l p q l=some true:=by
 unfold rX;rw[dne,dne,dne,zD,zD,zD,as6 (f:=af5 l l) (l:=l) hl fun s=>rfl];rfl
end
end
section
theorem bc4 :py=some true:=by kernel_rfl
section
variable {c:Cx}
end
end
section
section
variable {a0:Int} {a1 a2:List Int} {a3:Int} {a4:List cv} {a5:Int} {a6:List cv} {a7 a8:Int}
theorem cI3 (h4: ∀o∈a4,okV o)(h6: ∀o∈a6,okV o):qd a0 a1 a2 a3 a4 a5 a6 a7 a8=some false∨(qd a0 a1 a2 a3 a4 a5 a6 a7 a8=some true∧OpsOk a4∧OpsOk a6∧a1.length≤200∧a2.length≤200):=by
 unfold qd xT;by_cases c1:(a4.length:Int)≤60
 ·by_cases c2:(a6.length:Int)≤60
  ·by_cases c3:(a1.length:Int)≤200
   ·by_cases c4:(a2.length:Int)≤200
    ·have o4:OpsOk a4:=⟨by omega,h4⟩;have o6:OpsOk a6:=⟨by omega,h6⟩;rw[zB c1,zB c2,zB c3,zB c4];simp only[zC,zG,Bool.not_true,zD];rw[aG6 o4 o6];simp only[zG,br]
     have key: ∀b:Bool,(some b=some false)∨(some b=some true∧OpsOk a4∧OpsOk a6∧a1.length≤200∧a2.length≤200):=fun b=>by
      cases b
      ·exact .inl rfl
      ·exact .inr ⟨rfl,o4,o6,by omega,by omega⟩
     repeat' split
     all_goals exact key _
    ·rw[zB c1,zB c2,zB c3,zA c4];exact .inl rfl
   ·rw[zB c1,zB c2,zA c3];exact .inl rfl
  ·rw[zB c1,zA c2];exact .inl rfl
 ·rw[zA c1];exact .inl rfl
theorem cA2 (hl:OpsOk a4)(hk:OpsOk a6)(h:(jm a0 a1.length a2.length a3 a4 a5 a6 a7 a8).2.2.2.2≠0):mq a0 a1 a2 a3 a4 a5 a6 a7 a8=some (.inl (jm a0 a1.length a2.length a3 a4 a5 a6 a7 a8).2.2.2.2):=by
 unfold mq;rw[cm8 hl hk h];simp only[zG,kg];rw[zB h,zC]
end
end
section
open Go.IntKind renaming wrap → zH, i64 → zI, u64 → zJ
open Int renaming tdiv → aD, tmod → bB, add_mul → bD, mul_add → cB, mul_assoc → cD, mul_left_comm → dB, tdiv_eq_ediv_of_nonneg → dD, tmod_eq_emod_of_nonneg → eD
open Sum renaming inl → aB
def sX (a:Int):Prop:=0≤a∧a<18446744073709551616
theorem wU (n:Int):zH zJ n=n % 18446744073709551616:=rfl
theorem bi1 {n:Int}(h:sX n):zH zJ n=n:=by rw[wU];unfold sX at h;omega
theorem dw1 {x:Int}(h:sX x):zH zJ (aD x 256)=x / 256:=by
 unfold sX at h;rw[dD h.1,wU];omega
theorem dw2 {x:Int}(h:sX x):zH zI (bB x 256)=x % 256:=by
 unfold sX at h;rw[eD h.1,bm (by omega)]
theorem sX.div {x:Int}(h:sX x):sX (x / 256):=by unfold sX at*;omega
variable {x s d0 d1 d2 d3 d4 d5 d6 d7 c0 c1 c2 c3 c4 c5 c6 c7 r0 r1 r2 r3 r4 r5 r6 r7 x0 x1 x2 x3 x4 x5 x6 x7 y0 y1 y2 y3 y4 y5 y6 y7 p0 p1 p2 p3 p4 p5 p6 p7:Int}
theorem cV5 (h:sX x):gj (0,x,d0,d1,d2,d3,d4,d5,d6,d7)=some (.inl (1,x / 256,x % 256,d1,d2,d3,d4,d5,d6,d7)):=by
 show some (aB (zH zI (0+1),zH zJ (aD x 256),zH zI (bB x 256),d1,d2,d3,d4,d5,d6,d7))=_;rw[dw1 h,dw2 h];rfl
theorem cV6 (h:sX x):gj (1,x,d0,d1,d2,d3,d4,d5,d6,d7)=some (.inl (2,x / 256,d0,x % 256,d2,d3,d4,d5,d6,d7)):=by
 show some (aB (zH zI (1+1),zH zJ (aD x 256),d0,zH zI (bB x 256),d2,d3,d4,d5,d6,d7))=_;rw[dw1 h,dw2 h];rfl
theorem cV7 (h:sX x):gj (2,x,d0,d1,d2,d3,d4,d5,d6,d7)=some (.inl (3,x / 256,d0,d1,x % 256,d3,d4,d5,d6,d7)):=by
 show some (aB (zH zI (2+1),zH zJ (aD x 256),d0,d1,zH zI (bB x 256),d3,d4,d5,d6,d7))=_;rw[dw1 h,dw2 h];rfl
theorem cV8 (h:sX x):gj (3,x,d0,d1,d2,d3,d4,d5,d6,d7)=some (.inl (4,x / 256,d0,d1,d2,x % 256,d4,d5,d6,d7)):=by
 show some (aB (zH zI (3+1),zH zJ (aD x 256),d0,d1,d2,zH zI (bB x 256),d4,d5,d6,d7))=_;rw[dw1 h,dw2 h];rfl
theorem cV9 (h:sX x):gj (4,x,d0,d1,d2,d3,d4,d5,d6,d7)=some (.inl (5,x / 256,d0,d1,d2,d3,x % 256,d5,d6,d7)):=by
 show some (aB (zH zI (4+1),zH zJ (aD x 256),d0,d1,d2,d3,zH zI (bB x 256),d5,d6,d7))=_;rw[dw1 h,dw2 h];rfl
theorem cW0 (h:sX x):gj (5,x,d0,d1,d2,d3,d4,d5,d6,d7)=some (.inl (6,x / 256,d0,d1,d2,d3,d4,x % 256,d6,d7)):=by
 show some (aB (zH zI (5+1),zH zJ (aD x 256),d0,d1,d2,d3,d4,zH zI (bB x 256),d6,d7))=_;rw[dw1 h,dw2 h];rfl
theorem cW1 (h:sX x):gj (6,x,d0,d1,d2,d3,d4,d5,d6,d7)=some (.inl (7,x / 256,d0,d1,d2,d3,d4,d5,x % 256,d7)):=by
 show some (aB (zH zI (6+1),zH zJ (aD x 256),d0,d1,d2,d3,d4,d5,zH zI (bB x 256),d7))=_;rw[dw1 h,dw2 h];rfl
theorem cW2 (h:sX x):gj (7,x,d0,d1,d2,d3,d4,d5,d6,d7)=some (.inl (8,x / 256,d0,d1,d2,d3,d4,d5,d6,x % 256)):=by
 show some (aB (zH zI (7+1),zH zJ (aD x 256),d0,d1,d2,d3,d4,d5,d6,zH zI (bB x 256)))=_;rw[dw1 h,dw2 h];rfl
def dgs (a:Int):Int×Int×Int×Int×Int×Int×Int×Int:=(a % 256,a / 256 % 256,a / 65536 % 256,a / 16777216 % 256,a / 4294967296 % 256,a / 1099511627776 % 256,a / 281474976710656 % 256,a / 72057594037927936 % 256)
theorem yN {a:Int}(h:sX a):ku a=some (dgs a):=by
 have h0:=h;have h1:=h0.div;have h2:=h1.div;have h3:=h2.div;have h4:=h3.div;have h5:=h4.div;have h6:=h5.div;have h7:=h6.div;have key:=gr ((((((((Reach.one (cV5 (d0:=0) (d1:=0) (d2:=0) (d3:=0) (d4:=0) (d5:=0) (d6:=0) (d7:=0) h0)).trans (Reach.one (cV6 h1))).trans (Reach.one (cV7 h2))).trans (Reach.one (cV8 h3))).trans (Reach.one (cV9 h4))).trans (Reach.one (cW0 h5))).trans (Reach.one (cW1 h6))).trans (Reach.one (cW2 h7))) (by decide) rfl;unfold ku;rw[key];simp only[zG];unfold dgs;unfold sX at h;have e7:a / 256 / 256 / 256 / 256 / 256 / 256 / 256=a / 72057594037927936:=by omega
 have e6:a / 256 / 256 / 256 / 256 / 256 / 256=a / 281474976710656:=by omega
 have e5:a / 256 / 256 / 256 / 256 / 256=a / 1099511627776:=by omega
 have e4:a / 256 / 256 / 256 / 256=a / 4294967296:=by omega
 have e3:a / 256 / 256 / 256=a / 16777216:=by omega
 have e2:a / 256 / 256=a / 65536:=by omega
 rw[e7,e6,e5,e4,e3,e2]
def Sm (c:Int):Prop:=0≤c∧c≤1000000000
theorem nw {k c n b:Int}(hk:0≤k∧k≤1000000000)(hc:Sm c)(hn:0≤n∧n<b)(hb:0<b∧b≤72057594037927936):zH zI (aD (zH zI (k+c)) 256)=(k+c) / 256∧IntKind.u64.wrap (n+(zH zJ ((zH zJ (bB (zH zI (k+c)) 256))*b)))=n+(k+c) % 256*b:=by
 unfold Sm at hc;have h1:0≤(k+c) % 256∧(k+c) % 256≤255:=by omega
 have h2:0≤(k+c) % 256*b∧(k+c) % 256*b≤255*b:=⟨Int.mul_nonneg h1.1 (by omega),Int.mul_le_mul_of_nonneg_right h1.2 (by omega)⟩;rw[bm (n:=k+c) (by omega),dD (by omega),eD (by omega),bm (by omega),bi1 (n:=(k+c) % 256) ⟨by omega,by omega⟩,bi1 (n:=(k+c) % 256*b) ⟨by omega,by omega⟩,bi1 (n:=n+(k+c) % 256*b) ⟨by omega,by omega⟩];exact⟨rfl,rfl⟩
theorem cX9 (hs:0≤s∧s≤1000000000*1)(hc:Sm c0):gk c0 c1 c2 c3 c4 c5 c6 c7 (0,s / 1,s % 1,1)=some (.inl (1,(s+1*c0) / 256,(s+1*c0) % 256,256)):=by
 show some (aB (zH zI (0+1),zH zI (aD (zH zI (s / 1+c0)) 256),zH zJ (s % 1+(zH zJ ((zH zJ (bB (zH zI (s / 1+c0)) 256))*1))),zH zJ (1*256)))=_;obtain⟨h1,h2⟩:=nw (k:=s / 1) (c:=c0) (n:=s % 1) (b:=1) (by omega) hc (by omega) (by omega);rw[h1,h2];unfold Sm at hc;rw[show(s / 1+c0) / 256=(s+1*c0) / 256 by omega,show s % 1+(s / 1+c0) % 256*1=(s+1*c0) % 256 by omega];rfl
theorem cY0 (hs:0≤s∧s≤1000000000*256)(hc:Sm c1):gk c0 c1 c2 c3 c4 c5 c6 c7 (1,s / 256,s % 256,256)=some (.inl (2,(s+256*c1) / 65536,(s+256*c1) % 65536,65536)):=by
 show some (aB (zH zI (1+1),zH zI (aD (zH zI (s / 256+c1)) 256),zH zJ (s % 256+(zH zJ ((zH zJ (bB (zH zI (s / 256+c1)) 256))*256))),zH zJ (256*256)))=_;obtain⟨h1,h2⟩:=nw (k:=s / 256) (c:=c1) (n:=s % 256) (b:=256) (by omega) hc (by omega) (by omega);rw[h1,h2];unfold Sm at hc;rw[show(s / 256+c1) / 256=(s+256*c1) / 65536 by omega,show s % 256+(s / 256+c1) % 256*256=(s+256*c1) % 65536 by omega];rfl
theorem cY1 (hs:0≤s∧s≤1000000000*65536)(hc:Sm c2):gk c0 c1 c2 c3 c4 c5 c6 c7 (2,s / 65536,s % 65536,65536)=some (.inl (3,(s+65536*c2) / 16777216,(s+65536*c2) % 16777216,16777216)):=by
 show some (aB (zH zI (2+1),zH zI (aD (zH zI (s / 65536+c2)) 256),zH zJ (s % 65536+(zH zJ ((zH zJ (bB (zH zI (s / 65536+c2)) 256))*65536))),zH zJ (65536*256)))=_;obtain⟨h1,h2⟩:=nw (k:=s / 65536) (c:=c2) (n:=s % 65536) (b:=65536) (by omega) hc (by omega) (by omega);rw[h1,h2];unfold Sm at hc;rw[show(s / 65536+c2) / 256=(s+65536*c2) / 16777216 by omega,show s % 65536+(s / 65536+c2) % 256*65536=(s+65536*c2) % 16777216 by omega];rfl
theorem cY2 (hs:0≤s∧s≤1000000000*16777216)(hc:Sm c3):gk c0 c1 c2 c3 c4 c5 c6 c7 (3,s / 16777216,s % 16777216,16777216)=some (.inl (4,(s+16777216*c3) / 4294967296,(s+16777216*c3) % 4294967296,4294967296)):=by
 show some (aB (zH zI (3+1),zH zI (aD (zH zI (s / 16777216+c3)) 256),zH zJ (s % 16777216+(zH zJ ((zH zJ (bB (zH zI (s / 16777216+c3)) 256))*16777216))),zH zJ (16777216*256)))=_;obtain⟨h1,h2⟩:=nw (k:=s / 16777216) (c:=c3) (n:=s % 16777216) (b:=16777216) (by omega) hc (by omega) (by omega);rw[h1,h2];unfold Sm at hc;rw[show(s / 16777216+c3) / 256=(s+16777216*c3) / 4294967296 by omega,show s % 16777216+(s / 16777216+c3) % 256*16777216=(s+16777216*c3) % 4294967296 by omega];rfl
theorem cY3 (hs:0≤s∧s≤1000000000*4294967296)(hc:Sm c4):gk c0 c1 c2 c3 c4 c5 c6 c7 (4,s / 4294967296,s % 4294967296,4294967296)=some (.inl (5,(s+4294967296*c4) / 1099511627776,(s+4294967296*c4) % 1099511627776,1099511627776)):=by
 show some (aB (zH zI (4+1),zH zI (aD (zH zI (s / 4294967296+c4)) 256),zH zJ (s % 4294967296+(zH zJ ((zH zJ (bB (zH zI (s / 4294967296+c4)) 256))*4294967296))),zH zJ (4294967296*256)))=_;obtain⟨h1,h2⟩:=nw (k:=s / 4294967296) (c:=c4) (n:=s % 4294967296) (b:=4294967296) (by omega) hc (by omega) (by omega);rw[h1,h2];unfold Sm at hc;rw[show(s / 4294967296+c4) / 256=(s+4294967296*c4) / 1099511627776 by omega,show s % 4294967296+(s / 4294967296+c4) % 256*4294967296=(s+4294967296*c4) % 1099511627776 by omega];rfl
theorem cY4 (hs:0≤s∧s≤1000000000*1099511627776)(hc:Sm c5):gk c0 c1 c2 c3 c4 c5 c6 c7 (5,s / 1099511627776,s % 1099511627776,1099511627776)=some (.inl (6,(s+1099511627776*c5) / 281474976710656,(s+1099511627776*c5) % 281474976710656,281474976710656)):=by
 show some (aB (zH zI (5+1),zH zI (aD (zH zI (s / 1099511627776+c5)) 256),zH zJ (s % 1099511627776+(zH zJ ((zH zJ (bB (zH zI (s / 1099511627776+c5)) 256))*1099511627776))),zH zJ (1099511627776*256)))=_;obtain⟨h1,h2⟩:=nw (k:=s / 1099511627776) (c:=c5) (n:=s % 1099511627776) (b:=1099511627776) (by omega) hc (by omega) (by omega);rw[h1,h2];unfold Sm at hc;rw[show(s / 1099511627776+c5) / 256=(s+1099511627776*c5) / 281474976710656 by omega,show s % 1099511627776+(s / 1099511627776+c5) % 256*1099511627776=(s+1099511627776*c5) % 281474976710656 by omega];rfl
theorem cY5 (hs:0≤s∧s≤1000000000*281474976710656)(hc:Sm c6):gk c0 c1 c2 c3 c4 c5 c6 c7 (6,s / 281474976710656,s % 281474976710656,281474976710656)=some (.inl (7,(s+281474976710656*c6) / 72057594037927936,(s+281474976710656*c6) % 72057594037927936,72057594037927936)):=by
 show some (aB (zH zI (6+1),zH zI (aD (zH zI (s / 281474976710656+c6)) 256),zH zJ (s % 281474976710656+(zH zJ ((zH zJ (bB (zH zI (s / 281474976710656+c6)) 256))*281474976710656))),zH zJ (281474976710656*256)))=_;obtain⟨h1,h2⟩:=nw (k:=s / 281474976710656) (c:=c6) (n:=s % 281474976710656) (b:=281474976710656) (by omega) hc (by omega) (by omega);rw[h1,h2];unfold Sm at hc;rw[show(s / 281474976710656+c6) / 256=(s+281474976710656*c6) / 72057594037927936 by omega,show s % 281474976710656+(s / 281474976710656+c6) % 256*281474976710656=(s+281474976710656*c6) % 72057594037927936 by omega];rfl
theorem cY6 (hs:0≤s∧s≤1000000000*72057594037927936)(hc:Sm c7):gk c0 c1 c2 c3 c4 c5 c6 c7 (7,s / 72057594037927936,s % 72057594037927936,72057594037927936)=some (.inl (8,(s+72057594037927936*c7) / 18446744073709551616,(s+72057594037927936*c7) % 18446744073709551616,0)):=by
 show some (aB (zH zI (7+1),zH zI (aD (zH zI (s / 72057594037927936+c7)) 256),zH zJ (s % 72057594037927936+(zH zJ ((zH zJ (bB (zH zI (s / 72057594037927936+c7)) 256))*72057594037927936))),zH zJ (72057594037927936*256)))=_;obtain⟨h1,h2⟩:=nw (k:=s / 72057594037927936) (c:=c7) (n:=s % 72057594037927936) (b:=72057594037927936) (by omega) hc (by omega) (by omega);rw[h1,h2];unfold Sm at hc;rw[show(s / 72057594037927936+c7) / 256=(s+72057594037927936*c7) / 18446744073709551616 by omega,show s % 72057594037927936+(s / 72057594037927936+c7) % 256*72057594037927936=(s+72057594037927936*c7) % 18446744073709551616 by omega];rfl
theorem aL6 (h0:Sm c0)(h1:Sm c1)(h2:Sm c2)(h3:Sm c3)(h4:Sm c4)(h5:Sm c5)(h6:Sm c6)(h7:Sm c7):lw c0 c1 c2 c3 c4 c5 c6 c7=some ((c0+256*c1+65536*c2+16777216*c3+4294967296*c4+1099511627776*c5+281474976710656*c6+72057594037927936*c7) % 18446744073709551616):=by
 unfold lw;have g0:=h0;unfold Sm at g0;have g1:=h1;unfold Sm at g1;have g2:=h2;unfold Sm at g2;have g3:=h3;unfold Sm at g3;have g4:=h4;unfold Sm at g4;have g5:=h5;unfold Sm at g5;have g6:=h6;unfold Sm at g6;have g7:=h7;unfold Sm at g7;have key:=gr ((((((((Reach.one (cX9 (c0:=c0) (c1:=c1) (c2:=c2) (c3:=c3) (c4:=c4) (c5:=c5) (c6:=c6) (c7:=c7) (s:=0) (by omega) h0)).trans (Reach.one (cY0 (by omega) h1))).trans (Reach.one (cY1 (by omega) h2))).trans (Reach.one (cY2 (by omega) h3))).trans (Reach.one (cY3 (by omega) h4))).trans (Reach.one (cY4 (by omega) h5))).trans (Reach.one (cY5 (by omega) h6))).trans (Reach.one (cY6 (by omega) h7))) (by decide) rfl;rw[show((0:Int),(0:Int),(0:Int),(1:Int))=(0,0 / 1,0 % 1,1)from rfl,key];simp only[zG,Int.zero_add,Int.one_mul]
def By (c:Int):Prop:=0≤c∧c≤255
theorem pl1 {x y:Int}(hx:By x)(hy:By y):zH zI (x+y)=x+y:=by unfold By at*;exact bm (by omega)
theorem ng1 {x:Int}(hx:By x):zH zI (255-x)=255-x:=by unfold By at*;exact bm (by omega)
theorem oW {p x y:Int}(hp:0≤p∧p≤1000000)(hx:By x)(hy:By y):zH zI (p+zH zI (x*y))=p+x*y∧0≤x*y∧x*y≤65025:=by
 unfold By at*;have h1:=Int.mul_nonneg hx.1 hy.1;have h2:x*y≤255*255:=Int.mul_le_mul hx.2 hy.2 hy.1 (by omega);rw[bm (n:=x*y) (by omega),bm (n:=p+x*y) (by omega)];exact⟨rfl,h1,by omega⟩
theorem cZ0 (h:By d0)(k:By r0):ie (r0,r1,r2,r3,r4,r5,r6,r7) (0,d0,d1,d2,d3,d4,d5,d6,d7)=some (.inl (1,d0+r0,d1,d2,d3,d4,d5,d6,d7)):=by
 show some (aB (zH zI (0+1),zH zI (d0+r0),d1,d2,d3,d4,d5,d6,d7))=_;rw[pl1 h k];rfl
theorem cX0 (h:By d0):i6 (0,d0,d1,d2,d3,d4,d5,d6,d7)=some (.inl (1,255-d0,d1,d2,d3,d4,d5,d6,d7)):=by
 show some (aB (zH zI (0+1),zH zI (255-d0),d1,d2,d3,d4,d5,d6,d7))=_;rw[ng1 h];rfl
theorem cZ1 (h:By d1)(k:By r1):ie (r0,r1,r2,r3,r4,r5,r6,r7) (1,d0,d1,d2,d3,d4,d5,d6,d7)=some (.inl (2,d0,d1+r1,d2,d3,d4,d5,d6,d7)):=by
 show some (aB (zH zI (1+1),d0,zH zI (d1+r1),d2,d3,d4,d5,d6,d7))=_;rw[pl1 h k];rfl
theorem cX1 (h:By d1):i6 (1,d0,d1,d2,d3,d4,d5,d6,d7)=some (.inl (2,d0,255-d1,d2,d3,d4,d5,d6,d7)):=by
 show some (aB (zH zI (1+1),d0,zH zI (255-d1),d2,d3,d4,d5,d6,d7))=_;rw[ng1 h];rfl
theorem cZ2 (h:By d2)(k:By r2):ie (r0,r1,r2,r3,r4,r5,r6,r7) (2,d0,d1,d2,d3,d4,d5,d6,d7)=some (.inl (3,d0,d1,d2+r2,d3,d4,d5,d6,d7)):=by
 show some (aB (zH zI (2+1),d0,d1,zH zI (d2+r2),d3,d4,d5,d6,d7))=_;rw[pl1 h k];rfl
theorem cX2 (h:By d2):i6 (2,d0,d1,d2,d3,d4,d5,d6,d7)=some (.inl (3,d0,d1,255-d2,d3,d4,d5,d6,d7)):=by
 show some (aB (zH zI (2+1),d0,d1,zH zI (255-d2),d3,d4,d5,d6,d7))=_;rw[ng1 h];rfl
theorem cZ3 (h:By d3)(k:By r3):ie (r0,r1,r2,r3,r4,r5,r6,r7) (3,d0,d1,d2,d3,d4,d5,d6,d7)=some (.inl (4,d0,d1,d2,d3+r3,d4,d5,d6,d7)):=by
 show some (aB (zH zI (3+1),d0,d1,d2,zH zI (d3+r3),d4,d5,d6,d7))=_;rw[pl1 h k];rfl
theorem cX3 (h:By d3):i6 (3,d0,d1,d2,d3,d4,d5,d6,d7)=some (.inl (4,d0,d1,d2,255-d3,d4,d5,d6,d7)):=by
 show some (aB (zH zI (3+1),d0,d1,d2,zH zI (255-d3),d4,d5,d6,d7))=_;rw[ng1 h];rfl
theorem cZ4 (h:By d4)(k:By r4):ie (r0,r1,r2,r3,r4,r5,r6,r7) (4,d0,d1,d2,d3,d4,d5,d6,d7)=some (.inl (5,d0,d1,d2,d3,d4+r4,d5,d6,d7)):=by
 show some (aB (zH zI (4+1),d0,d1,d2,d3,zH zI (d4+r4),d5,d6,d7))=_;rw[pl1 h k];rfl
theorem cX4 (h:By d4):i6 (4,d0,d1,d2,d3,d4,d5,d6,d7)=some (.inl (5,d0,d1,d2,d3,255-d4,d5,d6,d7)):=by
 show some (aB (zH zI (4+1),d0,d1,d2,d3,zH zI (255-d4),d5,d6,d7))=_;rw[ng1 h];rfl
theorem cZ5 (h:By d5)(k:By r5):ie (r0,r1,r2,r3,r4,r5,r6,r7) (5,d0,d1,d2,d3,d4,d5,d6,d7)=some (.inl (6,d0,d1,d2,d3,d4,d5+r5,d6,d7)):=by
 show some (aB (zH zI (5+1),d0,d1,d2,d3,d4,zH zI (d5+r5),d6,d7))=_;rw[pl1 h k];rfl
theorem cX5 (h:By d5):i6 (5,d0,d1,d2,d3,d4,d5,d6,d7)=some (.inl (6,d0,d1,d2,d3,d4,255-d5,d6,d7)):=by
 show some (aB (zH zI (5+1),d0,d1,d2,d3,d4,zH zI (255-d5),d6,d7))=_;rw[ng1 h];rfl
theorem cZ6 (h:By d6)(k:By r6):ie (r0,r1,r2,r3,r4,r5,r6,r7) (6,d0,d1,d2,d3,d4,d5,d6,d7)=some (.inl (7,d0,d1,d2,d3,d4,d5,d6+r6,d7)):=by
 show some (aB (zH zI (6+1),d0,d1,d2,d3,d4,d5,zH zI (d6+r6),d7))=_;rw[pl1 h k];rfl
theorem cX6 (h:By d6):i6 (6,d0,d1,d2,d3,d4,d5,d6,d7)=some (.inl (7,d0,d1,d2,d3,d4,d5,255-d6,d7)):=by
 show some (aB (zH zI (6+1),d0,d1,d2,d3,d4,d5,zH zI (255-d6),d7))=_;rw[ng1 h];rfl
theorem cZ7 (h:By d7)(k:By r7):ie (r0,r1,r2,r3,r4,r5,r6,r7) (7,d0,d1,d2,d3,d4,d5,d6,d7)=some (.inl (8,d0,d1,d2,d3,d4,d5,d6,d7+r7)):=by
 show some (aB (zH zI (7+1),d0,d1,d2,d3,d4,d5,d6,zH zI (d7+r7)))=_;rw[pl1 h k];rfl
theorem cX7 (h:By d7):i6 (7,d0,d1,d2,d3,d4,d5,d6,d7)=some (.inl (8,d0,d1,d2,d3,d4,d5,d6,255-d7)):=by
 show some (aB (zH zI (7+1),d0,d1,d2,d3,d4,d5,d6,zH zI (255-d7)))=_;rw[ng1 h];rfl
theorem nG (x:Int):By (x % 256):=by unfold By;omega
theorem w8 {a b:Int}(ha:sX a)(hb:sX b):mv a b=some (zH zJ (a+b)):=by
 unfold mv;rw[yN ha,yN hb];simp only[zG,dgs];have key:bw (ie (b % 256,b / 256 % 256,b / 65536 % 256,b / 16777216 % 256,b / 4294967296 % 256,b / 1099511627776 % 256,b / 281474976710656 % 256,b / 72057594037927936 % 256)) fa (0,a % 256,a / 256 % 256,a / 65536 % 256,a / 16777216 % 256,a / 4294967296 % 256,a / 1099511627776 % 256,a / 281474976710656 % 256,a / 72057594037927936 % 256)=some (a % 256+b % 256,a / 256 % 256+b / 256 % 256,a / 65536 % 256+b / 65536 % 256,a / 16777216 % 256+b / 16777216 % 256,a / 4294967296 % 256+b / 4294967296 % 256,a / 1099511627776 % 256+b / 1099511627776 % 256,a / 281474976710656 % 256+b / 281474976710656 % 256,a / 72057594037927936 % 256+b / 72057594037927936 % 256):=gr ((((((((Reach.one (cZ0 (nG _) (nG _))).trans (Reach.one (cZ1 (nG _) (nG _)))).trans (Reach.one (cZ2 (nG _) (nG _)))).trans (Reach.one (cZ3 (nG _) (nG _)))).trans (Reach.one (cZ4 (nG _) (nG _)))).trans (Reach.one (cZ5 (nG _) (nG _)))).trans (Reach.one (cZ6 (nG _) (nG _)))).trans (Reach.one (cZ7 (nG _) (nG _)))) (by decide) rfl
 rw[key];simp only[zG];rw[aL6 (by unfold Sm;omega) (by unfold Sm;omega) (by unfold Sm;omega) (by unfold Sm;omega) (by unfold Sm;omega) (by unfold Sm;omega) (by unfold Sm;omega) (by unfold Sm;omega)];simp only[zG];unfold sX at ha hb;rw[wU]
 congr 1
 have e: ∀x:Int,0≤x∧x<18446744073709551616→x=x % 256+256*(x / 256 % 256)+65536*(x / 65536 % 256)+16777216*(x / 16777216 % 256)+4294967296*(x / 4294967296 % 256)+1099511627776*(x / 1099511627776 % 256)+281474976710656*(x / 281474976710656 % 256)+72057594037927936*(x / 72057594037927936 % 256):=fun x h=>by omega
 have ea:=e a ha;have eb:=e b hb;generalize a % 256=a0 at*;generalize a / 256 % 256=a1 at*;generalize a / 65536 % 256=a2 at*;generalize a / 16777216 % 256=a3 at*;generalize a / 4294967296 % 256=a4 at*;generalize a / 1099511627776 % 256=a5 at*;generalize a / 281474976710656 % 256=a6 at*;generalize a / 72057594037927936 % 256=a7 at*;generalize b % 256=b0 at*;generalize b / 256 % 256=b1 at*;generalize b / 65536 % 256=b2 at*;generalize b / 16777216 % 256=b3 at*;generalize b / 4294967296 % 256=b4 at*;generalize b / 1099511627776 % 256=b5 at*;generalize b / 281474976710656 % 256=b6 at*;generalize b / 72057594037927936 % 256=b7 at*;omega
theorem aM2 {a:Int}(ha:sX a):qX a=some (zH zJ (-a)):=by
 unfold qX;rw[yN ha];simp only[zG,dgs];have key:bw i6 fa (0,a % 256,a / 256 % 256,a / 65536 % 256,a / 16777216 % 256,a / 4294967296 % 256,a / 1099511627776 % 256,a / 281474976710656 % 256,a / 72057594037927936 % 256)=some (255-a % 256,255-a / 256 % 256,255-a / 65536 % 256,255-a / 16777216 % 256,255-a / 4294967296 % 256,255-a / 1099511627776 % 256,255-a / 281474976710656 % 256,255-a / 72057594037927936 % 256):=gr ((((((((Reach.one (cX0 (nG _))).trans (Reach.one (cX1 (nG _)))).trans (Reach.one (cX2 (nG _)))).trans (Reach.one (cX3 (nG _)))).trans (Reach.one (cX4 (nG _)))).trans (Reach.one (cX5 (nG _)))).trans (Reach.one (cX6 (nG _)))).trans (Reach.one (cX7 (nG _)))) (by decide) rfl;rw[key];simp only[zG];rw[bm (n:=255-a % 256+1) (by omega),aL6 (by unfold Sm;omega) (by unfold Sm;omega) (by unfold Sm;omega) (by unfold Sm;omega) (by unfold Sm;omega) (by unfold Sm;omega) (by unfold Sm;omega) (by unfold Sm;omega)]
 simp only[zG];unfold sX at ha;rw[wU]
 congr 1
 have ea:a=a % 256+256*(a / 256 % 256)+65536*(a / 65536 % 256)+16777216*(a / 16777216 % 256)+4294967296*(a / 4294967296 % 256)+1099511627776*(a / 1099511627776 % 256)+281474976710656*(a / 281474976710656 % 256)+72057594037927936*(a / 72057594037927936 % 256):=by omega
 generalize a % 256=a0 at*;generalize a / 256 % 256=a1 at*;generalize a / 65536 % 256=a2 at*;generalize a / 16777216 % 256=a3 at*;generalize a / 4294967296 % 256=a4 at*;generalize a / 1099511627776 % 256=a5 at*;generalize a / 281474976710656 % 256=a6 at*;generalize a / 72057594037927936 % 256=a7 at*;omega
theorem cI9 (hp:0≤p0∧p0≤1000000)(hx:By x0)(hy:By y0):bp (x0,x1,x2,x3,x4,x5,x6,x7) (y0,y1,y2,y3,y4,y5,y6,y7) 0 (0,p0,p1,p2,p3,p4,p5,p6,p7)=some (.inl (1,p0+x0*y0,p1,p2,p3,p4,p5,p6,p7)):=by
 show some (aB (zH zI (0+1),zH zI (p0+zH zI (x0*y0)),p1,p2,p3,p4,p5,p6,p7))=_;rw[(oW hp hx hy).1];rfl
theorem cJ0 (hp:0≤p1∧p1≤1000000)(hx:By x0)(hy:By y1):bp (x0,x1,x2,x3,x4,x5,x6,x7) (y0,y1,y2,y3,y4,y5,y6,y7) 0 (1,p0,p1,p2,p3,p4,p5,p6,p7)=some (.inl (2,p0,p1+x0*y1,p2,p3,p4,p5,p6,p7)):=by
 show some (aB (zH zI (1+1),p0,zH zI (p1+zH zI (x0*y1)),p2,p3,p4,p5,p6,p7))=_;rw[(oW hp hx hy).1];rfl
theorem cJ1 (hp:0≤p2∧p2≤1000000)(hx:By x0)(hy:By y2):bp (x0,x1,x2,x3,x4,x5,x6,x7) (y0,y1,y2,y3,y4,y5,y6,y7) 0 (2,p0,p1,p2,p3,p4,p5,p6,p7)=some (.inl (3,p0,p1,p2+x0*y2,p3,p4,p5,p6,p7)):=by
 show some (aB (zH zI (2+1),p0,p1,zH zI (p2+zH zI (x0*y2)),p3,p4,p5,p6,p7))=_;rw[(oW hp hx hy).1];rfl
theorem cJ2 (hp:0≤p3∧p3≤1000000)(hx:By x0)(hy:By y3):bp (x0,x1,x2,x3,x4,x5,x6,x7) (y0,y1,y2,y3,y4,y5,y6,y7) 0 (3,p0,p1,p2,p3,p4,p5,p6,p7)=some (.inl (4,p0,p1,p2,p3+x0*y3,p4,p5,p6,p7)):=by
 show some (aB (zH zI (3+1),p0,p1,p2,zH zI (p3+zH zI (x0*y3)),p4,p5,p6,p7))=_;rw[(oW hp hx hy).1];rfl
theorem cJ3 (hp:0≤p4∧p4≤1000000)(hx:By x0)(hy:By y4):bp (x0,x1,x2,x3,x4,x5,x6,x7) (y0,y1,y2,y3,y4,y5,y6,y7) 0 (4,p0,p1,p2,p3,p4,p5,p6,p7)=some (.inl (5,p0,p1,p2,p3,p4+x0*y4,p5,p6,p7)):=by
 show some (aB (zH zI (4+1),p0,p1,p2,p3,zH zI (p4+zH zI (x0*y4)),p5,p6,p7))=_;rw[(oW hp hx hy).1];rfl
theorem cJ4 (hp:0≤p5∧p5≤1000000)(hx:By x0)(hy:By y5):bp (x0,x1,x2,x3,x4,x5,x6,x7) (y0,y1,y2,y3,y4,y5,y6,y7) 0 (5,p0,p1,p2,p3,p4,p5,p6,p7)=some (.inl (6,p0,p1,p2,p3,p4,p5+x0*y5,p6,p7)):=by
 show some (aB (zH zI (5+1),p0,p1,p2,p3,p4,zH zI (p5+zH zI (x0*y5)),p6,p7))=_;rw[(oW hp hx hy).1];rfl
theorem cJ5 (hp:0≤p6∧p6≤1000000)(hx:By x0)(hy:By y6):bp (x0,x1,x2,x3,x4,x5,x6,x7) (y0,y1,y2,y3,y4,y5,y6,y7) 0 (6,p0,p1,p2,p3,p4,p5,p6,p7)=some (.inl (7,p0,p1,p2,p3,p4,p5,p6+x0*y6,p7)):=by
 show some (aB (zH zI (6+1),p0,p1,p2,p3,p4,p5,zH zI (p6+zH zI (x0*y6)),p7))=_;rw[(oW hp hx hy).1];rfl
theorem cJ6 (hp:0≤p7∧p7≤1000000)(hx:By x0)(hy:By y7):bp (x0,x1,x2,x3,x4,x5,x6,x7) (y0,y1,y2,y3,y4,y5,y6,y7) 0 (7,p0,p1,p2,p3,p4,p5,p6,p7)=some (.inl (8,p0,p1,p2,p3,p4,p5,p6,p7+x0*y7)):=by
 show some (aB (zH zI (7+1),p0,p1,p2,p3,p4,p5,p6,zH zI (p7+zH zI (x0*y7))))=_;rw[(oW hp hx hy).1];rfl
theorem cZ8 (h0:0≤p0∧p0≤1000000)(h1:0≤p1∧p1≤1000000)(h2:0≤p2∧p2≤1000000)(h3:0≤p3∧p3≤1000000)(h4:0≤p4∧p4≤1000000)(h5:0≤p5∧p5≤1000000)(h6:0≤p6∧p6≤1000000)(h7:0≤p7∧p7≤1000000)(hx:By x0)(k0:By y0)(k1:By y1)(k2:By y2)(k3:By y3)(k4:By y4)(k5:By y5)(k6:By y6)(k7:By y7):fg (x0,x1,x2,x3,x4,x5,x6,x7) (y0,y1,y2,y3,y4,y5,y6,y7) (0,p0,p1,p2,p3,p4,p5,p6,p7)=some (.inl (1,p0+x0*y0,p1+x0*y1,p2+x0*y2,p3+x0*y3,p4+x0*y4,p5+x0*y5,p6+x0*y6,p7+x0*y7)):=by
 have key:bw (bp (x0,x1,x2,x3,x4,x5,x6,x7) (y0,y1,y2,y3,y4,y5,y6,y7) 0) fa (0,p0,p1,p2,p3,p4,p5,p6,p7)=some (p0+x0*y0,p1+x0*y1,p2+x0*y2,p3+x0*y3,p4+x0*y4,p5+x0*y5,p6+x0*y6,p7+x0*y7):=gr ((((((((Reach.one (cI9 h0 hx k0)).trans (Reach.one (cJ0 h1 hx k1))).trans (Reach.one (cJ1 h2 hx k2))).trans (Reach.one (cJ2 h3 hx k3))).trans (Reach.one (cJ3 h4 hx k4))).trans (Reach.one (cJ4 h5 hx k5))).trans (Reach.one (cJ5 h6 hx k6))).trans (Reach.one (cJ6 h7 hx k7))) (by decide) rfl;show(bw (bp (x0,x1,x2,x3,x4,x5,x6,x7) (y0,y1,y2,y3,y4,y5,y6,y7) 0) fa (0,p0,p1,p2,p3,p4,p5,p6,p7)).bind (fun r=>some (aB (zH zI (0+1),r.1,r.2.1,r.2.2.1,r.2.2.2.1,r.2.2.2.2.1,r.2.2.2.2.2.1,r.2.2.2.2.2.2.1,r.2.2.2.2.2.2.2)))=_;rw[key];rfl
theorem cJ7 (hp:0≤p1∧p1≤1000000)(hx:By x1)(hy:By y0):bp (x0,x1,x2,x3,x4,x5,x6,x7) (y0,y1,y2,y3,y4,y5,y6,y7) 1 (0,p0,p1,p2,p3,p4,p5,p6,p7)=some (.inl (1,p0,p1+x1*y0,p2,p3,p4,p5,p6,p7)):=by
 show some (aB (zH zI (0+1),p0,zH zI (p1+zH zI (x1*y0)),p2,p3,p4,p5,p6,p7))=_;rw[(oW hp hx hy).1];rfl
theorem cJ8 (hp:0≤p2∧p2≤1000000)(hx:By x1)(hy:By y1):bp (x0,x1,x2,x3,x4,x5,x6,x7) (y0,y1,y2,y3,y4,y5,y6,y7) 1 (1,p0,p1,p2,p3,p4,p5,p6,p7)=some (.inl (2,p0,p1,p2+x1*y1,p3,p4,p5,p6,p7)):=by
 show some (aB (zH zI (1+1),p0,p1,zH zI (p2+zH zI (x1*y1)),p3,p4,p5,p6,p7))=_;rw[(oW hp hx hy).1];rfl
theorem cJ9 (hp:0≤p3∧p3≤1000000)(hx:By x1)(hy:By y2):bp (x0,x1,x2,x3,x4,x5,x6,x7) (y0,y1,y2,y3,y4,y5,y6,y7) 1 (2,p0,p1,p2,p3,p4,p5,p6,p7)=some (.inl (3,p0,p1,p2,p3+x1*y2,p4,p5,p6,p7)):=by
 show some (aB (zH zI (2+1),p0,p1,p2,zH zI (p3+zH zI (x1*y2)),p4,p5,p6,p7))=_;rw[(oW hp hx hy).1];rfl
theorem cK0 (hp:0≤p4∧p4≤1000000)(hx:By x1)(hy:By y3):bp (x0,x1,x2,x3,x4,x5,x6,x7) (y0,y1,y2,y3,y4,y5,y6,y7) 1 (3,p0,p1,p2,p3,p4,p5,p6,p7)=some (.inl (4,p0,p1,p2,p3,p4+x1*y3,p5,p6,p7)):=by
 show some (aB (zH zI (3+1),p0,p1,p2,p3,zH zI (p4+zH zI (x1*y3)),p5,p6,p7))=_;rw[(oW hp hx hy).1];rfl
theorem cK1 (hp:0≤p5∧p5≤1000000)(hx:By x1)(hy:By y4):bp (x0,x1,x2,x3,x4,x5,x6,x7) (y0,y1,y2,y3,y4,y5,y6,y7) 1 (4,p0,p1,p2,p3,p4,p5,p6,p7)=some (.inl (5,p0,p1,p2,p3,p4,p5+x1*y4,p6,p7)):=by
 show some (aB (zH zI (4+1),p0,p1,p2,p3,p4,zH zI (p5+zH zI (x1*y4)),p6,p7))=_;rw[(oW hp hx hy).1];rfl
theorem cK2 (hp:0≤p6∧p6≤1000000)(hx:By x1)(hy:By y5):bp (x0,x1,x2,x3,x4,x5,x6,x7) (y0,y1,y2,y3,y4,y5,y6,y7) 1 (5,p0,p1,p2,p3,p4,p5,p6,p7)=some (.inl (6,p0,p1,p2,p3,p4,p5,p6+x1*y5,p7)):=by
 show some (aB (zH zI (5+1),p0,p1,p2,p3,p4,p5,zH zI (p6+zH zI (x1*y5)),p7))=_;rw[(oW hp hx hy).1];rfl
theorem cK3 (hp:0≤p7∧p7≤1000000)(hx:By x1)(hy:By y6):bp (x0,x1,x2,x3,x4,x5,x6,x7) (y0,y1,y2,y3,y4,y5,y6,y7) 1 (6,p0,p1,p2,p3,p4,p5,p6,p7)=some (.inl (7,p0,p1,p2,p3,p4,p5,p6,p7+x1*y6)):=by
 show some (aB (zH zI (6+1),p0,p1,p2,p3,p4,p5,p6,zH zI (p7+zH zI (x1*y6))))=_;rw[(oW hp hx hy).1];rfl
theorem cZ9 (h1:0≤p1∧p1≤1000000)(h2:0≤p2∧p2≤1000000)(h3:0≤p3∧p3≤1000000)(h4:0≤p4∧p4≤1000000)(h5:0≤p5∧p5≤1000000)(h6:0≤p6∧p6≤1000000)(h7:0≤p7∧p7≤1000000)(hx:By x1)(k0:By y0)(k1:By y1)(k2:By y2)(k3:By y3)(k4:By y4)(k5:By y5)(k6:By y6):fg (x0,x1,x2,x3,x4,x5,x6,x7) (y0,y1,y2,y3,y4,y5,y6,y7) (1,p0,p1,p2,p3,p4,p5,p6,p7)=some (.inl (2,p0,p1+x1*y0,p2+x1*y1,p3+x1*y2,p4+x1*y3,p5+x1*y4,p6+x1*y5,p7+x1*y6)):=by
 have key:bw (bp (x0,x1,x2,x3,x4,x5,x6,x7) (y0,y1,y2,y3,y4,y5,y6,y7) 1) fa (0,p0,p1,p2,p3,p4,p5,p6,p7)=some (p0,p1+x1*y0,p2+x1*y1,p3+x1*y2,p4+x1*y3,p5+x1*y4,p6+x1*y5,p7+x1*y6):=gr (((((((Reach.one (cJ7 h1 hx k0)).trans (Reach.one (cJ8 h2 hx k1))).trans (Reach.one (cJ9 h3 hx k2))).trans (Reach.one (cK0 h4 hx k3))).trans (Reach.one (cK1 h5 hx k4))).trans (Reach.one (cK2 h6 hx k5))).trans (Reach.one (cK3 h7 hx k6))) (by decide) rfl;show(bw (bp (x0,x1,x2,x3,x4,x5,x6,x7) (y0,y1,y2,y3,y4,y5,y6,y7) 1) fa (0,p0,p1,p2,p3,p4,p5,p6,p7)).bind (fun r=>some (aB (zH zI (1+1),r.1,r.2.1,r.2.2.1,r.2.2.2.1,r.2.2.2.2.1,r.2.2.2.2.2.1,r.2.2.2.2.2.2.1,r.2.2.2.2.2.2.2)))=_;rw[key];rfl
theorem cK4 (hp:0≤p2∧p2≤1000000)(hx:By x2)(hy:By y0):bp (x0,x1,x2,x3,x4,x5,x6,x7) (y0,y1,y2,y3,y4,y5,y6,y7) 2 (0,p0,p1,p2,p3,p4,p5,p6,p7)=some (.inl (1,p0,p1,p2+x2*y0,p3,p4,p5,p6,p7)):=by
 show some (aB (zH zI (0+1),p0,p1,zH zI (p2+zH zI (x2*y0)),p3,p4,p5,p6,p7))=_;rw[(oW hp hx hy).1];rfl
theorem cK5 (hp:0≤p3∧p3≤1000000)(hx:By x2)(hy:By y1):bp (x0,x1,x2,x3,x4,x5,x6,x7) (y0,y1,y2,y3,y4,y5,y6,y7) 2 (1,p0,p1,p2,p3,p4,p5,p6,p7)=some (.inl (2,p0,p1,p2,p3+x2*y1,p4,p5,p6,p7)):=by
 show some (aB (zH zI (1+1),p0,p1,p2,zH zI (p3+zH zI (x2*y1)),p4,p5,p6,p7))=_;rw[(oW hp hx hy).1];rfl
theorem cK6 (hp:0≤p4∧p4≤1000000)(hx:By x2)(hy:By y2):bp (x0,x1,x2,x3,x4,x5,x6,x7) (y0,y1,y2,y3,y4,y5,y6,y7) 2 (2,p0,p1,p2,p3,p4,p5,p6,p7)=some (.inl (3,p0,p1,p2,p3,p4+x2*y2,p5,p6,p7)):=by
 show some (aB (zH zI (2+1),p0,p1,p2,p3,zH zI (p4+zH zI (x2*y2)),p5,p6,p7))=_;rw[(oW hp hx hy).1];rfl
theorem cK7 (hp:0≤p5∧p5≤1000000)(hx:By x2)(hy:By y3):bp (x0,x1,x2,x3,x4,x5,x6,x7) (y0,y1,y2,y3,y4,y5,y6,y7) 2 (3,p0,p1,p2,p3,p4,p5,p6,p7)=some (.inl (4,p0,p1,p2,p3,p4,p5+x2*y3,p6,p7)):=by
 show some (aB (zH zI (3+1),p0,p1,p2,p3,p4,zH zI (p5+zH zI (x2*y3)),p6,p7))=_;rw[(oW hp hx hy).1];rfl
theorem cK8 (hp:0≤p6∧p6≤1000000)(hx:By x2)(hy:By y4):bp (x0,x1,x2,x3,x4,x5,x6,x7) (y0,y1,y2,y3,y4,y5,y6,y7) 2 (4,p0,p1,p2,p3,p4,p5,p6,p7)=some (.inl (5,p0,p1,p2,p3,p4,p5,p6+x2*y4,p7)):=by
 show some (aB (zH zI (4+1),p0,p1,p2,p3,p4,p5,zH zI (p6+zH zI (x2*y4)),p7))=_;rw[(oW hp hx hy).1];rfl
theorem cK9 (hp:0≤p7∧p7≤1000000)(hx:By x2)(hy:By y5):bp (x0,x1,x2,x3,x4,x5,x6,x7) (y0,y1,y2,y3,y4,y5,y6,y7) 2 (5,p0,p1,p2,p3,p4,p5,p6,p7)=some (.inl (6,p0,p1,p2,p3,p4,p5,p6,p7+x2*y5)):=by
 show some (aB (zH zI (5+1),p0,p1,p2,p3,p4,p5,p6,zH zI (p7+zH zI (x2*y5))))=_;rw[(oW hp hx hy).1];rfl
theorem da0 (h2:0≤p2∧p2≤1000000)(h3:0≤p3∧p3≤1000000)(h4:0≤p4∧p4≤1000000)(h5:0≤p5∧p5≤1000000)(h6:0≤p6∧p6≤1000000)(h7:0≤p7∧p7≤1000000)(hx:By x2)(k0:By y0)(k1:By y1)(k2:By y2)(k3:By y3)(k4:By y4)(k5:By y5):fg (x0,x1,x2,x3,x4,x5,x6,x7) (y0,y1,y2,y3,y4,y5,y6,y7) (2,p0,p1,p2,p3,p4,p5,p6,p7)=some (.inl (3,p0,p1,p2+x2*y0,p3+x2*y1,p4+x2*y2,p5+x2*y3,p6+x2*y4,p7+x2*y5)):=by
 have key:bw (bp (x0,x1,x2,x3,x4,x5,x6,x7) (y0,y1,y2,y3,y4,y5,y6,y7) 2) fa (0,p0,p1,p2,p3,p4,p5,p6,p7)=some (p0,p1,p2+x2*y0,p3+x2*y1,p4+x2*y2,p5+x2*y3,p6+x2*y4,p7+x2*y5):=gr ((((((Reach.one (cK4 h2 hx k0)).trans (Reach.one (cK5 h3 hx k1))).trans (Reach.one (cK6 h4 hx k2))).trans (Reach.one (cK7 h5 hx k3))).trans (Reach.one (cK8 h6 hx k4))).trans (Reach.one (cK9 h7 hx k5))) (by decide) rfl;show(bw (bp (x0,x1,x2,x3,x4,x5,x6,x7) (y0,y1,y2,y3,y4,y5,y6,y7) 2) fa (0,p0,p1,p2,p3,p4,p5,p6,p7)).bind (fun r=>some (aB (zH zI (2+1),r.1,r.2.1,r.2.2.1,r.2.2.2.1,r.2.2.2.2.1,r.2.2.2.2.2.1,r.2.2.2.2.2.2.1,r.2.2.2.2.2.2.2)))=_;rw[key];rfl
theorem cL0 (hp:0≤p3∧p3≤1000000)(hx:By x3)(hy:By y0):bp (x0,x1,x2,x3,x4,x5,x6,x7) (y0,y1,y2,y3,y4,y5,y6,y7) 3 (0,p0,p1,p2,p3,p4,p5,p6,p7)=some (.inl (1,p0,p1,p2,p3+x3*y0,p4,p5,p6,p7)):=by
 show some (aB (zH zI (0+1),p0,p1,p2,zH zI (p3+zH zI (x3*y0)),p4,p5,p6,p7))=_;rw[(oW hp hx hy).1];rfl
theorem cL1 (hp:0≤p4∧p4≤1000000)(hx:By x3)(hy:By y1):bp (x0,x1,x2,x3,x4,x5,x6,x7) (y0,y1,y2,y3,y4,y5,y6,y7) 3 (1,p0,p1,p2,p3,p4,p5,p6,p7)=some (.inl (2,p0,p1,p2,p3,p4+x3*y1,p5,p6,p7)):=by
 show some (aB (zH zI (1+1),p0,p1,p2,p3,zH zI (p4+zH zI (x3*y1)),p5,p6,p7))=_;rw[(oW hp hx hy).1];rfl
theorem cL2 (hp:0≤p5∧p5≤1000000)(hx:By x3)(hy:By y2):bp (x0,x1,x2,x3,x4,x5,x6,x7) (y0,y1,y2,y3,y4,y5,y6,y7) 3 (2,p0,p1,p2,p3,p4,p5,p6,p7)=some (.inl (3,p0,p1,p2,p3,p4,p5+x3*y2,p6,p7)):=by
 show some (aB (zH zI (2+1),p0,p1,p2,p3,p4,zH zI (p5+zH zI (x3*y2)),p6,p7))=_;rw[(oW hp hx hy).1];rfl
theorem cL3 (hp:0≤p6∧p6≤1000000)(hx:By x3)(hy:By y3):bp (x0,x1,x2,x3,x4,x5,x6,x7) (y0,y1,y2,y3,y4,y5,y6,y7) 3 (3,p0,p1,p2,p3,p4,p5,p6,p7)=some (.inl (4,p0,p1,p2,p3,p4,p5,p6+x3*y3,p7)):=by
 show some (aB (zH zI (3+1),p0,p1,p2,p3,p4,p5,zH zI (p6+zH zI (x3*y3)),p7))=_;rw[(oW hp hx hy).1];rfl
theorem cL4 (hp:0≤p7∧p7≤1000000)(hx:By x3)(hy:By y4):bp (x0,x1,x2,x3,x4,x5,x6,x7) (y0,y1,y2,y3,y4,y5,y6,y7) 3 (4,p0,p1,p2,p3,p4,p5,p6,p7)=some (.inl (5,p0,p1,p2,p3,p4,p5,p6,p7+x3*y4)):=by
 show some (aB (zH zI (4+1),p0,p1,p2,p3,p4,p5,p6,zH zI (p7+zH zI (x3*y4))))=_;rw[(oW hp hx hy).1];rfl
theorem da1 (h3:0≤p3∧p3≤1000000)(h4:0≤p4∧p4≤1000000)(h5:0≤p5∧p5≤1000000)(h6:0≤p6∧p6≤1000000)(h7:0≤p7∧p7≤1000000)(hx:By x3)(k0:By y0)(k1:By y1)(k2:By y2)(k3:By y3)(k4:By y4):fg (x0,x1,x2,x3,x4,x5,x6,x7) (y0,y1,y2,y3,y4,y5,y6,y7) (3,p0,p1,p2,p3,p4,p5,p6,p7)=some (.inl (4,p0,p1,p2,p3+x3*y0,p4+x3*y1,p5+x3*y2,p6+x3*y3,p7+x3*y4)):=by
 have key:bw (bp (x0,x1,x2,x3,x4,x5,x6,x7) (y0,y1,y2,y3,y4,y5,y6,y7) 3) fa (0,p0,p1,p2,p3,p4,p5,p6,p7)=some (p0,p1,p2,p3+x3*y0,p4+x3*y1,p5+x3*y2,p6+x3*y3,p7+x3*y4):=gr (((((Reach.one (cL0 h3 hx k0)).trans (Reach.one (cL1 h4 hx k1))).trans (Reach.one (cL2 h5 hx k2))).trans (Reach.one (cL3 h6 hx k3))).trans (Reach.one (cL4 h7 hx k4))) (by decide) rfl;show(bw (bp (x0,x1,x2,x3,x4,x5,x6,x7) (y0,y1,y2,y3,y4,y5,y6,y7) 3) fa (0,p0,p1,p2,p3,p4,p5,p6,p7)).bind (fun r=>some (aB (zH zI (3+1),r.1,r.2.1,r.2.2.1,r.2.2.2.1,r.2.2.2.2.1,r.2.2.2.2.2.1,r.2.2.2.2.2.2.1,r.2.2.2.2.2.2.2)))=_;rw[key];rfl
theorem cL5 (hp:0≤p4∧p4≤1000000)(hx:By x4)(hy:By y0):bp (x0,x1,x2,x3,x4,x5,x6,x7) (y0,y1,y2,y3,y4,y5,y6,y7) 4 (0,p0,p1,p2,p3,p4,p5,p6,p7)=some (.inl (1,p0,p1,p2,p3,p4+x4*y0,p5,p6,p7)):=by
 show some (aB (zH zI (0+1),p0,p1,p2,p3,zH zI (p4+zH zI (x4*y0)),p5,p6,p7))=_;rw[(oW hp hx hy).1];rfl
theorem cL6 (hp:0≤p5∧p5≤1000000)(hx:By x4)(hy:By y1):bp (x0,x1,x2,x3,x4,x5,x6,x7) (y0,y1,y2,y3,y4,y5,y6,y7) 4 (1,p0,p1,p2,p3,p4,p5,p6,p7)=some (.inl (2,p0,p1,p2,p3,p4,p5+x4*y1,p6,p7)):=by
 show some (aB (zH zI (1+1),p0,p1,p2,p3,p4,zH zI (p5+zH zI (x4*y1)),p6,p7))=_;rw[(oW hp hx hy).1];rfl
theorem cL7 (hp:0≤p6∧p6≤1000000)(hx:By x4)(hy:By y2):bp (x0,x1,x2,x3,x4,x5,x6,x7) (y0,y1,y2,y3,y4,y5,y6,y7) 4 (2,p0,p1,p2,p3,p4,p5,p6,p7)=some (.inl (3,p0,p1,p2,p3,p4,p5,p6+x4*y2,p7)):=by
 show some (aB (zH zI (2+1),p0,p1,p2,p3,p4,p5,zH zI (p6+zH zI (x4*y2)),p7))=_;rw[(oW hp hx hy).1];rfl
theorem cL8 (hp:0≤p7∧p7≤1000000)(hx:By x4)(hy:By y3):bp (x0,x1,x2,x3,x4,x5,x6,x7) (y0,y1,y2,y3,y4,y5,y6,y7) 4 (3,p0,p1,p2,p3,p4,p5,p6,p7)=some (.inl (4,p0,p1,p2,p3,p4,p5,p6,p7+x4*y3)):=by
 show some (aB (zH zI (3+1),p0,p1,p2,p3,p4,p5,p6,zH zI (p7+zH zI (x4*y3))))=_;rw[(oW hp hx hy).1];rfl
theorem da2 (h4:0≤p4∧p4≤1000000)(h5:0≤p5∧p5≤1000000)(h6:0≤p6∧p6≤1000000)(h7:0≤p7∧p7≤1000000)(hx:By x4)(k0:By y0)(k1:By y1)(k2:By y2)(k3:By y3):fg (x0,x1,x2,x3,x4,x5,x6,x7) (y0,y1,y2,y3,y4,y5,y6,y7) (4,p0,p1,p2,p3,p4,p5,p6,p7)=some (.inl (5,p0,p1,p2,p3,p4+x4*y0,p5+x4*y1,p6+x4*y2,p7+x4*y3)):=by
 have key:bw (bp (x0,x1,x2,x3,x4,x5,x6,x7) (y0,y1,y2,y3,y4,y5,y6,y7) 4) fa (0,p0,p1,p2,p3,p4,p5,p6,p7)=some (p0,p1,p2,p3,p4+x4*y0,p5+x4*y1,p6+x4*y2,p7+x4*y3):=gr ((((Reach.one (cL5 h4 hx k0)).trans (Reach.one (cL6 h5 hx k1))).trans (Reach.one (cL7 h6 hx k2))).trans (Reach.one (cL8 h7 hx k3))) (by decide) rfl;show(bw (bp (x0,x1,x2,x3,x4,x5,x6,x7) (y0,y1,y2,y3,y4,y5,y6,y7) 4) fa (0,p0,p1,p2,p3,p4,p5,p6,p7)).bind (fun r=>some (aB (zH zI (4+1),r.1,r.2.1,r.2.2.1,r.2.2.2.1,r.2.2.2.2.1,r.2.2.2.2.2.1,r.2.2.2.2.2.2.1,r.2.2.2.2.2.2.2)))=_;rw[key];rfl
theorem cL9 (hp:0≤p5∧p5≤1000000)(hx:By x5)(hy:By y0):bp (x0,x1,x2,x3,x4,x5,x6,x7) (y0,y1,y2,y3,y4,y5,y6,y7) 5 (0,p0,p1,p2,p3,p4,p5,p6,p7)=some (.inl (1,p0,p1,p2,p3,p4,p5+x5*y0,p6,p7)):=by
 show some (aB (zH zI (0+1),p0,p1,p2,p3,p4,zH zI (p5+zH zI (x5*y0)),p6,p7))=_;rw[(oW hp hx hy).1];rfl
theorem cM0 (hp:0≤p6∧p6≤1000000)(hx:By x5)(hy:By y1):bp (x0,x1,x2,x3,x4,x5,x6,x7) (y0,y1,y2,y3,y4,y5,y6,y7) 5 (1,p0,p1,p2,p3,p4,p5,p6,p7)=some (.inl (2,p0,p1,p2,p3,p4,p5,p6+x5*y1,p7)):=by
 show some (aB (zH zI (1+1),p0,p1,p2,p3,p4,p5,zH zI (p6+zH zI (x5*y1)),p7))=_;rw[(oW hp hx hy).1];rfl
theorem cM1 (hp:0≤p7∧p7≤1000000)(hx:By x5)(hy:By y2):bp (x0,x1,x2,x3,x4,x5,x6,x7) (y0,y1,y2,y3,y4,y5,y6,y7) 5 (2,p0,p1,p2,p3,p4,p5,p6,p7)=some (.inl (3,p0,p1,p2,p3,p4,p5,p6,p7+x5*y2)):=by
 show some (aB (zH zI (2+1),p0,p1,p2,p3,p4,p5,p6,zH zI (p7+zH zI (x5*y2))))=_;rw[(oW hp hx hy).1];rfl
theorem da3 (h5:0≤p5∧p5≤1000000)(h6:0≤p6∧p6≤1000000)(h7:0≤p7∧p7≤1000000)(hx:By x5)(k0:By y0)(k1:By y1)(k2:By y2):fg (x0,x1,x2,x3,x4,x5,x6,x7) (y0,y1,y2,y3,y4,y5,y6,y7) (5,p0,p1,p2,p3,p4,p5,p6,p7)=some (.inl (6,p0,p1,p2,p3,p4,p5+x5*y0,p6+x5*y1,p7+x5*y2)):=by
 have key:bw (bp (x0,x1,x2,x3,x4,x5,x6,x7) (y0,y1,y2,y3,y4,y5,y6,y7) 5) fa (0,p0,p1,p2,p3,p4,p5,p6,p7)=some (p0,p1,p2,p3,p4,p5+x5*y0,p6+x5*y1,p7+x5*y2):=gr (((Reach.one (cL9 h5 hx k0)).trans (Reach.one (cM0 h6 hx k1))).trans (Reach.one (cM1 h7 hx k2))) (by decide) rfl;show(bw (bp (x0,x1,x2,x3,x4,x5,x6,x7) (y0,y1,y2,y3,y4,y5,y6,y7) 5) fa (0,p0,p1,p2,p3,p4,p5,p6,p7)).bind (fun r=>some (aB (zH zI (5+1),r.1,r.2.1,r.2.2.1,r.2.2.2.1,r.2.2.2.2.1,r.2.2.2.2.2.1,r.2.2.2.2.2.2.1,r.2.2.2.2.2.2.2)))=_;rw[key];rfl
theorem cM2 (hp:0≤p6∧p6≤1000000)(hx:By x6)(hy:By y0):bp (x0,x1,x2,x3,x4,x5,x6,x7) (y0,y1,y2,y3,y4,y5,y6,y7) 6 (0,p0,p1,p2,p3,p4,p5,p6,p7)=some (.inl (1,p0,p1,p2,p3,p4,p5,p6+x6*y0,p7)):=by
 show some (aB (zH zI (0+1),p0,p1,p2,p3,p4,p5,zH zI (p6+zH zI (x6*y0)),p7))=_;rw[(oW hp hx hy).1];rfl
theorem cM3 (hp:0≤p7∧p7≤1000000)(hx:By x6)(hy:By y1):bp (x0,x1,x2,x3,x4,x5,x6,x7) (y0,y1,y2,y3,y4,y5,y6,y7) 6 (1,p0,p1,p2,p3,p4,p5,p6,p7)=some (.inl (2,p0,p1,p2,p3,p4,p5,p6,p7+x6*y1)):=by
 show some (aB (zH zI (1+1),p0,p1,p2,p3,p4,p5,p6,zH zI (p7+zH zI (x6*y1))))=_;rw[(oW hp hx hy).1];rfl
theorem da4 (h6:0≤p6∧p6≤1000000)(h7:0≤p7∧p7≤1000000)(hx:By x6)(k0:By y0)(k1:By y1):fg (x0,x1,x2,x3,x4,x5,x6,x7) (y0,y1,y2,y3,y4,y5,y6,y7) (6,p0,p1,p2,p3,p4,p5,p6,p7)=some (.inl (7,p0,p1,p2,p3,p4,p5,p6+x6*y0,p7+x6*y1)):=by
 have key:bw (bp (x0,x1,x2,x3,x4,x5,x6,x7) (y0,y1,y2,y3,y4,y5,y6,y7) 6) fa (0,p0,p1,p2,p3,p4,p5,p6,p7)=some (p0,p1,p2,p3,p4,p5,p6+x6*y0,p7+x6*y1):=gr ((Reach.one (cM2 h6 hx k0)).trans (Reach.one (cM3 h7 hx k1))) (by decide) rfl;show(bw (bp (x0,x1,x2,x3,x4,x5,x6,x7) (y0,y1,y2,y3,y4,y5,y6,y7) 6) fa (0,p0,p1,p2,p3,p4,p5,p6,p7)).bind (fun r=>some (aB (zH zI (6+1),r.1,r.2.1,r.2.2.1,r.2.2.2.1,r.2.2.2.2.1,r.2.2.2.2.2.1,r.2.2.2.2.2.2.1,r.2.2.2.2.2.2.2)))=_;rw[key];rfl
theorem cM4 (hp:0≤p7∧p7≤1000000)(hx:By x7)(hy:By y0):bp (x0,x1,x2,x3,x4,x5,x6,x7) (y0,y1,y2,y3,y4,y5,y6,y7) 7 (0,p0,p1,p2,p3,p4,p5,p6,p7)=some (.inl (1,p0,p1,p2,p3,p4,p5,p6,p7+x7*y0)):=by
 show some (aB (zH zI (0+1),p0,p1,p2,p3,p4,p5,p6,zH zI (p7+zH zI (x7*y0))))=_;rw[(oW hp hx hy).1];rfl
theorem da5 (h7:0≤p7∧p7≤1000000)(hx:By x7)(k0:By y0):fg (x0,x1,x2,x3,x4,x5,x6,x7) (y0,y1,y2,y3,y4,y5,y6,y7) (7,p0,p1,p2,p3,p4,p5,p6,p7)=some (.inl (8,p0,p1,p2,p3,p4,p5,p6,p7+x7*y0)):=by
 have key:bw (bp (x0,x1,x2,x3,x4,x5,x6,x7) (y0,y1,y2,y3,y4,y5,y6,y7) 7) fa (0,p0,p1,p2,p3,p4,p5,p6,p7)=some (p0,p1,p2,p3,p4,p5,p6,p7+x7*y0):=gr (Reach.one (cM4 h7 hx k0)) (by decide) rfl;show(bw (bp (x0,x1,x2,x3,x4,x5,x6,x7) (y0,y1,y2,y3,y4,y5,y6,y7) 7) fa (0,p0,p1,p2,p3,p4,p5,p6,p7)).bind (fun r=>some (aB (zH zI (7+1),r.1,r.2.1,r.2.2.1,r.2.2.2.1,r.2.2.2.2.1,r.2.2.2.2.2.1,r.2.2.2.2.2.2.1,r.2.2.2.2.2.2.2)))=_;rw[key];rfl
theorem cE6 (x0 x1 x2 x3 x4 x5 x6 x7 y0 y1 y2 y3 y4 y5 y6 y7:Int):((0+x0*y0)+256*(0+x0*y1+x1*y0)+65536*(0+x0*y2+x1*y1+x2*y0)+16777216*(0+x0*y3+x1*y2+x2*y1+x3*y0)+4294967296*(0+x0*y4+x1*y3+x2*y2+x3*y1+x4*y0)+1099511627776*(0+x0*y5+x1*y4+x2*y3+x3*y2+x4*y1+x5*y0)+281474976710656*(0+x0*y6+x1*y5+x2*y4+x3*y3+x4*y2+x5*y1+x6*y0)+72057594037927936*(0+x0*y7+x1*y6+x2*y5+x3*y4+x4*y3+x5*y2+x6*y1+x7*y0)) % 18446744073709551616=((x0+256*x1+65536*x2+16777216*x3+4294967296*x4+1099511627776*x5+281474976710656*x6+72057594037927936*x7)*(y0+256*y1+65536*y2+16777216*y3+4294967296*y4+1099511627776*y5+281474976710656*y6+72057594037927936*y7)) % 18446744073709551616:=by
 have rows: ∀x:Int,x*(y0+256*y1+65536*y2+16777216*y3+4294967296*y4+1099511627776*y5+281474976710656*y6+72057594037927936*y7)=x*y0+256*(x*y1)+65536*(x*y2)+16777216*(x*y3)+4294967296*(x*y4)+1099511627776*(x*y5)+281474976710656*(x*y6)+72057594037927936*(x*y7):=fun x=>by
  rw[cB,cB,cB,cB,cB,cB,cB,dB x 256 y1,dB x 65536 y2,dB x 16777216 y3,dB x 4294967296 y4,dB x 1099511627776 y5,dB x 281474976710656 y6,dB x 72057594037927936 y7]
 have cols: ∀y:Int,(x0+256*x1+65536*x2+16777216*x3+4294967296*x4+1099511627776*x5+281474976710656*x6+72057594037927936*x7)*y=x0*y+256*(x1*y)+65536*(x2*y)+16777216*(x3*y)+4294967296*(x4*y)+1099511627776*(x5*y)+281474976710656*(x6*y)+72057594037927936*(x7*y):=fun y=>by
  rw[bD,bD,bD,bD,bD,bD,bD,cD 256 x1 y,cD 65536 x2 y,cD 16777216 x3 y,cD 4294967296 x4 y,cD 1099511627776 x5 y,cD 281474976710656 x6 y,cD 72057594037927936 x7 y]
 rw[cols,rows x0,rows x1,rows x2,rows x3,rows x4,rows x5,rows x6,rows x7];generalize x0*y0=z00;generalize x0*y1=z01;generalize x0*y2=z02;generalize x0*y3=z03;generalize x0*y4=z04;generalize x0*y5=z05;generalize x0*y6=z06;generalize x0*y7=z07;generalize x1*y0=z10;generalize x1*y1=z11;generalize x1*y2=z12;generalize x1*y3=z13;generalize x1*y4=z14;generalize x1*y5=z15;generalize x1*y6=z16;generalize x1*y7=z17;generalize x2*y0=z20;generalize x2*y1=z21;generalize x2*y2=z22;generalize x2*y3=z23;generalize x2*y4=z24;generalize x2*y5=z25;generalize x2*y6=z26;generalize x2*y7=z27;generalize x3*y0=z30;generalize x3*y1=z31;generalize x3*y2=z32;generalize x3*y3=z33;generalize x3*y4=z34;generalize x3*y5=z35;generalize x3*y6=z36;generalize x3*y7=z37;generalize x4*y0=z40;generalize x4*y1=z41;generalize x4*y2=z42;generalize x4*y3=z43;generalize x4*y4=z44;generalize x4*y5=z45;generalize x4*y6=z46;generalize x4*y7=z47;generalize x5*y0=z50;generalize x5*y1=z51;generalize x5*y2=z52;generalize x5*y3=z53;generalize x5*y4=z54
 generalize x5*y5=z55;generalize x5*y6=z56;generalize x5*y7=z57;generalize x6*y0=z60;generalize x6*y1=z61;generalize x6*y2=z62;generalize x6*y3=z63;generalize x6*y4=z64;generalize x6*y5=z65;generalize x6*y6=z66;generalize x6*y7=z67;generalize x7*y0=z70;generalize x7*y1=z71;generalize x7*y2=z72;generalize x7*y3=z73;generalize x7*y4=z74;generalize x7*y5=z75;generalize x7*y6=z76;generalize x7*y7=z77;refine(Int.add_mul_emod_self_right _ (1*z17+1*z26+256*z27+1*z35+256*z36+65536*z37+1*z44+256*z45+65536*z46+16777216*z47+1*z53+256*z54+65536*z55+16777216*z56+4294967296*z57+1*z62+256*z63+65536*z64+16777216*z65+4294967296*z66+1099511627776*z67+1*z71+256*z72+65536*z73+16777216*z74+4294967296*z75+1099511627776*z76+281474976710656*z77) _).symm.trans ?_
 congr 1
 omega
theorem ao5 {a b:Int}(ha:sX a)(hb:sX b):oG a b=some (zH zJ (a*b)):=by
 unfold oG;rw[yN ha,yN hb];simp only[zG,dgs];unfold sX at ha hb;have e: ∀x:Int,0≤x∧x<18446744073709551616→x=x % 256+256*(x / 256 % 256)+65536*(x / 65536 % 256)+16777216*(x / 16777216 % 256)+4294967296*(x / 4294967296 % 256)+1099511627776*(x / 1099511627776 % 256)+281474976710656*(x / 281474976710656 % 256)+72057594037927936*(x / 72057594037927936 % 256):=fun x h=>by omega
 have ea:=e a ha;have eb:=e b hb;rw[wU];clear e;have qa0:By (a % 256):=nG _;have qa1:By (a / 256 % 256):=nG _;have qa2:By (a / 65536 % 256):=nG _;have qa3:By (a / 16777216 % 256):=nG _;have qa4:By (a / 4294967296 % 256):=nG _;have qa5:By (a / 1099511627776 % 256):=nG _;have qa6:By (a / 281474976710656 % 256):=nG _;have qa7:By (a / 72057594037927936 % 256):=nG _;have qb0:By (b % 256):=nG _;have qb1:By (b / 256 % 256):=nG _;have qb2:By (b / 65536 % 256):=nG _;have qb3:By (b / 16777216 % 256):=nG _;have qb4:By (b / 4294967296 % 256):=nG _;have qb5:By (b / 1099511627776 % 256):=nG _;have qb6:By (b / 281474976710656 % 256):=nG _;have qb7:By (b / 72057594037927936 % 256):=nG _
 suffices hs: ∀x0 x1 x2 x3 x4 x5 x6 x7 y0 y1 y2 y3 y4 y5 y6 y7:Int,By x0→By x1→By x2→By x3→By x4→By x5→By x6→By x7→By y0→By y1→By y2→By y3→By y4→By y5→By y6→By y7→(bw (fg (x0,x1,x2,x3,x4,x5,x6,x7) (y0,y1,y2,y3,y4,y5,y6,y7)) fa (0,0,0,0,0,0,0,0,0)).bind (fun r29=>(lw r29.1 r29.2.1 r29.2.2.1 r29.2.2.2.1 r29.2.2.2.2.1 r29.2.2.2.2.2.1 r29.2.2.2.2.2.2.1 r29.2.2.2.2.2.2.2).bind fun r30=>some r30)=some (((x0+256*x1+65536*x2+16777216*x3+4294967296*x4+1099511627776*x5+281474976710656*x6+72057594037927936*x7)*(y0+256*y1+65536*y2+16777216*y3+4294967296*y4+1099511627776*y5+281474976710656*y6+72057594037927936*y7)) % 18446744073709551616)by
  have:=hs _ _ _ _ _ _ _ _ _ _ _ _ _ _ _ _ qa0 qa1 qa2 qa3 qa4 qa5 qa6 qa7 qb0 qb1 qb2 qb3 qb4 qb5 qb6 qb7;rw[←ea,←eb]at this;exact this
 clear ea eb ha hb qa0 qb0 qa1 qb1 qa2 qb2 qa3 qb3 qa4 qb4 qa5 qb5 qa6 qb6 qa7 qb7;intro x0 x1 x2 x3 x4 x5 x6 x7 y0 y1 y2 y3 y4 y5 y6 y7 hx0 hx1 hx2 hx3 hx4 hx5 hx6 hx7 hy0 hy1 hy2 hy3 hy4 hy5 hy6 hy7;have z00:=(oW (p:=0) (by omega) hx0 hy0).2;have z01:=(oW (p:=0) (by omega) hx0 hy1).2;have z02:=(oW (p:=0) (by omega) hx0 hy2).2;have z03:=(oW (p:=0) (by omega) hx0 hy3).2;have z04:=(oW (p:=0) (by omega) hx0 hy4).2;have z05:=(oW (p:=0) (by omega) hx0 hy5).2;have z06:=(oW (p:=0) (by omega) hx0 hy6).2;have z07:=(oW (p:=0) (by omega) hx0 hy7).2;have z10:=(oW (p:=0) (by omega) hx1 hy0).2;have z11:=(oW (p:=0) (by omega) hx1 hy1).2;have z12:=(oW (p:=0) (by omega) hx1 hy2).2;have z13:=(oW (p:=0) (by omega) hx1 hy3).2;have z14:=(oW (p:=0) (by omega) hx1 hy4).2;have z15:=(oW (p:=0) (by omega) hx1 hy5).2;have z16:=(oW (p:=0) (by omega) hx1 hy6).2;have z20:=(oW (p:=0) (by omega) hx2 hy0).2;have z21:=(oW (p:=0) (by omega) hx2 hy1).2;have z22:=(oW (p:=0) (by omega) hx2 hy2).2;have z23:=(oW (p:=0) (by omega) hx2 hy3).2
 have z24:=(oW (p:=0) (by omega) hx2 hy4).2;have z25:=(oW (p:=0) (by omega) hx2 hy5).2;have z30:=(oW (p:=0) (by omega) hx3 hy0).2;have z31:=(oW (p:=0) (by omega) hx3 hy1).2;have z32:=(oW (p:=0) (by omega) hx3 hy2).2;have z33:=(oW (p:=0) (by omega) hx3 hy3).2;have z34:=(oW (p:=0) (by omega) hx3 hy4).2;have z40:=(oW (p:=0) (by omega) hx4 hy0).2;have z41:=(oW (p:=0) (by omega) hx4 hy1).2;have z42:=(oW (p:=0) (by omega) hx4 hy2).2;have z43:=(oW (p:=0) (by omega) hx4 hy3).2;have z50:=(oW (p:=0) (by omega) hx5 hy0).2;have z51:=(oW (p:=0) (by omega) hx5 hy1).2;have z52:=(oW (p:=0) (by omega) hx5 hy2).2;have z60:=(oW (p:=0) (by omega) hx6 hy0).2;have z61:=(oW (p:=0) (by omega) hx6 hy1).2;have z70:=(oW (p:=0) (by omega) hx7 hy0).2;have key:bw (fg (x0,x1,x2,x3,x4,x5,x6,x7) (y0,y1,y2,y3,y4,y5,y6,y7)) fa (0,0,0,0,0,0,0,0,0)=some (0+x0*y0,0+x0*y1+x1*y0,0+x0*y2+x1*y1+x2*y0,0+x0*y3+x1*y2+x2*y1+x3*y0,0+x0*y4+x1*y3+x2*y2+x3*y1+x4*y0,0+x0*y5+x1*y4+x2*y3+x3*y2+x4*y1+x5*y0,0+x0*y6+x1*y5+x2*y4+x3*y3+x4*y2+x5*y1+x6*y0,0+x0*y7+x1*y6+x2*y5+x3*y4+x4*y3+x5*y2+x6*y1+x7*y0):=gr ((((((((Reach.one (cZ8 (by omega) (by omega) (by omega) (by omega) (by omega) (by omega) (by omega) (by omega) hx0 hy0 hy1 hy2 hy3 hy4 hy5 hy6 hy7)).trans (Reach.one (cZ9 (by omega) (by omega) (by omega) (by omega) (by omega) (by omega) (by omega) hx1 hy0 hy1 hy2 hy3 hy4 hy5 hy6))).trans (Reach.one (da0 (by omega) (by omega) (by omega) (by omega) (by omega) (by omega) hx2 hy0 hy1 hy2 hy3 hy4 hy5))).trans (Reach.one (da1 (by omega) (by omega) (by omega) (by omega) (by omega) hx3 hy0 hy1 hy2 hy3 hy4))).trans (Reach.one (da2 (by omega) (by omega) (by omega) (by omega) hx4 hy0 hy1 hy2 hy3))).trans (Reach.one (da3 (by omega) (by omega) (by omega) hx5 hy0 hy1 hy2))).trans (Reach.one (da4 (by omega) (by omega) hx6 hy0 hy1))).trans (Reach.one (da5 (by omega) hx7 hy0))) (by decide) rfl
 rw[key];simp only[zG];rw[aL6 (by unfold Sm;omega) (by unfold Sm;omega) (by unfold Sm;omega) (by unfold Sm;omega) (by unfold Sm;omega) (by unfold Sm;omega) (by unfold Sm;omega) (by unfold Sm;omega),←cE6];rfl
end
section
open List renaming replicate → aB, append_assoc → aD, getElem?_append_right → bD, append_nil → cD, getElem?_eq_getElem → fB, getElem_mem → fD
open Nat renaming le_refl → bB, sub_self → cB, add_zero → dB, mul_comm → dD, succ_mul → eD, eq_zero_or_pos → gB, le_mul_of_pos_left → gD, mul_le_mul_right → gN
theorem cP0 (k:Int): ∃x,il k=some (decide (1≤k∧k≤6),x):=by
 have h: ∀b c:Bool×Bool×Bool,∀p q:Bool,p=q→∃x,(some (p,b):Option (Bool×Bool×Bool×Bool))=some (q,x):=fun b _ p q e=>⟨b,by rw[e]⟩
 unfold il;simp only[br]
 repeat' split
 all_goals (simp only[zG,kg,dp,br])
 all_goals (repeat' split)
 all_goals (refine h _ (true,true,true) _ _ ?_;symm;first|exact zB (by omega)|exact zA (by omega))
section
variable {l:List cv} {R:Int} {f:Fo}
theorem bQ1 (hP:Prg R l f): ∃m S,ke l=some (0,m)∧MOK l m∧tq l=some (0,S)∧cc7 l m S:=by
 have hl:=hP.ops.len;have hs:cl l 0=some 0:=by rw[←hP.src];exact Fo.scan0 hP.ok
 rcases ao6 (l:=l) (by omega)with⟨_,m,hm,hM⟩|⟨h,_⟩
 ·obtain⟨r,hr,r1,r2,r3⟩:=aH4 (l:=l) (by omega) hP.ops.v;have hw:=hP.w;rcases r3 with⟨r3,_⟩|⟨_,_,r4,r5,r6⟩
  ·rw[hw]at r3;exact(r3 rfl).elim
  refine⟨m,r.2.2.1,hm,hM, ?_,cN6 hM r4 (fun o ho=>hP.ops.v o ho) r6⟩;unfold tq;rw[vK hl hP.ops.v,hw];simp only[zG];rw[zA (by simp),zD,hm];simp only[zG]
  have key:=fh (f:=pC l (0,m)) (n:=l.length) (fun i=>r.2.2.1.take i) (c:=r.2.2.1) (by omega)
   (fun i hi=>by
    obtain⟨a,b,h1,h2,h3⟩:=r6 i hi
    have hv:(if l[i].1=7 then(mL l m (i:Int))else some (if l[i].1=0 then 0 else 1))=some a:=by
     by_cases hk:l[i].1=7
     ·rw[zE hk];obtain⟨inner,e,rest,b',w,mi,q1,q2,q3,q4,q5,q6,q7,q8,q9,q10⟩:=ac0 hl hP.ops.v hM hs hi hk;obtain⟨h4,h5⟩:=(h3 hi).1 hk inner e rest q1 q2 q3;obtain⟨e1,e2⟩:=q10 _ h4;rw[q6,e1]
      have hb0:0≤b:=by
       obtain⟨w',w1,w2⟩: ∃w',az9 b=w'∧0≤w':=⟨w,e2.symm,q9⟩
       unfold az9 at w1;split at w1<;>omega
      rw[(aE0 hb0 (hP.ops.v _ (fD hi)).1 h5).1]
     ·rw[zF hk];obtain⟨_,h4⟩:=(h3 hi).2 hk;rw[h4]
    have hk0:0≤l[i].1∧l[i].1≤7:=by
     have: ∀(l:List cv) (d:Nat),cl l d≠none→∀o∈l,0≤o.1∧o.1≤7:=by
      intro l;induction l with
      |nil=>intro d _ o ho;cases ho
      |cons x l ih=>
       intro d hd o ho;simp only[cl]at hd;split at hd
       ·exact(hd rfl).elim
       rename_i hx;rcases List.mem_cons.1 ho with rfl|ho
       ·omega
       ·split at hd
        ·split at hd
         ·exact(hd rfl).elim
         ·exact ih _ hd o ho
        ·split at hd
         ·exact ih _ hd o ho
         ·exact ih _ hd o ho
     exact this l 0 (by rw[hs];simp) _ (fD hi)
    unfold pC;simp only[br];rw[zE (by omega),cq hi];simp only[zG]
    have hopt:(if l[i].1=7 then((mL l m (i:Int)).bind fun r7=>some r7)else((il l[i].1).bind fun r9=>cond r9.1 (some (1:Int)) (some 0)))=some a:=by
     by_cases hk:l[i].1=7
     ·rw[zE hk]at hv⊢;rw[hv];rfl
     ·rw[zF hk]at hv⊢;obtain⟨x,hx⟩:=cP0 l[i].1;rw[hx];simp only[zG];rw[←hv];by_cases h0:l[i].1=0
      ·rw[zE h0,zA (by omega)];rfl
      ·rw[zF h0,zB (by omega)];rfl
    rw[hopt];simp only[zG];rw[df (by rw[List.length_take];omega) (by omega),bm (by omega)]
    have:r.2.2.1.take (i+1)=r.2.2.1.take i++[a]:=by
     have hlt:i<r.2.2.1.length:=by omega
     rw[fB hlt]at h1;injection h1 with h1
     rw[List.take_succ_eq_append_getElem hlt,h1]
    rw[this,show(i:Int)+1=((i+1:Nat):Int)by omega])
   (by
    unfold pC
    rw[zA (by omega),zD,List.take_of_length_le (by omega)])
  rw[List.take_zero]at key;rw[key];rfl
 ·exact(h hs).elim
theorem bF0 {m S:List Int}{i:Nat}{out:List cv}(hl:l.length≤1000)(ho:out.length≤1000){x:cv}(hx:l[i]?=some x)(h:x.1≠7∨∃n,S[i]?=some n∧n≠0):
  kH l (0,m) (0,S) ((i:Int),out)=some (.inl (((i+1:Nat):Int),out++[x])):=by
 obtain⟨hi,hx'⟩:=List.getElem?_eq_some_iff.1 hx;unfold kH;simp only[br];rw[zE (by omega),cq hi,hx'];simp only[zG]
 have h9:(if x.1=7 then((ix (i:Int) S.length).bind fun j7=>(S[j7]?).bind fun x8=>if x8=0 then((ix (i:Int) m.length).bind fun j9=>(m[j9]?).bind fun x10=>some (.inl x10))else some (.inr (i:Int)))else some (.inr (i:Int)))=some (Sum.inr (i:Int):Int⊕Int):=by
  by_cases hk:x.1=7
  ·rcases h with h|⟨n,h1,h2⟩
   ·exact(h hk).elim
   rw[zE hk,ce (List.getElem?_eq_some_iff.1 h1).1];simp only[zG];rw[h1];simp only[zG];rw[zF h2]
  ·rw[zF hk]
 rw[h9];simp only[zG,dp];rw[cq hi,hx'];simp only[zG];rw[df (by omega) (by omega),bm (by omega)];rfl
theorem cH3 {m S:List Int}{i:Nat}{j:Nat}{out:List cv}(hl:l.length≤1000){x:cv}(hx:l[i]?=some x)(hk:x.1=7)(hs:S[i]?=some 0)(hm:m[i]?=some (j:Int))(hj:j≤1000):
  kH l (0,m) (0,S) ((i:Int),out)=some (.inl (((j+1:Nat):Int),out)):=by
 obtain⟨hi,hx'⟩:=List.getElem?_eq_some_iff.1 hx;unfold kH;simp only[br];rw[zE (by omega),cq hi,hx'];simp only[zG];rw[zE hk,ce (List.getElem?_eq_some_iff.1 hs).1];simp only[zG];rw[hs];simp only[zG];rw[zE trivial,ce (List.getElem?_eq_some_iff.1 hm).1];simp only[zG];rw[hm];simp only[zG,kg];rw[bm (by omega)];rfl
theorem be5 {m S:List Int}(hl:l.length≤1000)(hK:cc7 l m S): ∀(f:Fo) (A B:List cv) (out:List cv),l=A++f.src++B→f.Ok→out.length≤A.length→
  ∃k,k≤f.len∧Reach (kH l (0,m) (0,S)) k ((A.length:Int),out) (((A.length+f.len:Nat):Int),out++f.bare.src)
 | .nil,A,B,out,hs,_,_=>by
  refine⟨0,bB _, ?_⟩;simp only[Fo.bare,Fo.src,Fo.len,cD,dB];exact Reach.refl
 | .op o r,A,B,out,hs,hk,ho=>by
  have hA:(A++[o]).length=A.length+1:=by simp
  have hll:l.length=A.length+(r.len+1)+B.length:=by rw[hs];simp[Fo.src,Fo.src_len];omega
  have hx:l[A.length]?=some o:=by rw[hs,aD,bD (bB _),cB];rfl
  obtain⟨k,k1,k2⟩:=be5 hl hK r (A++[o]) B (out++[o]) (by rw[hs];simp[Fo.src]) hk.2 (by simp;omega);refine⟨1+k,by simp only[Fo.len];omega, ?_⟩;have h1:=(Reach.one (bF0 (m:=m) (S:=S) (out:=out) hl (by omega) hx (.inl (by have:=hk.1;omega)))).trans (show Reach _ k _ _ from by rw[hA]at k2;exact k2);simp only[Fo.bare,Fo.src,Fo.len];rw[show A.length+(r.len+1)=A.length+1+r.len by omega];rw[aD]at h1;exact h1
 | .rep o b e r,A,B,out,hs,hk,ho=>by
  obtain⟨⟨k1,k2⟩,k3,k4⟩:=hk;have hll:l.length=A.length+(b.len+r.len+2)+B.length:=by rw[hs];simp[Fo.src,Fo.src_len];omega
  have hx:l[A.length]?=some o:=by rw[hs,aD,bD (bB _),cB];rfl
  obtain⟨hm,hS⟩:=hK.2.2 A (r.src++B) o e b (by rw[hs];simp[Fo.src]) k3 k1 k2;have hAr:(A++o::(b.src++[e])).length=A.length+1+b.len+1:=by simp[Fo.src_len];omega
  simp only[Fo.bare,Fo.len];by_cases hz:b.n*oX o=0
  ·rw[zE hz];rw[hz]at hS;obtain⟨k,g1,g2⟩:=be5 hl hK r (A++o::(b.src++[e])) B out (by rw[hs];simp[Fo.src]) k4 (by omega);refine⟨1+k,by omega, ?_⟩;have h1:=(Reach.one (cH3 (out:=out) hl hx k1 hS hm (by omega))).trans (show Reach _ k _ _ from by rw[hAr]at g2;exact g2);rw[show A.length+(b.len+r.len+2)=A.length+1+b.len+1+r.len by omega];exact h1
  ·rw[zF hz];have hA:(A++[o]).length=A.length+1:=by simp
   have hAe:(A++o::b.src).length=A.length+1+b.len:=by simp[Fo.src_len];omega
   have hxe:l[A.length+1+b.len]?=some e:=by
    rw[show l=(A++o::b.src)++(e::(r.src++B))by rw[hs];simp[Fo.src],←hAe,bD (bB _),cB];rfl
   obtain⟨kb,b1,b2⟩:=be5 hl hK b (A++[o]) (e::(r.src++B)) (out++[o]) (by rw[hs];simp[Fo.src]) k3 (by simp;omega);rw[hA]at b2;have hbl:=b.bare_len;obtain⟨k,g1,g2⟩:=be5 hl hK r (A++o::(b.src++[e])) B (out++[o]++b.bare.src++[e]) (by rw[hs];simp[Fo.src]) k4 (by simp[Fo.src_len];omega);rw[hAr]at g2;refine⟨1+kb+1+k,by omega, ?_⟩;have h1:=(((Reach.one (bF0 (m:=m) (out:=out) hl (by omega) hx (.inr ⟨_,hS,by omega⟩))).trans b2).trans (Reach.one (bF0 (m:=m) (S:=S) hl (by simp[Fo.src_len];omega) hxe (.inl (by omega))))).trans g2;rw[show A.length+(b.len+r.len+2)=A.length+1+b.len+1+r.len by omega];have e1:out++[o]++b.bare.src++[e]++r.bare.src=out++(Fo.rep o b.bare e r.bare).src:=by simp[Fo.src]
   rw[e1]at h1;exact h1
theorem bZ7 (hP:Prg R l f):vi l=some f.bare.src:=by
 obtain⟨m,S,h1,h2,h3,h4⟩:=bQ1 hP;have hl:=hP.ops.len;unfold vi;rw[h1,h3];simp only[zG];obtain⟨k,k1,k2⟩:=be5 (by omega) h4 f [] [] [] (by simp[hP.src]) hP.ok (by simp);have hfl:f.len=l.length:=by rw[←Fo.src_len,hP.src]
 have:=gr (c:=f.bare.src) k2 (by omega) (by
  simp only[kH];rw[zA (by rw[hfl];simp),zD]
  rfl)
 rw[show((0:Int),([]:List cv))=((([]:List cv).length:Int),([]:List cv))from rfl,this];rfl
end
section
variable {l:List cv} {m:List Int}
def MOf (l:List cv)(m:List Int):Prop:= ∀(A B:List cv) (o e:cv) (b:Fo),l=A++o::(b.src++e::B)→b.Ok→o.1=7→e.1=0→m[A.length]?=some ((A.length+1+b.len:Nat):Int)
theorem mOf (hm:MOK l m):MOf l m:=fun A B o e b hl hb ho he=>by
 have hlen:l.length=A.length+1+(b.len+(B.length+1)):=by rw[hl];simp[Fo.src_len];omega
 have hlt:A.length<l.length:=by omega
 have hget:l[A.length]=o:=by
  have:l[A.length]?=some o:=by rw[hl,bD (bB _),cB];rfl
  rw[fB hlt]at this;injection this
 have hd:l.drop (A.length+1)=b.src++e::B:=by rw[hl,List.drop_append,List.drop_of_length_le (by omega),show A.length+1-A.length=1 by omega];rfl
 have:=hm.at' A.length hlt (by rw[hget];exact ho) b.src e B hd he (Fo.scan0 hb);rw[Fo.src_len]at this;exact this
theorem cD6 {K:List cv→List Int→Int→Int→Option (List cv×Int)}{i:Nat}{st:Nat}{a3:Int}{out:List cv}(hl:l.length≤1000)(ho:out.length≤1000000)(hst:st≤1000000000000){x:cv}(hx:l[i]?=some x)(hk:x.1≠7)(h3:(i:Int)<a3):
  jy K l m a3 ((i:Int),(st:Int),out)=some (.inl (((i+1:Nat):Int),((st+1:Nat):Int),out++[x])):=by
 obtain⟨hi,hx'⟩:=List.getElem?_eq_some_iff.1 hx;unfold jy;simp only[br];rw[zE h3,cq hi,hx'];simp only[zG];rw[zE hk,df (by omega) (by omega),bm (by omega),bm (by omega)];rfl
theorem bN0 {i:Nat}{u:List cv}{nb:Nat}{s:Int×Int×List cv}(hs:s.1=(i:Int)){x:cv}(hx:l[i]?=some x)(hv:okV x)(st:Nat)(out:List cv)(hst:st+oX x*(nb+1)≤1000000000000)(ho:out.length+oX x*u.length≤1000000)(hvo:oX x≤100000):
  bw (ot l s (u,(nb:Int))) fa (0,(st:Int),out)=some (((st+oX x*(nb+1):Nat):Int),out++(aB (oX x) u).flatten):=by
 obtain⟨hi,hx'⟩:=List.getElem?_eq_some_iff.1 hx;unfold okV at hv;have hvx:x.2.2.2.2=((oX x:Nat):Int):=(Int.toNat_of_nonneg hv.1).symm
 have key:=fh (f:=ot l s (u,(nb:Int))) (n:=oX x) (fun k=>(((st+k*(nb+1):Nat):Int),out++(aB k u).flatten)) (c:=(((st+oX x*(nb+1):Nat):Int),out++(aB (oX x) u).flatten)) (by omega)
  (fun k hk=>by
   have h1:k*(nb+1)+(nb+1)≤oX x*(nb+1):=by
    rw[←eD];exact gN _ hk
   have h2:k*u.length+u.length≤oX x*u.length:=by
    rw[←eD];exact gN _ hk
   unfold ot;simp only;rw[hs,cq hi,hx'];simp only[zG,br];rw[zE (by rw[hvx];omega)];have hlen:(out++(aB k u).flatten).length=out.length+k*u.length:=by simp
   rw[hlen]
   have hf:iq (out.length+k*u.length+u.length) 40=true:=by
    unfold iq;rw[zB (by omega)];rfl
   rw[show∀y:Option ((Int×Int×List cv)⊕(Int×List cv)),gd (iq (out.length+k*u.length+u.length) 40) y=y from fun y=>by rw[hf];rfl];rw[bi1 ⟨by omega,by omega⟩,bm (n:=((st+k*(nb+1):Nat):Int)+nb) (by omega),bm (by omega)];rw[show(k:Int)+1=((k+1:Nat):Int)by omega,show((st+k*(nb+1):Nat):Int)+nb+1=((st+(k+1)*(nb+1):Nat):Int)by rw[eD];omega,aD]
   rw[show(aB (k+1) u).flatten=(aB k u).flatten++u by
    rw[List.replicate_succ',List.flatten_append];simp])
  (by
   unfold ot;simp only;rw[hs,cq hi,hx'];simp only[zG,br]
   rw[zF (by rw[hvx];omega)])
 simp only[Nat.zero_mul,dB,List.replicate_zero,List.flatten_nil,cD]at key;exact key
theorem lO : ∀g:Fo,g.unroll.length=g.n
 | .nil=>rfl
 | .op o r=>by simp only[Fo.unroll,Fo.n,List.length_cons,lO r];omega
 | .rep o b e r=>by simp[Fo.unroll,Fo.n,lO r,lO b,dD]
theorem aF2 (hl:l.length≤1000)(hM:MOf l m): ∀(g:Fo) (fu:Nat) (A B:List cv) (st:Nat) (out:List cv) (a3:Int),l=A++g.src++B→g.Ok→g.Pos→(∀o∈g.src,okV o)→g.hi≤fu→out.length+g.n≤100000→st+g.steps≤1000000000000→((A.length+g.len:Nat):Int)≤a3→
  ∃k,k≤g.len∧Reach (jy (ik fu) l m a3) k ((A.length:Int),(st:Int),out) (((A.length+g.len:Nat):Int),((st+g.steps:Nat):Int),out++g.unroll)
 | .nil,fu,A,B,st,out,a3,hs,_,_,_,_,_,_,_=>by
  refine⟨0,bB _, ?_⟩;simp only[Fo.unroll,Fo.steps,Fo.len,cD,dB];exact Reach.refl
 | .op o r,fu,A,B,st,out,a3,hs,hk,hp,hv,hh,hn,hst,h3=>by
  simp only[Fo.n,Fo.steps,Fo.len,Fo.hi]at hn hst h3 hh;have hA:(A++[o]).length=A.length+1:=by simp
  have hll:l.length=A.length+(r.len+1)+B.length:=by rw[hs];simp[Fo.src,Fo.src_len];omega
  have hx:l[A.length]?=some o:=by rw[hs,aD,bD (bB _),cB];rfl
  obtain⟨k,k1,k2⟩:=aF2 hl hM r fu (A++[o]) B (st+1) (out++[o]) a3 (by rw[hs];simp[Fo.src]) hk.2 hp (fun x hx=>hv x (by simp[Fo.src,hx])) hh (by simp;omega) (by omega) (by rw[hA];omega);refine⟨1+k,by simp only[Fo.len];omega, ?_⟩;have h1:=(Reach.one (cD6 (m:=m) (K:=ik fu) (a3:=a3) (out:=out) (st:=st) hl (by omega) (by omega) hx (by have:=hk.1;omega) (by omega))).trans (show Reach _ k _ _ from by rw[hA]at k2;exact k2);simp only[Fo.unroll,Fo.steps,Fo.len];rw[show A.length+(r.len+1)=A.length+1+r.len by omega,show st+(1+r.steps)=st+1+r.steps by omega];rw[aD]at h1;exact h1
 | .rep o b e r,fu,A,B,st,out,a3,hs,hk,hp,hv,hh,hn,hst,h3=>by
  obtain⟨⟨k1,k2⟩,k3,k4⟩:=hk;obtain⟨p1,p2,p3⟩:=hp;simp only[Fo.n,Fo.steps,Fo.len,Fo.hi]at hn hst h3 hh;have hll:l.length=A.length+(b.len+r.len+2)+B.length:=by rw[hs];simp[Fo.src,Fo.src_len];omega
  have hx:l[A.length]?=some o:=by rw[hs,aD,bD (bB _),cB];rfl
  have hm:=hM A (r.src++B) o e b (by rw[hs];simp[Fo.src]) k3 k1 k2;have hA:(A++[o]).length=A.length+1:=by simp
  have hAr:(A++o::(b.src++[e])).length=A.length+1+b.len+1:=by simp[Fo.src_len];omega
  obtain⟨g,rfl⟩: ∃g,fu=g+1:=⟨fu-1,by omega⟩
  have hvo0:0<oX o∧0<b.n:=by
   rcases gB (oX o)with h0|h0
   ·rw[h0,Nat.mul_zero]at p1;omega
   rcases gB b.n with h1|h1
   ·rw[h1,Nat.zero_mul]at p1;omega
   exact⟨h0,h1⟩
  have hbn:b.n≤b.n*oX o:=Nat.le_mul_of_pos_right _ hvo0.1;have hvn:oX o≤b.n*oX o:=gD _ hvo0.2;have hbs:b.steps+1≤oX o*(b.steps+1):=gD _ hvo0.1;obtain⟨kb,b1,b2⟩:=aF2 hl hM b g (A++[o]) (e::(r.src++B)) 0 [] (((A.length+1+b.len:Nat):Int)) (by rw[hs];simp[Fo.src]) k3 p2 (fun x hx=>hv x (by simp[Fo.src,hx])) (by omega) (by simp;omega) (by omega) (by rw[hA];omega);rw[hA]at b2
  have hin:ik (g+1) l m ((A.length+1:Nat):Int) ((A.length+1+b.len:Nat):Int)=some (b.unroll,(b.steps:Int)):=by
   show rB (ik g) l m _ _=_;unfold rB
   have:=gr (c:=((b.steps:Int),b.unroll)) b2 (by omega) (by
    simp only[jy];rw[zA (by omega),zD]
    simp)
   rw[show(((A.length+1:Nat):Int),(0:Int),([]:List cv))=(((A.length+1:Nat):Int),((0:Nat):Int),([]:List cv))from rfl,this];rfl
  have hone:jy (ik (g+1)) l m a3 ((A.length:Int),(st:Int),out)=some (.inl (((A.length+1+b.len+1:Nat):Int),((st+1+oX o*(b.steps+1):Nat):Int),out++(aB (oX o) b.unroll).flatten)):=by
   obtain⟨hi,hx'⟩:=List.getElem?_eq_some_iff.1 hx;unfold jy;simp only[br];rw[zE (by omega),cq hi,hx'];simp only[zG];rw[zF (by omega)]
   have hmr:rd m ((A.length:Nat):Int)=some ((A.length+1+b.len:Nat):Int):=by
    obtain⟨q1,q2⟩:=List.getElem?_eq_some_iff.1 hm;rw[cq q1,q2]
   rw[hmr];simp only[zG];rw[bm (by omega),show(A.length:Int)+1=((A.length+1:Nat):Int)by omega,hin];simp only[zG];rw[bm (by omega),show(st:Int)+1=((st+1:Nat):Int)by omega];rw[bN0 (i:=A.length) (nb:=b.steps) (u:=b.unroll) (by rfl) hx (hv o (by simp[Fo.src])) (st+1) out (by omega) (by rw[lO,dD];omega) (by omega)];simp only[zG];rw[bm (by omega)];rfl
  obtain⟨k,g1,g2⟩:=aF2 hl hM r (g+1) (A++o::(b.src++[e])) B (st+1+oX o*(b.steps+1)) (out++(aB (oX o) b.unroll).flatten) a3 (by rw[hs];simp[Fo.src]) k4 p3 (fun x hx=>hv x (by simp[Fo.src,hx])) (by omega) (by
    have:((aB (oX o) b.unroll).flatten).length=oX o*b.n:=by simp[lO]
    rw[List.length_append,this,dD];omega) (by omega) (by rw[hAr];omega)
  rw[hAr]at g2;refine⟨1+k,by simp only[Fo.len];omega, ?_⟩;have h1:=(Reach.one hone).trans g2;simp only[Fo.unroll,Fo.steps,Fo.len];rw[show A.length+(b.len+r.len+2)=A.length+1+b.len+1+r.len by omega,show st+(1+oX o*(b.steps+1)+r.steps)=st+1+oX o*(b.steps+1)+r.steps by omega];rw[aD]at h1;exact h1
end
section
variable {l:List cv} {R:Int} {f:Fo}
theorem sH (hP:Prg R l f):kv R l=some (f.unroll,0):=by
 unfold kv;rw[bn3 hP.ops];simp only[zG];rw[hP.z,zA (by simp),zD,bZ7 hP];simp only[zG];have hlen:f.bare.src.length≤100:=by rw[Fo.src_len];exact Nat.le_trans f.bare_len hP.len
 have hok:=f.bare_ok hP.ok;rcases ao6 (l:=f.bare.src) (by omega)with⟨_,m,hm,hM⟩|⟨h,_⟩
 ·rw[hm];simp only[zG];have hn:f.bare.n≤65536:=by rw[f.bare_n];exact hP.n
  have hhi:f.bare.hi≤399:=Nat.le_trans f.bare_hi (by have:=hP.deep;omega);obtain⟨k,k1,k2⟩:=aF2 (by omega) (mOf hM) f.bare 399 [] [] 0 [] ((f.bare.src.length:Nat):Int) (by simp) hok f.bare_pos (fun o ho=>hP.ops.v o (by rw[←hP.src];exact f.bare_mem ho)) hhi (by simp;omega) (by have:=hP.steps;omega) (by rw[Fo.src_len];simp);unfold zf;show((rB (ik 399) _ _ _ _).bind _)=_;unfold rB
  have:=gr (c:=(((f.bare.steps:Nat):Int),f.bare.unroll)) k2 (by have:=f.bare_len;have:=hP.len;omega) (by
   simp only[jy];rw[zA (by rw[Fo.src_len];simp),zD]
   simp)
  rw[show((0:Int),(0:Int),([]:List cv))=(((([]:List cv).length:Nat):Int),((0:Nat):Int),([]:List cv))from rfl,this];simp only[zG];rw[f.bare_unroll]
 ·exact(h (Fo.scan0 hok)).elim
end
end
section
open Go.IntKind renaming wrap → zH, i64 → zI, u64 → zJ
open List renaming getElem_mem → aB, length_take → aD, mem_of_mem_take → bB, take_length → bD, take_succ_eq_append_getElem → cB, append_assoc → cD
def ci (r:List Int):Prop:= ∀x∈r,sX x
theorem w0 :sX 0:=by unfold sX;omega
theorem bG9 (n:Int):sX (zH zJ n):=by rw[wU];unfold sX;omega
theorem vL {r:List Int}(h:ci r)(k:Int):sX (rg r k):=by
 unfold rg;rw[List.getD_eq_getElem?_getD];by_cases hk:k.toNat<r.length
 ·rw[List.getElem?_eq_getElem hk];exact h _ (aB hk)
 ·rw[List.getElem?_eq_none (by omega)];exact w0
theorem ci.set {r:List Int}(h:ci r){v:Int}(hv:sX v)(k:Nat):ci (r.set k v):=fun x hx=>by
 rcases List.mem_or_eq_of_mem_set hx with h1|h1
 ·exact h x h1
 ·rw[h1];exact hv
theorem ci.app {r s:List Int}(h:ci r)(k:ci s):ci (r++s):=fun x hx=>(List.mem_append.1 hx).elim (h x) (k x)
theorem ci.rep (n:Nat):ci (List.replicate n 0):=fun x hx=>by rw[(List.mem_replicate.1 hx).2];exact w0
theorem ci.fill {R:Int}{r:List Int}(h:ci r):ci (fill R r):=h.app (ci.rep _)
theorem ci.drop {r:List Int}(h:ci r)(n:Nat):ci (r.drop n):=fun x hx=>h x (List.mem_of_mem_drop hx)
theorem ci.take {r:List Int}(h:ci r)(n:Nat):ci (r.take n):=fun x hx=>h x (bB hx)
theorem cM9 {o:cv}(ho:okV o){x y:Int}(hx:sX x)(hy:sX y):sX (app o x y):=by
 unfold Go.V.app;unfold okV at ho
 repeat' split
 all_goals first|exact bG9 _|exact hx|exact w0|(unfold sX;omega)
theorem aQ5 {o:cv}{x y:Int}(hx:sX x)(hy:sX y):qf o.1 o.2.1 o.2.2.1 o.2.2.2.1 o.2.2.2.2 x y=some (app o x y):=by
 unfold qf Go.V.app;simp only[br];rw[w8 hx hy,aM2 hy,ao5 hx hy,aM2 hx];simp only[zG];rw[w8 hx (bG9 _)];have h1:zH zJ (x+zH zJ (-y))=zH zJ (x-y):=by simp only[wU];omega
 have h2:(-x:Int)=0-x:=by omega
 simp only[zG];rw[h1,h2]
 repeat' split
 all_goals rfl
theorem be8 (o:cv)(x y:Int):pz o.1 o.2.1 o.2.2.1 o.2.2.2.1 o.2.2.2.2 x y=some (par o x y):=by
 unfold pz par;simp only[br];rw[aM2 (a:=1) (by unfold sX;omega)];simp only[zG];rw[show zH zJ (-1)=18446744073709551615 from rfl]
 repeat' split
 all_goals rfl
theorem ui {R:Int}{r:List Int}(hR:0≤R∧R≤1000000)(hr:r.length≤R.toNat):lh R r=some (fill R r):=by
 unfold lh;have hlen:=gp hr
 have key:=fh (f:=pF R r) (n:=R.toNat) (fun i=>(fill R r).take i) (c:=fill R r) (by omega)
  (fun i hi=>by
   unfold pF;simp only[br];rw[zE (by omega)]
   have hv:(if(i:Int)<((r.length:Nat):Int)then(rd r (i:Int)).bind (fun x5=>some x5)else some 0)=some ((fill R r)[i]'(by omega)):=by
    by_cases h:i<r.length
    ·rw[zE (by omega),cq h];simp only[zG];unfold fill;rw[List.getElem_append_left h]
    ·rw[zF (by omega)];unfold fill;rw[List.getElem_append_right (by omega),List.getElem_replicate]
   rw[hv];simp only[zG];rw[df (by rw[aD];omega) (by omega),bm (by omega)];rw[cB (by omega)]
   rfl)
  (by
   unfold pF
   rw[zA (by omega),zD,List.take_of_length_le (by omega)])
 rw[List.take_zero]at key;rw[key];rfl
theorem aq9 {r:List Int}{f:Int×List Int→Option ((Int×List Int)⊕List Int)}(hr:r.length≤1000000)(s:List Int)(hs:s.length≤1000000)
  (hf: ∀s,f s=cond (decide (s.1<((r.length:Nat):Int))) ((rd r s.1).bind fun x=>gd (iq (s.2.length+1) 8) (some (.inl (zH zI (s.1+1),s.2++[x])))) (some (.inr s.2))):
  bw f fa (0,s)=some (s++r):=by
 have key:=fh (f:=f) (n:=r.length) (fun i=>s++r.take i) (c:=s++r) (by omega)
  (fun i hi=>by
   rw[hf,zB (by simp only;omega),zC,cq hi];simp only[zG];rw[df (by rw[List.length_append,aD];omega) (by omega),bm (by omega),cB hi,cD]
   rfl)
  (by rw[hf,zA (by simp),zD,bD])
 rw[List.take_zero,List.append_nil]at key;exact key
theorem ad7 {r:List Int}(hr:r.length≤1000000):nU r=some r:=by
 unfold nU;rw[aq9 (f:=af2 r) hr [] (by simp) (fun s=>rfl)];rfl
theorem pS {a b c:List Int}(ha:a.length≤100000)(hb:b.length≤100000)(hc:c.length≤100000):ly a b c=some (a++(b++c)):=by
 unfold ly;rw[aq9 (r:=a) (f:=xw a) (by omega) [] (by simp) (fun s=>rfl)];simp only[zG];rw[aq9 (r:=b) (f:=xx b) (by omega) _ (by simp;omega) (fun s=>rfl)];simp only[zG];rw[aq9 (r:=c) (f:=xy c) (by omega) _ (by simp;omega) (fun s=>rfl)];simp only[zG,List.nil_append,cD]
def cN3 (n:Nat)(l:List cv):Prop:= ∀o∈l,inR n o∧okV o
theorem bM3 (l:List cv): ∀s:FS,(uv ae5 l s).1.length=s.1.length:=by
 induction l with
 |nil=>intro s;rfl
 |cons o l ih=>intro s;show(uv ae5 l (ae5 o s)).1.length=_;rw[ih];unfold ae5;simp
theorem cs2 (l:List cv): ∀s:FS,ci s.1→(∀o∈l,okV o)→ci (uv ae5 l s).1:=by
 induction l with
 |nil=>intro s h _;exact h
 |cons o l ih=>
  intro s h ho;exact ih (ae5 o s) (h.set (cM9 (ho o (by simp)) (vL h _) (vL h _)) _) (fun x hx=>ho x (by simp[hx]))
theorem bh3 {σ:Type}{stp:cv→σ→σ}{l:List cv}{i:Nat}(hi:i<l.length)(s:σ):uv stp (l.take (i+1)) s=stp l[i] (uv stp (l.take i) s):=by
 rw[cB hi,aU5];rfl
theorem ao7 {l:List cv}{r:List Int}(hl:l.length≤1000000)(hr:r.length≤1000)(hg:cN3 r.length l)(hw:ci r)(n:Nat):nu l r=some (uv ae5 l (r,n)).1:=by
 unfold nu;have hf:fill ((r.length:Nat):Int) r=r:=by unfold fill;simp
 rw[ui (by omega) (by omega),hf];simp only[zG]
 have key:=fh (f:=nc l) (n:=l.length) (fun i=>(uv ae5 (l.take i) (r,n)).1) (c:=(uv ae5 l (r,n)).1) (by omega)
  (fun i hi=>by
   rw[bh3 hi];have e1:=bM3 (l.take i) (r,n);have e2:=cs2 (l.take i) (r,n) hw (fun o ho=>(hg o (bB ho)).2);generalize uv ae5 (l.take i) (r,n)=s at*;have hgi:=hg _ (aB hi);generalize hx:l[i]=x at*;obtain⟨kd,ka,kb,q1,q2,q3,g1,g2,g3⟩:=vH hgi.1;have e1:s.1.length=r.length:=e1;unfold nc;simp only;rw[zB (by omega),zC,cq hi,hx];simp only[zG];rw[q2,q3,ce (by omega:ka<s.1.length)];simp only[zG];rw[ec (by omega:ka<s.1.length)];simp only[zG];rw[ce (by omega:kb<s.1.length)];simp only[zG];rw[ec (by omega:kb<s.1.length)];simp only[zG];rw[←q2,←q3,aQ5 (vL e2 _) (vL e2 _)];simp only[zG];rw[q1,ce (by omega:kd<s.1.length)];simp only[zG];rw[ec (by omega:kd<s.1.length)];simp only[zG];rw[bm (by omega)];unfold ae5;rw[q1]
   rfl)
  (by
   unfold nc
   rw[zA (by simp),zD,bD])
 rw[show l.take 0=[]from rfl]at key;rw[show(0,r)=((0:Int),(uv ae5 [] (r,n)).1)from rfl,key];rfl
section
variable {l:List cv} {R:Int} {f:Fo}
theorem oo : ∀(g:Fo),g.Ok→∀o∈g.unroll,o∈g.src∧0<o.1∧o.1<7
 | .nil,_,o,ho=>by cases ho
 | .op x r,h,o,ho=>by
  rcases List.mem_cons.1 ho with rfl|ho
  ·exact⟨by simp[Fo.src],h.1⟩
  ·obtain⟨h1,h2⟩:=oo r h.2 o ho;exact⟨by simp[Fo.src,h1],h2⟩
 | .rep x b e r,h,o,ho=>by
  simp only[Fo.unroll]at ho;rcases List.mem_append.1 ho with ho|ho
  ·obtain⟨u,hu,ho⟩:=List.mem_flatten.1 ho;rw[(List.mem_replicate.1 hu).2]at ho;obtain⟨h1,h2⟩:=oo b h.2.1 o ho;exact⟨by simp[Fo.src,h1],h2⟩
  ·obtain⟨h1,h2⟩:=oo r h.2.2 o ho;exact⟨by simp[Fo.src,h1],h2⟩
theorem Prg.goodU (h:Prg R l f):cN3 R.toNat f.unroll:=fun o ho=>by
 obtain⟨h1,h2⟩:=oo f h.ok o ho;rw[h.src]at h1;exact⟨h.regs o h1 h2,h.ops.v o h1⟩
theorem Prg.ulen (h:Prg R l f):f.unroll.length=f.n∧f.n≤65536:=⟨lO f,h.n⟩
theorem br8 (h:Prg R l f){r:List Int}(hr:r.length≤R.toNat)(hw:ci r):tJ R l r=some (0,aH2 f (fill R r)):=by
 have hR:=h.R1;have hu:=h.ulen;unfold tJ zg;rw[sH h];simp only[zG];rw[zA (by simp),zD,zA (by omega),zD,zB (by omega),zC];simp only[zG];have hc:au6 f.unroll 0 ((f.unroll.length:Nat):Int)=f.unroll:=by unfold au6;simp
 have hgd:jK 0 ((f.unroll.length:Nat):Int) f.unroll.length=true:=gm (by omega);rw[hgd,hc,ui ⟨by omega,by omega⟩ hr];simp only[zG,du];rw[ao7 (by omega) (by rw[gp hr];omega) (by rw[gp hr];exact h.goodU) hw.fill 0];rfl
theorem aE6 (l:List cv): ∀s:TS,(uv mI l s).1.length=s.1.length∧(uv mI l s).2.1.length=s.2.1.length∧(uv mI l s).2.2=s.2.2+l.length:=by
 induction l with
 |nil=>intro s;exact⟨rfl,rfl,rfl⟩
 |cons o l ih=>
  intro s;obtain⟨h1,h2,h3⟩:=ih (mI o s);exact⟨h1.trans (by unfold mI;simp),h2.trans (by unfold mI;simp),h3.trans (by unfold mI;simp;omega)⟩
theorem bX5 (l:List cv): ∀s:TS,ci s.1→ci s.2.1→(∀o∈l,okV o)→ci (uv mI l s).1∧ci (uv mI l s).2.1:=by
 induction l with
 |nil=>intro s h k _;exact⟨h,k⟩
 |cons o l ih=>
  intro s h k ho;exact ih (mI o s) (h.set (cM9 (ho o (by simp)) (vL h _) (vL h _)) _) (k.set (vL h _) _) (fun x hx=>ho x (by simp[hx]))
theorem bF4 (h:Prg R l f){r t:List Int}(hr:r.length=R.toNat)(ht:f.n≤t.length)(ht2:t.length≤1000000)(hw:ci r)(hwt:ci t):rT R l r t=some ((f.n:Int),0,(pZ f r t).1,(pZ f r t).2.1):=by
 have hR:=h.R1;have hu:=h.ulen;have hg:=h.goodU;unfold rT xU;rw[sH h];simp only[zG];rw[zA (by simp),zD,zA (by omega),zD,zA (by omega),zD,ad7 (by omega),ad7 ht2];simp only[zG];rw[zA (by simp),zD]
 have key:=fh (f:=oP (f.unroll,0)) (n:=f.unroll.length) (fun i=>((uv mI (f.unroll.take i) (r,t,0)).1,(uv mI (f.unroll.take i) (r,t,0)).2.1)) (c:=((pZ f r t).1,(pZ f r t).2.1)) (by omega)
  (fun i hi=>by
   rw[bh3 hi];obtain⟨e1,e3,e4⟩:=aE6 (f.unroll.take i) (r,t,0);obtain⟨e2,e5⟩:=bX5 (f.unroll.take i) (r,t,0) hw hwt (fun o ho=>(hg o (bB ho)).2);rw[aD,Nat.min_eq_left (by omega)]at e4;generalize uv mI (f.unroll.take i) (r,t,0)=s at*;have hgi:=hg _ (aB hi);generalize hx:f.unroll[i]=x at*;obtain⟨kd,ka,kb,q1,q2,q3,g1,g2,g3⟩:=vH hgi.1;have e1:s.1.length=r.length:=e1;have e3:s.2.1.length=t.length:=e3;have e4:s.2.2=i:=by rw[e4];simp
   unfold oP;simp only;rw[zB (by omega),zC,cq hi,hx];simp only[zG];rw[q1,ce (by omega:kd<s.1.length)];simp only[zG];rw[ec (by omega:kd<s.1.length)];simp only[zG];rw[ce (by omega:i<s.2.1.length)];simp only[zG];rw[ec (by omega:i<s.2.1.length)];simp only[zG];rw[q2,q3,ce (by omega:ka<s.1.length)];simp only[zG];rw[ec (by omega:ka<s.1.length)];simp only[zG];rw[ce (by omega:kb<s.1.length)];simp only[zG];rw[ec (by omega:kb<s.1.length)];simp only[zG];have ha:=aQ5 (o:=x) (vL e2 x.2.2.1) (vL e2 x.2.2.2.1);rw[q1,q2,q3]at ha;rw[ha];simp only[zG];rw[bm (by omega)];unfold mI;rw[q1,q2,q3,e4]
   rfl)
  (by
   unfold oP;rw[zA (by simp),zD,bD]
   rfl)
 rw[show f.unroll.take 0=[]from rfl]at key;rw[show((0:Int),r,t)=((0:Int),(uv mI [] (r,t,0)).1,(uv mI [] (r,t,0)).2.1)from rfl,key];simp only[zG];rw[hu.1]
end
end
section
open Go.IntKind renaming wrap → zH, i64 → zI, u64 → zJ
open Int renaming toNat_natCast → aD
open List renaming replicate → aB, getElem?_eq_getElem → bB
theorem cb1 {a:List Int}{k:Nat}(h:k<a.length):a.set k (rg a (k:Int))=a:=by
 have:=ec h;rw[bB h]at this;injection this with this
 rw[←this];exact List.set_getElem_self h
theorem cw7 (o:cv)(hk:0<o.1∧o.1<7)(x y:Int):((cx o.1).2.1=false→(par o x y).1=0)∧((cx o.1).2.2.1=false→(par o x y).2=0):=by
 have:o.1=1∨o.1=2∨o.1=3∨o.1=4∨o.1=5∨o.1=6:=by omega
 rcases this with h|h|h|h|h|h<;>(unfold cx par;simp[h])
theorem cY9 {o:cv}{x y:Int}(hx:sX x)(hy:sX y):sX (par o x y).1∧sX (par o x y).2:=by
 unfold par;have h1:sX 1:=by unfold sX;omega
 have h2:sX 18446744073709551615:=by unfold sX;omega
 repeat' split
 all_goals first|exact⟨h1,h1⟩|exact⟨h1,h2⟩|exact⟨hy,hx⟩|exact⟨h2,w0⟩|exact⟨h1,w0⟩|exact⟨w0,w0⟩
theorem cx1 {o:cv}{r a:List Int}{t:Int}(hr:ci r)(ha:ci a)(ht:sX t):ci (aG3 o r a t).1∧ci (aG3 o r a t).2:=by
 unfold aG3;exact⟨hr.set ht _,((ha.set w0 _).set (bG9 _) _).set (bG9 _) _⟩
theorem wU0 {x:Int}(hx:sX x)(g:Int):zH zJ (x+zH zJ (0*g))=x:=by
 rw[Int.zero_mul,show zH zJ 0=0 from rfl,Int.add_zero];exact bi1 hx
section
variable {l:List cv} {R:Int} {f:Fo}
theorem ci4 {ls:List cv}{t:List Int}{i:Nat}{r a:List Int}(hi:i<ls.length)(hl:ls.length≤1000000)(hg:inR r.length ls[i]∧okV ls[i])(hk:0<ls[i].1∧ls[i].1<7)(ha:a.length=r.length)(ht:i<t.length)(wr:ci r)(wa:ci a)(wt:ci t):
  ov t (ls,0) ((i:Int),r,a)=some (.inl ((i:Int)-1,(aG3 ls[i] r a (rg t (i:Int))).1,(aG3 ls[i] r a (rg t (i:Int))).2)):=by
 generalize hx:ls[i]=x at*;obtain⟨kd,ka,kb,q1,q2,q3,g1,g2,g3⟩:=vH hg.1;unfold ov;simp only;rw[zB (by omega),zC,cq hi,hx];simp only[zG];have hp:=cx1 (o:=x) wr wa (vL wt (i:Int));have hpar:=be8 x;have hpn:=cw7 x hk;unfold aG3;simp only
 have hrt:rd t (i:Int)=some (rg t (i:Int)):=by
  rw[cq ht];have:=ec ht;rw[bB ht]at this;exact this
 have hpw:=cY9 (o:=x) (vL (wr.set (vL wt (i:Int)) x.2.1.toNat) x.2.2.1) (vL (wr.set (vL wt (i:Int)) x.2.1.toNat) x.2.2.2.1);rw[q1]at hpw⊢;rw[aD]at hpw⊢;rw[q2,q3]at hpw⊢;rw[aD,aD];rw[ce (by omega:kd<a.length)];simp only[zG];rw[ec (by omega:kd<a.length)];simp only[zG];rw[hrt];simp only[zG];rw[ce (by omega:kd<r.length)];simp only[zG];rw[ec (by omega:kd<r.length)];simp only[zG];have wr1:=wr.set (vL wt (i:Int)) kd;have lr1:(r.set kd (rg t (i:Int))).length=r.length:=by simp
 have wa1:=wa.set w0 kd;have la1:(a.set kd 0).length=r.length:=by simp[ha]
 have wg:=vL wa (kd:Int);generalize r.set kd (rg t (i:Int))=r1 at*;generalize a.set kd 0=a1 at*;generalize rg a (kd:Int)=g at*;rw[ce (by omega:ka<r1.length)];simp only[zG];rw[ec (by omega:ka<r1.length)];simp only[zG];rw[ce (by omega:kb<r1.length)];simp only[zG];rw[ec (by omega:kb<r1.length)];simp only[zG];have hp2:=hpar (rg r1 (ka:Int)) (rg r1 (kb:Int));rw[q1,q2,q3]at hp2;rw[hp2,yt];have hpn2:=hpn (rg r1 (ka:Int)) (rg r1 (kb:Int));generalize par x (rg r1 (ka:Int)) (rg r1 (kb:Int))=q at*;generalize cx x.1=s at*;simp only[zG];rw[ce (by omega:ka<a1.length)];simp only[zG];rw[ec (by omega:ka<a1.length)];simp only[zG];rw[ao5 hpw.1 wg];simp only[zG];rw[w8 (vL wa1 _) (bG9 _)];simp only[zG]
 have h1:(cond s.2.1 (some (a1.set ka (zH zJ (rg a1 (ka:Int)+zH zJ (q.1*g))))) (some a1))=some (a1.set ka (zH zJ (rg a1 (ka:Int)+zH zJ (q.1*g)))):=by
  cases hs:s.2.1 with
  |true=>rfl
  |false=>rw[zD,hpn2.1 hs,wU0 (vL wa1 _),cb1 (by omega)]
 rw[h1];simp only[zG];have wa2:=wa1.set (bG9 (rg a1 (ka:Int)+zH zJ (q.1*g))) ka;have la2:(a1.set ka (zH zJ (rg a1 (ka:Int)+zH zJ (q.1*g)))).length=r.length:=by simp[la1]
 generalize a1.set ka (zH zJ (rg a1 (ka:Int)+zH zJ (q.1*g)))=a2 at*;rw[ce (by omega:kb<a2.length)];simp only[zG];rw[ec (by omega:kb<a2.length)];simp only[zG];rw[ao5 hpw.2 wg];simp only[zG];rw[w8 (vL wa2 _) (bG9 _),bm (by omega)];simp only[zG];cases hs:s.2.2.1 with
 |true=>rfl
 |false=>rw[zD,hpn2.2 hs,wU0 (vL wa2 _),cb1 (by omega)]
theorem cr8 {σ:Type}{stp:cv→σ→σ}{l:List cv}{i:Nat}(hi:i<l.length)(s:σ):xq stp (l.drop i) s=stp l[i] (xq stp (l.drop (i+1)) s):=by
 rw[List.drop_eq_getElem_cons hi];rfl
theorem cd1 {t:List Int}(wt:ci t)(l:List cv): ∀s:BS,ci s.1→ci s.2.1→(xq (om t) l s).1.length=s.1.length∧(xq (om t) l s).2.1.length=s.2.1.length∧(xq (om t) l s).2.2=s.2.2-l.length∧ci (xq (om t) l s).1∧ci (xq (om t) l s).2.1:=by
 induction l with
 |nil=>intro s h k;exact⟨rfl,rfl,rfl,h,k⟩
 |cons o l ih=>
  intro s h k;obtain⟨h1,h2,h3,h4,h5⟩:=ih s h k;have hp:=be4 o (xq (om t) l s).1 (xq (om t) l s).2.1 (rg t (((xq (om t) l s).2.2-1:Nat):Int));have hw:=cx1 (o:=o) h4 h5 (vL wt (((xq (om t) l s).2.2-1:Nat):Int));refine⟨hp.1.trans h1,hp.2.trans h2, ?_,hw.1,hw.2⟩;show(xq (om t) l s).2.2-1=_;rw[h3,List.length_cons];omega
theorem bZ8 (h:Prg R l f){r a t:List Int}(hr:r.length=R.toNat)(ha:a.length=R.toNat)(ht:f.n≤t.length)(wr:ci r)(wa:ci a)(wt:ci t):vj R l r a t=some (0,(jz f r a t).1,(jz f r a t).2.1):=by
 have hR:=h.R1;have hu:=h.ulen;have hg:=h.goodU;have hk:=oo f h.ok;unfold vj;rw[sH h];simp only[zG];rw[ad7 (by omega),ad7 (by omega)];simp only[zG];rw[zA (by simp),zD,zA (by omega),zD,zA (by omega),zD,zA (by omega),zD,bm (by omega)]
 have key:=wV (f:=ov t (f.unroll,0)) (n:=f.unroll.length) (fun k=>((f.unroll.length:Int)-1-(k:Int),(xq (om t) (f.unroll.drop (f.unroll.length-k)) (r,a,f.n)).1,(xq (om t) (f.unroll.drop (f.unroll.length-k)) (r,a,f.n)).2.1)) (c:=((jz f r a t).1,(jz f r a t).2.1)) (by omega)
  (fun k hki=>by
   obtain⟨i,hi⟩: ∃i,f.unroll.length-k=i+1:=⟨f.unroll.length-k-1,by omega⟩
   have hil:i<f.unroll.length:=by omega
   rw[show f.unroll.length-(k+1)=i by omega,hi,cr8 hil];obtain⟨e1,e2,e3,e4,e5⟩:=cd1 wt (f.unroll.drop (i+1)) (r,a,f.n) wr wa;rw[List.length_drop]at e3;generalize xq (om t) (f.unroll.drop (i+1)) (r,a,f.n)=s at*;have e1:s.1.length=r.length:=e1;have e2:s.2.1.length=a.length:=e2;have e3:s.2.2=i+1:=by rw[e3];simp only;omega
   have hmem:=List.getElem_mem hil;rw[show(f.unroll.length:Int)-1-(k:Int)=(i:Int)by omega];rw[ci4 hil (by omega) (by rw[e1,hr];exact hg _ hmem) (hk _ hmem).2 (by omega) (by omega) e4 e5 wt];unfold om;rw[e3,show(f.unroll.length:Int)-1-((k+1:Nat):Int)=(i:Int)-1 by omega]
   rfl)
  (by
   simp only[Nat.sub_self,List.drop_zero];unfold ov;rw[zA (by omega),zD]
   rfl)
 simp only[Nat.sub_zero,List.drop_length]at key;rw[show((f.unroll.length:Int)-1,r,a)=((f.unroll.length:Int)-1-((0:Nat):Int),(xq (om t) [] (r,a,f.n)).1,(xq (om t) [] (r,a,f.n)).2.1)from by simp[xq],key];rfl
theorem ad6 (h:Prg R l f){r t:List Int}(wr:ci r)(wt:ci t):ci (pZ f r t).1∧ci (pZ f r t).2.1∧(pZ f r t).1.length=r.length∧(pZ f r t).2.1.length=t.length:=by
 obtain⟨h1,h2⟩:=bX5 f.unroll (r,t,0) wr wt (fun o ho=>(h.goodU o ho).2);obtain⟨h3,h4,_⟩:=aE6 f.unroll (r,t,0);exact⟨h1,h2,h3,h4⟩
def bP6 (R:Int)(f:Fo)(r w:List Int):List Int:=(jz f (pZ f (fill R r) (aB f.n 0)).1 (fill R w) (pZ f (fill R r) (aB f.n 0)).2.1).2.1
theorem bf0 (h:Prg R l f){r w:List Int}(hr:r.length≤R.toNat)(hw:w.length≤R.toNat)(wr:ci r)(ww:ci w):rU R l r w=some (0,bP6 R f r w):=by
 have hR:=h.R1;have hu:=h.ulen;unfold rU;rw[sH h];simp only[zG];rw[zA (by simp),zD,zA (by omega),zD,zA (by omega),zD,gdz ⟨by omega,by omega⟩,ui ⟨by omega,by omega⟩ hr];simp only[zG];rw[gdz ⟨by omega,by omega⟩,aD,hu.1];obtain⟨f1,f2,f3,f4⟩:=ad6 h (r:=fill R r) (t:=aB f.n 0) wr.fill (ci.rep _);rw[bF4 h (gp hr) (by simp) (by simp;omega) wr.fill (ci.rep _)];simp only[zG];rw[ui ⟨by omega,by omega⟩ hw];simp only[zG];rw[bZ8 h (by rw[f3,gp hr]) (gp hw) (by rw[f4];simp) f1 ww.fill f2];rfl
theorem aQ4 (h:Prg R l f){r w:List Int}(hr:r.length≤R.toNat)(hw:w.length≤R.toNat)(wr:ci r)(ww:ci w):(bP6 R f r w).length=R.toNat∧ci (bP6 R f r w):=by
 obtain⟨f1,f2,f3,f4⟩:=ad6 h (r:=fill R r) (t:=aB f.n 0) wr.fill (ci.rep _);obtain⟨b1,b2,b3,b4,b5⟩:=cd1 f2 f.unroll ((pZ f (fill R r) (aB f.n 0)).1,fill R w,f.n) f1 ww.fill;exact⟨b2.trans (gp hw),b5⟩
theorem ae0 (h:Prg R l f){r:List Int}(wr:ci r):(aH2 f r).length=r.length∧ci (aH2 f r):=⟨bM3 _ _,cs2 _ _ wr fun o ho=>(h.goodU o ho).2⟩
theorem cQ0 (l:List cv): ∀(r t:List Int) (k n:Nat),(uv mI l (r,t,k)).1=(uv ae5 l (r,n)).1:=by
 induction l with
 |nil=>intro r t k n;rfl
 |cons o l ih=>intro r t k n;exact ih _ _ _ _
theorem br7 (f:Fo)(r t:List Int):(pZ f r t).1=aH2 f r:=cQ0 _ _ _ _ _
end
end
section
open Int renaming toNat_natCast → bB
open List renaming length_take → aD, getElem?_eq_getElem → cB
open Nat renaming le_refl → aB, sub_zero → bD, lt_or_gt_of_ne → cD
theorem ci.put {W w:List Int}(h:ci W)(k:ci w)(o:Nat):ci (put W o w):=(h.take o).app (k.app (h.drop _))
theorem ci.seg {W:List Int}(h:ci W)(o n:Nat):ci (seg W o n):=(h.drop o).take n
theorem cp4 (x:Nat)(g a:List Int):ci (tY x g a):=fun v hv=>by
 unfold tY at hv;obtain⟨i,_,rfl⟩:=List.mem_map.1 hv;exact bG9 _
section
variable {c:Cx}
structure Has (c:Cx)(W st ax at':List Int):Prop where
 wd:Wd c W
 w:ci W
 t:seg W 0 c.T.length=c.T
 s:seg W (c.off 1) c.X.length=st
 x:seg W (c.off 5) c.X.length=ax
 a:seg W (c.off 6) c.T.length=at'
theorem bs6 (h:c.Ok){W:List Int}(hW:Wd c W){i:Nat}(hi:i<9){w:List Int}(hw:w.length≤c.sz i):c.off i+w.length≤W.length:=by
 have:=hW.in' h hi;omega
theorem Has.put (h:c.Ok){W st ax at':List Int}(H:Has c W st ax at'){i:Nat}(hi:i<9){w:List Int}(hw:w.length≤c.sz i)(ww:ci w)(h0:i≠0)(h1:i≠1)(h5:i≠5)(h6:i≠6):Has c (put W (c.off i) w) st ax at':=by
 have hl:=bs6 h H.wd hi hw
 have key: ∀j n,j≠i→n≤c.sz j→j<9→seg (Go.V.put W (c.off i) w) (c.off j) n=seg W (c.off j) n:=fun j n hj hn h9=>by
  refine xc hl ?_;rcases cD hj with hlt|hgt
  ·exact .inl (by have:=jc (c:=c) hlt;omega)
  ·exact .inr (by have:=jc (c:=c) hgt;omega)
 refine⟨H.wd.put h (by have:=jc (c:=c) (show i<9 from hi);omega),H.w.put ww _, ?_, ?_, ?_, ?_⟩
 ·have:=key 0 c.T.length (Ne.symm h0) (aB _) (by omega);exact this.trans H.t
 ·exact(key 1 c.X.length (Ne.symm h1) (aB _) (by omega)).trans H.s
 ·exact(key 5 c.X.length (Ne.symm h5) (aB _) (by omega)).trans H.x
 ·exact(key 6 c.T.length (Ne.symm h6) (aB _) (by omega)).trans H.a
theorem w9 (h:c.Ok){W:List Int}(hW:Wd c W){i j n:Nat}(hij:j≠i)(hi:i<9)(hj:j<9)(hn:n≤c.sz j){w:List Int}(hw:w.length≤c.sz i):seg (put W (c.off i) w) (c.off j) n=seg W (c.off j) n:=by
 refine xc (bs6 h hW hi hw) ?_;rcases cD hij with hlt|hgt
 ·exact .inl (by have:=jc (c:=c) hlt;omega)
 ·exact .inr (by have:=jc (c:=c) hgt;omega)
theorem Has.put1 (h:c.Ok){W st ax at':List Int}(H:Has c W st ax at'){w:List Int}(hw:w.length=c.X.length)(ww:ci w):Has c (Go.V.put W (c.off 1) w) w ax at':=by
 have hs:w.length≤c.sz 1:=Nat.le_of_eq hw;refine⟨H.wd.put h (by have:=jc (c:=c) (show 1<9 by omega);omega),H.w.put ww _,(w9 h H.wd (i:=1) (j:=0) (by omega) (by omega) (by omega) (aB _) hs).trans H.t, ?_,(w9 h H.wd (i:=1) (j:=5) (by omega) (by omega) (by omega) (aB _) hs).trans H.x,(w9 h H.wd (i:=1) (j:=6) (by omega) (by omega) (by omega) (aB _) hs).trans H.a⟩;rw[←hw];exact sJ (bs6 h H.wd (by omega) hs)
theorem Has.back (h:c.Ok){W st ax at' a:List Int}(H:Has c W st ax at')(ha:c.X.length+c.T.length≤a.length)(ha2:a.length≤max c.R.toNat c.Q.toNat)(wa:ci a):Has c (yM c W a) st (a.take c.X.length) (tY c.X.length at' a):=by
 have H4:=H.put h (i:=4) (by omega) (w:=a) ha2 wa (by omega) (by omega) (by omega) (by omega);unfold yM;generalize Go.V.put W (c.off 4) a=W1 at*;have hs:(a.take c.X.length).length≤c.sz 5:=by rw[aD];exact Nat.min_le_left _ _
 have hx:(a.take c.X.length).length=c.X.length:=by rw[aD];omega
 have w5:=H4.wd.put h (o:=c.off 5) (w:=a.take c.X.length) (by have:=jc (c:=c) (show 5<9 by omega);omega);have p:=fun j (hj:j≠5) (h9:j<9)=>w9 h H4.wd (i:=5) (j:=j) hj (by omega) h9 (aB _) hs
 have e5:seg (Go.V.put W1 (c.off 5) (a.take c.X.length)) (c.off 5) c.X.length=a.take c.X.length:=by
  have:=sJ (bs6 h H4.wd (i:=5) (by omega) hs);rw[hx]at this;exact this
 have e6:=(p 6 (by omega) (by omega)).trans H4.a;have e0:=(p 0 (by omega) (by omega)).trans H4.t;have e1:=(p 1 (by omega) (by omega)).trans H4.s;have a5:ci (Go.V.put W1 (c.off 5) (a.take c.X.length)):=H4.w.put (wa.take _) _;generalize Go.V.put W1 (c.off 5) (a.take c.X.length)=W2 at*;have e6':seg W2 (c.off 6) c.T.length=at':=e6;rw[e6'];have hl6:at'.length=c.T.length:=by rw[←e6'];exact dz (w5.in' h (i:=6) (by omega))
 have hl:(tY c.X.length at' a).length=c.T.length:=by rw[qr,hl6]
 have hs6:(tY c.X.length at' a).length≤c.sz 6:=Nat.le_of_eq hl;have q:=fun j (hj:j≠6) (h9:j<9)=>w9 h w5 (i:=6) (j:=j) hj (by omega) h9 (aB _) hs6
 refine⟨w5.put h (by have:=jc (c:=c) (show 6<9 by omega);omega),a5.put (cp4 _ _ _) _,(q 0 (by omega) (by omega)).trans e0,(q 1 (by omega) (by omega)).trans e1,(q 5 (by omega) (by omega)).trans e5, ?_⟩;have:=sJ (bs6 h w5 (i:=6) (by omega) hs6);rw[hl]at this;exact this
def vC (c:Cx)(t:Int)(x:List Int):List Int:=x++(c.T++[IntKind.u64.wrap t])
def uq (c:Cx)(t:Int)(x:List Int):List Int:=(aH2 c.fl (fill c.R (vC c t x))).take c.X.length
def lossV (c:Cx)(x:List Int):Int:=rg (aH2 c.fk (fill c.Q (x++(c.T++[])))) 0
def uY (c:Cx)(t:Int)(x adj:List Int):List Int:=bP6 c.R c.fl (vC c t x) adj
def w7 (c:Cx)(x:List Int):List Int:=bP6 c.Q c.fk (x++(c.T++[])) [1]
theorem Cx.Ok.lens (h:c.Ok):((c.X.length:Int)+c.T.length+1≤c.R∧(c.X.length:Int)+c.T.length≤c.Q)∧(1≤c.R∧c.R≤64)∧(1≤c.Q∧c.Q≤64)∧1≤c.X.length∧c.X.length≤64∧c.T.length≤64:=by
 have n:=h.num;have h1:=aK8 h.hc;exact⟨bp0 (by have:=n.x;omega) (by have:=n.t;omega) h1.2,n.R,n.Q,n.x.1,n.x.2,n.t⟩
theorem tZ (t:Int){x:List Int}(hx:x.length=c.X.length):(vC c t x).length=c.X.length+c.T.length+1:=by unfold vC;simp[hx];omega
theorem am7 {t:Int}{x:List Int}(wx:ci x)(wT:ci c.T):ci (vC c t x):=wx.app (wT.app fun v hv=>by rw[List.mem_singleton.1 hv];exact bG9 _)
variable (h:c.Ok) (wT:ci c.T)
include h wT
theorem ur {t:Int}{x:List Int}(hx:x.length=c.X.length)(wx:ci x):(uq c t x).length=c.X.length∧ci (uq c t x):=by
 obtain⟨⟨l1,l2⟩,hR,hQ,x1,x2,t2⟩:=h.lens;obtain⟨f1,f2⟩:=ae0 h.pl (r:=fill c.R (vC c t x)) (am7 wx wT).fill;rw[gp (by rw[tZ t hx];omega)]at f1;unfold uq;exact⟨by rw[aD,f1];omega,f2.take _⟩
theorem az6 {t:Int}(ht:0≤t∧t<65536){x:List Int}(hx:x.length=c.X.length)(wx:ci x):nV c.R c.l c.Q c.k (c.X.length:Int) c.T t x=some (0,uq c t x):=by
 obtain⟨⟨l1,l2⟩,hR,hQ,x1,x2,t2⟩:=h.lens;unfold nV mM;rw[zA (by omega),zD,zA (by omega),zD,zA (by omega),zD,pS (by omega) (by omega) (by simp)];simp only[zG];have hb:=tZ (c:=c) t hx;have e:x++(c.T++[IntKind.u64.wrap t])=vC c t x:=rfl;rw[e,br8 h.pl (by omega) (am7 wx wT)];obtain⟨f1,f2⟩:=ae0 h.pl (r:=fill c.R (vC c t x)) (am7 wx wT).fill;rw[gp (by omega)]at f1;simp only[zG];rw[gm (by omega),du,bB,bD];rfl
theorem bZ9 {x:List Int}(hx:x.length=c.X.length)(wx:ci x):vk c.R c.l c.Q c.k (c.X.length:Int) c.T x=some (lossV c x,0):=by
 obtain⟨⟨l1,l2⟩,hR,hQ,x1,x2,t2⟩:=h.lens;unfold vk;have wb:ci (x++(c.T++[])):=wx.app (wT.app fun v hv=>by cases hv);have hb:(x++(c.T++[])).length=c.X.length+c.T.length:=by simp[hx]
 rw[zA (by omega),zD,pS (by omega) (by omega) (by simp)];simp only[zG];rw[br8 h.pk (by omega) wb];obtain⟨f1,f2⟩:=ae0 h.pk (r:=fill c.Q (x++(c.T++[]))) wb.fill;rw[gp (by omega)]at f1;simp only[zG];rw[show ix 0 (aH2 c.fk (fill c.Q (x++(c.T++[])))).length=some 0 from ce (k:=0) (by omega)];simp only[zG];rw[ec (by omega)];rfl
theorem xM {t:Int}{x adj:List Int}(hx:x.length=c.X.length)(wx:ci x)(ha:adj.length=c.X.length)(wa:ci adj):(uY c t x adj).length=c.R.toNat∧ci (uY c t x adj):=by
 obtain⟨⟨l1,l2⟩,hR,hQ,x1,x2,t2⟩:=h.lens;exact aQ4 h.pl (by rw[tZ t hx];omega) (by omega) (am7 wx wT) wa
theorem cN9 :ci [1]:=fun v hv=>by rw[List.mem_singleton.1 hv];unfold sX;omega
theorem xL {x:List Int}(hx:x.length=c.X.length)(wx:ci x):(w7 c x).length=c.Q.toNat∧ci (w7 c x):=by
 obtain⟨⟨l1,l2⟩,hR,hQ,x1,x2,t2⟩:=h.lens;exact aQ4 h.pk (by simp[hx];omega) (by simp;omega) (wx.app (wT.app fun v hv=>by cases hv)) (cN9 h wT)
theorem bf2 {t:Int}(ht:0≤t∧t<65536){x adj:List Int}(hx:x.length=c.X.length)(wx:ci x)(ha:adj.length=c.X.length)(wa:ci adj):pH c.R c.l c.Q c.k (c.X.length:Int) c.T t x adj=some ((uY c t x adj).take c.X.length,((uY c t x adj).drop c.X.length).take c.T.length,0):=by
 obtain⟨⟨l1,l2⟩,hR,hQ,x1,x2,t2⟩:=h.lens;unfold pH mM;rw[zA (by omega),zD,zA (by omega),zD,zA (by omega),zD,zA (by omega),zD,pS (by omega) (by omega) (by simp)];simp only[zG];have hb:=tZ (c:=c) t hx;have e:x++(c.T++[IntKind.u64.wrap t])=vC c t x:=rfl;rw[e,bf0 h.pl (by omega) (by omega) (am7 wx wT) wa];obtain⟨f1,f2⟩:=xM h wT (t:=t) hx wx ha wa;unfold uY at f1⊢;simp only[zG];rw[gm (by omega),du,bm (by omega),gm (by omega),du,bB,bD,List.drop_zero,show((c.X.length:Int)+(c.T.length:Int)).toNat-c.X.length=c.T.length by omega]
theorem bf1 {x:List Int}(hx:x.length=c.X.length)(wx:ci x):pG c.R c.l c.Q c.k (c.X.length:Int) c.T x=some ((w7 c x).take c.X.length,((w7 c x).drop c.X.length).take c.T.length,0):=by
 obtain⟨⟨l1,l2⟩,hR,hQ,x1,x2,t2⟩:=h.lens;unfold pG;rw[zA (by omega),zD,pS (by omega) (by omega) (by simp)];simp only[zG];rw[bf0 h.pk (by simp[hx];omega) (by simp;omega) (wx.app (wT.app fun v hv=>by cases hv)) (cN9 h wT)];obtain⟨f1,f2⟩:=xL h wT hx wx;unfold w7 at f1⊢;simp only[zG];rw[gm (by omega),du,bm (by omega),gm (by omega),du,bB,bD,List.drop_zero,show((c.X.length:Int)+(c.T.length:Int)).toNat-c.X.length=c.T.length by omega]
omit h wT in
theorem br9 {g a:List Int}{x:Nat}(hg:g.length≤1000)(ha:x+g.length≤a.length)(wg:ci g)(wa:ci a):tK g ((a.drop x).take g.length)=some (tY x g a):=by
 unfold tK;have hl:((a.drop x).take g.length).length=g.length:=by rw[aD,List.length_drop];omega
 have key:=fh (f:=sd g ((a.drop x).take g.length)) (n:=g.length) (fun i=>(tY x g a).take i) (c:=tY x g a) (by omega)
  (fun i hi=>by
   unfold sd;simp only;rw[zB (by omega),zC,cq hi,cq (by omega)];simp only[zG];have e1:g[i]=rg g (i:Int):=by have:=ec hi;rw[cB hi]at this;injection this
   have e2:((a.drop x).take g.length)[i]'(by omega)=rg a ((x+i:Nat):Int):=by
    rw[List.getElem_take,List.getElem_drop];have:=ec (r:=a) (k:=x+i) (by omega);rw[cB (by omega)]at this;injection this
   rw[e1,e2,w8 (vL wg _) (vL wa _)];simp only[zG];have hi':i<(tY x g a).length:=by rw[qr];exact hi
   rw[df (by rw[aD];omega) (by omega),bm (by omega),List.take_succ_eq_append_getElem hi'];have e3:(tY x g a)[i]=IntKind.u64.wrap (rg g (i:Int)+rg a ((x+i:Nat):Int)):=by unfold tY;simp
   rw[e3]
   rfl)
  (by
   unfold sd
   rw[zA (by simp),zD,List.take_of_length_le (by rw[qr];exact aB _)])
 rw[List.take_zero]at key;rw[key];rfl
end
end
section
open Nat renaming le_of_eq → aB
section
variable {c:Cx} (h:c.Ok) (wT:ci c.T) {W st ax at':List Int}
def mX (c:Cx)(t:Int)(x:List Int):TS:=pZ c.fl (fill c.R (vC c t x)) (cg c.fl.n)
include h wT
theorem Has.lens (H:Has c W st ax at'):st.length=c.X.length∧ax.length=c.X.length∧at'.length=c.T.length∧ci st∧ci ax∧ci at':=by
 refine⟨?_, ?_, ?_, ?_, ?_, ?_⟩
 ·rw[←H.s];exact dz (H.wd.in' h (i:=1) (by omega))
 ·rw[←H.x];exact dz (H.wd.in' h (i:=5) (by omega))
 ·rw[←H.a];exact dz (H.wd.in' h (i:=6) (by omega))
 ·rw[←H.s];exact H.w.seg _ _
 ·rw[←H.x];exact H.w.seg _ _
 ·rw[←H.a];exact H.w.seg _ _
theorem qT {t:Int}{x:List Int}(hx:x.length=c.X.length)(wx:ci x):ci (mX c t x).1∧ci (mX c t x).2.1∧(mX c t x).1.length=c.R.toNat∧(mX c t x).2.1.length=c.fl.n∧(mX c t x).1.take c.X.length=uq c t x:=by
 obtain⟨⟨l1,l2⟩,hR,hQ,x1,x2,t2⟩:=h.lens;obtain⟨f1,f2,f3,f4⟩:=ad6 h.pl (r:=fill c.R (vC c t x)) (t:=cg c.fl.n) (am7 wx wT).fill (ci.rep _);refine⟨f1,f2,f3.trans (gp (by rw[tZ t hx];omega)),f4.trans (da _), ?_⟩;unfold mX uq;rw[br7]
omit wT in
theorem Has.stepR (H:Has c W st ax at')(p:Int):stepR c W p=mX c p st:=by
 unfold Go.V.stepR mX vC;rw[H.s,H.t]
omit wT in
theorem Has.lossR (H:Has c W st ax at')(x:List Int):lossR c W x=pZ c.fk (fill c.Q (x++(c.T++[]))) (cg c.fk.n):=by
 unfold Go.V.lossR;rw[H.t]
theorem Has.lossV (H:Has c W st ax at')(x:List Int):rg (Go.V.lossR c W x).1 0=lossV c x:=by
 rw[H.lossR h,br7];rfl
theorem Has.taped (H:Has c W st ax at')(p:Int):Has c (Go.V.put W (c.off 2) (Go.V.stepR c W p).1) st ax at':=by
 obtain⟨k1,k2,k3,k4,k5,k6⟩:=H.lens h wT;obtain⟨f1,f2,f3,f4,f5⟩:=qT h wT (t:=p) k1 k4;rw[H.stepR h];exact H.put h (i:=2) (by omega) (aB f3) f1 (by omega) (by omega) (by omega) (by omega)
theorem Has.endd (H:Has c W st ax at'){x:List Int}(hx:x.length=c.X.length)(wx:ci x):Has c (bb4 c W x) st ((w7 c x).take c.X.length) (tY c.X.length at' (w7 c x)):=by
 obtain⟨⟨l1,l2⟩,hR,hQ,x1,x2,t2⟩:=h.lens;have hb:(x++(c.T++[])).length=c.X.length+c.T.length:=by simp[hx]
 have wb:ci (x++(c.T++[])):=wx.app (wT.app fun v hv=>by cases hv);obtain⟨f1,f2,f3,f4⟩:=ad6 h.pk (r:=fill c.Q (x++(c.T++[]))) (t:=cg c.fk.n) wb.fill (ci.rep _);rw[gp (by omega)]at f3;obtain⟨p1,p2⟩:=xL h wT hx wx;unfold bb4;rw[H.lossR h];have H3:=H.put h (i:=3) (by omega) (aB f3) f1 (by omega) (by omega) (by omega) (by omega);have e:(jz c.fk (pZ c.fk (fill c.Q (x++(c.T++[]))) (cg c.fk.n)).1 (fill c.Q [1]) (pZ c.fk (fill c.Q (x++(c.T++[]))) (cg c.fk.n)).2.1).2.1=w7 c x:=rfl;rw[e];exact H3.back h (by omega) (by omega) p2
theorem Has.turn (H:Has c W st ax at'){p:Int}{x:List Int}(hx:x.length=c.X.length)(wx:ci x):Has c (bh9 c W (mX c p x).1 (mX c p x).2.1) st ((uY c p x ax).take c.X.length) (tY c.X.length at' (uY c p x ax)):=by
 obtain⟨⟨l1,l2⟩,hR,hQ,x1,x2,t2⟩:=h.lens;obtain⟨k1,k2,k3,k4,k5,k6⟩:=H.lens h wT;obtain⟨p1,p2⟩:=xM h wT (t:=p) hx wx k2 k5;unfold bh9;rw[H.x];have e:(jz c.fl (mX c p x).1 (fill c.R ax) (mX c p x).2.1).2.1=uY c p x ax:=rfl;rw[e];exact H.back h (by omega) (by omega) p2
theorem Has.adv1 (H:Has c W st ax at')(p:Int):Has c (Go.V.adv1 c W p) (uq c p st) ax at':=by
 obtain⟨⟨l1,l2⟩,hR,hQ,x1,x2,t2⟩:=h.lens;obtain⟨k1,k2,k3,k4,k5,k6⟩:=H.lens h wT
 have e:aR0 c W p=aH2 c.fl (fill c.R (vC c p st)):=by
  unfold aR0 vC;rw[H.s,H.t]
 obtain⟨f1,f2⟩:=ae0 h.pl (r:=fill c.R (vC c p st)) (am7 k4 wT).fill;rw[gp (by rw[tZ p k1];omega)]at f1;obtain⟨s1,s2⟩:=ur h wT (t:=p) k1 k4;unfold Go.V.adv1;rw[e];exact(H.put h (i:=2) (by omega) (aB f1) f2 (by omega) (by omega) (by omega) (by omega)).put1 h s1 s2
def aA0 (c:Cx)(t:Int)(x:List Int):Nat→List Int
 |0=>x
 |i+1=>uq c (t+(i:Int)) (aA0 c t x i)
theorem Has.advW (H:Has c W st ax at')(p:Int): ∀i,Has c (Go.V.advW c W p i) (aA0 c p st i) ax at'
 |0=>H
 |i+1=>(Has.advW H p i).adv1 h wT _
theorem ae3 {t:Int}{x:List Int}(hx:x.length=c.X.length)(wx:ci x): ∀i,(aA0 c t x i).length=c.X.length∧ci (aA0 c t x i)
 |0=>⟨hx,wx⟩
 |i+1=>ur h wT (ae3 hx wx i).1 (ae3 hx wx i).2
theorem Has.rev (H:Has c W st ax at')(p:Int):Has c (cn3 c W p) st ((uY c p st ax).take c.X.length) (tY c.X.length at' (uY c p st ax)):=by
 obtain⟨k1,k2,k3,k4,k5,k6⟩:=H.lens h wT;unfold cn3;have:=(H.taped h wT p).turn h wT (p:=p) k1 k4;rw[H.stepR h]at this⊢;exact this
theorem Has.both (H:Has c W st ax at')(p:Int):Has c (bo2 c W p) st ((uY c p st ((w7 c (uq c p st)).take c.X.length)).take c.X.length) (tY c.X.length (tY c.X.length at' (w7 c (uq c p st))) (uY c p st ((w7 c (uq c p st)).take c.X.length))):=by
 obtain⟨k1,k2,k3,k4,k5,k6⟩:=H.lens h wT;obtain⟨f1,f2,f3,f4,f5⟩:=qT h wT (t:=p) k1 k4;obtain⟨s1,s2⟩:=ur h wT (t:=p) k1 k4;unfold bo2;have H2:=H.taped h wT p;rw[H.stepR h]at H2⊢;rw[f5];exact(H2.endd h wT s1 s2).turn h wT (p:=p) k1 k4
end
end
section
open List renaming getElem?_eq_getElem → aB, take_succ_eq_append_getElem → aD, countP_le_length → bB, getElem?_eq_none → bD, getElem?_map → cB, length_take → cD
structure RS where
 L:Int
 p:Int
 q:Int
 st:List Int
 sl:List (Int×List Int)
 sx:Int
 kp:List (List Int)
 ax:List Int
 th:List Int
 ls:Int
 n0:Int
 n1:Int
 n2:Int
 n3:Int
 pk:Int
def ab7 (c:Cx)(W:List Int)(k:Nat)(x:Int×List Int):Prop:=ib c W k=x.1+1∧((0≤x.1∧x.2=seg W (sp c k+1) c.X.length)∨(x.1= -1∧seg W (sp c k+1) c.X.length=cg c.X.length))
structure Slo (c:Cx)(W:List Int)(r:RS):Prop where
 kp:r.kp=[]
 sx:r.sx=(c.X.length:Int)
 len:r.sl.length=c.ns.toNat
 slot: ∀k,∀hk:k<r.sl.length,ab7 c W k r.sl[k]
structure RelD (c:Cx)(s:Dy)(r:RS):Prop where
 L:r.L=s.L
 p:r.p=s.p
 q:r.q=s.q
 n0:r.n0=s.c0
 n1:r.n1=s.c1
 n2:r.n2=s.c2
 n3:r.n3=s.c3
 ls:r.ls=s.z
 pk:r.pk=s.pk
 has:Has c s.W r.st r.ax r.th
section
variable {c:Cx} {W:List Int} {r:RS}
theorem yZ (H:Slo c W r){k:Nat}(hk:k<r.sl.length):r.sl[k].1=ib c W k-1:=by
 have:=(H.slot k hk).1;omega
theorem bf3 (H:Slo c W r)(h:c.Ok):vm r.sl r.sx=some (vN c W):=by
 unfold vm;have hn:=h.ns;have hl:=H.len
 have key:=fh (f:=qC r.sl) (n:=r.sl.length) (fun i=>(vN c W).take i) (c:=vN c W) (by omega)
  (fun i hi=>by
   have h1:i<(vN c W).length:=by rw[ut];omega
   unfold qC;simp only;rw[zB (by omega),zC,cq hi];simp only[zG];rw[df (by rw[cD];omega) (by omega),bm (by omega),aD h1];have e:=bS5 (c:=c) (W:=W) (k:=i) (by omega);rw[aB h1]at e;injection e with e
   rw[e,yZ H hi]
   rfl)
  (by
   unfold qC
   rw[zA (by simp),zD,List.take_of_length_le (by rw[ut];omega)])
 rw[List.take_zero]at key;rw[key];rfl
theorem bL4 (H:Slo c W r):(r.sl.countP fun x=>decide (0≤x.1))=kF c W:=by
 have:r.sl.map (fun x=>decide (0≤x.1))=(List.range c.ns.toNat).map fun(k:Nat)=>decide (0<ib c W k):=by
  apply List.ext_getElem?;intro i;rw[cB,cB];by_cases hi:i<r.sl.length
  ·rw[aB hi,List.getElem?_range (by rw[←H.len];exact hi)];simp only[Option.map_some]
   congr 1
   have:=yZ H hi;by_cases ht:0<ib c W i
   ·rw[zB ht,zB (by omega)]
   ·rw[zA ht,zA (by omega)]
  ·rw[bD (by omega),bD (by rw[List.length_range,←H.len];omega)];rfl
 unfold kF;have e1: ∀{α:Type} (l:List α) (p:α→Bool),l.countP p=(l.map p).countP id:=fun l p=>by rw[List.countP_map];rfl
 rw[e1,this,←e1]
theorem ca1 (l:List (Int×List Int))(x:Int)(hl:l.length≤2000000):vn l x=some ((l.countP fun x=>decide (0≤x.1):Nat):Int):=by
 unfold vn
 have key:=fh (f:=qD l) (n:=l.length) (fun i=>(((l.take i).countP fun x=>decide (0≤x.1):Nat):Int)) (c:=((l.countP fun x=>decide (0≤x.1):Nat):Int)) (by omega)
  (fun i hi=>by
   unfold qD;simp only;rw[zB (by omega),zC,cq hi];simp only[zG];rw[aD hi,List.countP_append,List.countP_singleton];have hc:(l.take i).countP (fun x=>decide (0≤x.1))≤i:=Nat.le_trans bB (by rw[cD];omega);rw[bm (n:=(i:Int)+1) (by omega),bm (by omega)];by_cases ht:0≤l[i].1
   ·rw[zB ht,zC,zE rfl];rfl
   ·rw[zA ht,zD,zF (by simp)];rfl)
  (by
   unfold qD
   rw[zA (by simp),zD,List.take_length])
 rw[show((0:Int),(0:Int))=((0:Int),(((l.take 0).countP fun x=>decide (0≤x.1):Nat):Int))from rfl,key];rfl
theorem bf5 (h:c.Ok)(hl:r.sl.length≤1048576)(hk:r.kp.length≤100000)(hb:0≤c.sl*(((r.sl.countP fun x=>decide (0≤x.1):Nat):Int)+r.kp.length)∧c.fixed+c.sl*(((r.sl.countP fun x=>decide (0≤x.1):Nat):Int)+r.kp.length)≤1048576)(h0:0≤c.fixed):
  ga c.mode c.X c.T c.R c.l c.Q c.k c.len c.words c.R c.l c.Q c.k (c.X.length:Int) c.T c.fixed c.tp c.sl c.ns r.L r.p r.q r.st r.sl r.sx r.kp r.ax r.th r.ls r.n0 r.n1 r.n2 r.n3 r.pk=some (c.fixed+c.sl*(((r.sl.countP fun x=>decide (0≤x.1):Nat):Int)+r.kp.length)):=by
 unfold ga;rw[ca1 _ _ (by omega)];simp only[zG];have:(r.sl.countP fun x=>decide (0≤x.1))≤r.sl.length:=bB;rw[bm (n:=((r.sl.countP fun x=>decide (0≤x.1):Nat):Int)+_) (by omega),bm (n:=c.sl*_) (by omega),bm (by omega)]
theorem ay7 (h:c.Ok){s:Dy}(hi:Inv c s)(H:Slo c s.W r):ga c.mode c.X c.T c.R c.l c.Q c.k c.len c.words c.R c.l c.Q c.k (c.X.length:Int) c.T c.fixed c.tp c.sl c.ns r.L r.p r.q r.st r.sl r.sx r.kp r.ax r.th r.ls r.n0 r.n1 r.n2 r.n3 r.pk=some s.lv:=by
 have hl:=ac9 h hi;have hf:=wM h;have hn:=h.ns;have e:=bL4 H;have hlv:=hi.lv;have hc:0≤c.sl*(kF c s.W:Int):=Int.mul_nonneg (by have:=h.num.sl;have:=h.num.R;rw[h.num.sl];split<;>omega) (by omega);rw[bf5 h (by rw[H.len];omega) (by rw[H.kp];simp) (by rw[e,H.kp];simp only[List.length_nil];rw[show((kF c s.W:Int)+((0:Nat):Int))=(kF c s.W:Int)by omega];omega) (by omega),e,H.kp,hlv];simp
theorem ad9 {W w:List Int}{o:Nat}(ho:o+w.length≤W.length)(hW:W.length≤1048576)(hw:seg W o w.length=w):gw W (o:Int) w=some true:=by
 unfold gw;rw[bm (by omega),zA (by omega),zD]
 have key:=pQ (f:=oQ W (o:Int) w) (n:=w.length) (c:= .inr ()) (by omega)
  (fun i hi=>by
   unfold oQ;rw[zB (by omega),zC,bm (n:=(o:Int)+i) (by omega),show(o:Int)+(i:Int)=((o+i:Nat):Int)by omega,cq (show o+i<W.length by omega),cq hi];simp only[zG];have e:=sI W o w.length i;rw[hw,zE hi,aB hi,aB (show o+i<W.length by omega)]at e;injection e with e
   rw[e,dne,zD,bm (by omega)]
   rfl)
  (by
   unfold oQ
   rw[zA (by omega),zD])
 rw[key];rfl
theorem xP (h:c.Ok){W st:List Int}(hW:Wd c W){i n:Nat}(hi:i<9)(hn:n≤c.sz i)(e:seg W (c.off i) n=st):gw W (c.off i:Int) st=some true:=by
 have h1:=hW.in' h hi;have h2:=hW.tk h;have hl:st.length=n:=by rw[←e];exact dz (by omega)
 exact ad9 (by omega) (by omega) (by rw[hl];exact e)
theorem bQ3 (h:c.Ok)(hm:c.mode≠3)(hW:Wd c W)(wW:ci W)(H:Slo c W r)(ht: ∀k,k<c.ns.toNat→0≤ib c W k∧ib c W k≤65536):qg r.sl r.sx=some (seg W (c.off 8) (c.ns.toNat*(c.X.length+1))):=by
 unfold qg;have hn:=h.ns;have hl:=H.len;have hx:=h.lens;have htk:=hW.tk h
 have key:=fh (f:=pJ r.sl r.sx) (n:=r.sl.length) (fun i=>seg W (c.off 8) (i*(c.X.length+1))) (c:=seg W (c.off 8) (c.ns.toNat*(c.X.length+1))) (by omega)
  (fun i hi=>by
   obtain⟨s1,s2,s3⟩:=uo h hm (k:=i) (by omega);have hto:=ht i (by omega);have hsl:=H.slot i hi;have htag:=yZ H hi;have hi1:(i+1)*(c.X.length+1)=i*(c.X.length+1)+(c.X.length+1):=Nat.succ_mul _ _;unfold sp at s1;have hbase:(seg W (c.off 8) (i*(c.X.length+1))).length=i*(c.X.length+1):=dz (by omega);unfold pJ;simp only;rw[zB (by omega),zC,cq hi];simp only[zG];rw[df (by rw[hbase];omega) (by omega),bm (n:=r.sl[i].1+1) (by omega),htag,show ib c W i-1+1=ib c W i by omega,bi1 (show sX (ib c W i)from vL wW _)]
   have hrg: ∀n,n<c.X.length+1→seg W (c.off 8) (i*(c.X.length+1)+(n+1))=seg W (c.off 8) (i*(c.X.length+1)+n)++[rg W ((sp c i+n:Nat):Int)]:=fun n hn=>by
    have hlt:c.off 8+(i*(c.X.length+1)+n)<W.length:=by omega
    unfold seg;rw[show i*(c.X.length+1)+(n+1)=(i*(c.X.length+1)+n)+1 by omega,aD (by rw[List.length_drop];omega),List.getElem_drop];have:=ec hlt;rw[aB hlt]at this;injection this with this
    rw[this];unfold sp;rw[show c.off 8+(i*(c.X.length+1)+n)=c.off 8+i*(c.X.length+1)+n by omega]
   have inner:=fh (f:=pI r.sl r.sx ((i:Int),seg W (c.off 8) (i*(c.X.length+1)))) (n:=c.X.length) (fun j=>seg W (c.off 8) (i*(c.X.length+1)+(j+1))) (c:=seg W (c.off 8) ((i+1)*(c.X.length+1))) (by omega)
    (fun j hj=>by
     unfold pI;simp only;rw[H.sx,zB (by omega),zC,cq hi];simp only[zG]
     have hv:(cond (decide (0≤r.sl[i].1)) ((rd r.sl[i].2 (j:Int)).bind fun x11=>some x11) (some 0))=some (rg W ((sp c i+(j+1):Nat):Int)):=by
      have hg:seg W (sp c i+1) c.X.length=seg W (sp c i+1) c.X.length:=rfl;have hget:=sI W (sp c i+1) c.X.length j;have hlt:sp c i+1+j<W.length:=by unfold sp;omega
      rw[zE hj,ec hlt]at hget;rcases hsl.2 with⟨q1,q2⟩|⟨q1,q2⟩
      ·rw[zB q1,zC];have hlen:r.sl[i].2.length=c.X.length:=by rw[q2];exact dz (by unfold sp;omega)
       rw[←q2,aB (by omega)]at hget;rw[cq (by omega)];injection hget with hget
       simp only[zG];rw[hget,show sp c i+1+j=sp c i+(j+1)by omega]
      ·rw[q1,zA (by omega),zD];rw[q2]at hget;unfold cg at hget;rw[aB (by simp;omega),List.getElem_replicate]at hget;injection hget with hget
       rw[hget,show sp c i+1+j=sp c i+(j+1)by omega]
     rw[hv];simp only[zG];rw[df (by rw[dz (by omega)];omega) (by omega),bm (by omega),hrg (j+1) (by omega)]
     rfl)
    (by
     unfold pI
     rw[H.sx,zA (by omega),zD,hi1])
   have e0:seg W (c.off 8) (i*(c.X.length+1))++[ib c W i]=seg W (c.off 8) (i*(c.X.length+1)+(0+1)):=by
    rw[hrg 0 (by omega),Nat.add_zero,Nat.add_zero];rfl
   rw[e0,inner];simp only[zG];rw[bm (by omega)]
   rfl)
  (by
   unfold pJ
   rw[zA (by simp),zD,hl])
 rw[show((0:Int),([]:List Int))=((0:Int),seg W (c.off 8) (0*(c.X.length+1)))from by unfold seg;simp,key];rfl
end
end
section
open Int renaming reduceEq → aB, reduceLE → aD
open List renaming getElem?_eq_getElem → bB, getD_eq_getElem?_getD → bD
theorem aQ6 (a n:Int):qh a n=some (jW a n):=by
 have h26:vo a=some (if a=1 then(1,65535)else if 2≤a∧a≤4 then(0,1048575)else(0,0)):=by
  unfold vo;simp only[br]
  repeat' split
  all_goals first|rfl|omega
 unfold qh jW;rw[h26];simp only[zG,br];by_cases h1:a<1
 ·rw[zE h1,zF (show¬1≤a by omega)]
 by_cases h9:9<a
 ·rw[zF h1,zE h9,zE (show 1≤a by omega),zF (show¬a≤9 by omega)]
 rw[zF h1,zF h9,zE (show 1≤a by omega),zE (show a≤9 by omega)];by_cases c1:a=1
 ·rw[zE c1,zE c1];by_cases c2:1≤n
  ·rw[zE c2];congr 1;by_cases c3:n<65536
   ·rw[zB (show n≤65535 by omega),zB ⟨c2,c3⟩]
   ·rw[zA (show¬n≤65535 by omega),zA (by omega)]
  ·rw[zF c2,zA (by omega)]
 rw[zF c1,zF c1];by_cases c4:a≤4
 ·rw[zE (show 2≤a∧a≤4 by omega),zE c4];by_cases c2:0≤n
  ·rw[zE c2];congr 1;by_cases c3:n<1048576
   ·rw[zB (show n≤1048575 by omega),zB ⟨c2,c3⟩]
   ·rw[zA (show¬n≤1048575 by omega),zA (by omega)]
  ·rw[zF c2,zA (by omega)]
 ·rw[zF (show¬(2≤a∧a≤4)by omega),zF c4];by_cases c2:0≤n
  ·rw[zE c2];congr 1;by_cases c3:n≤0
   ·rw[zB c3,zB (by omega)]
   ·rw[zA c3,zA (by omega)]
  ·rw[zF c2,zA (by omega)]
theorem pw (p q:Int){l:List Int}(hl:l.length≤1048576):rY p q l=some (p,q,l):=by
 unfold rY
 have key:=fh (f:=qF l) (n:=l.length) (fun i=>(p,q,l.take i)) (c:=(p,q,l)) (by omega)
  (fun i hi=>by
   unfold qF;simp only;rw[zB (by omega),zC,cq hi];simp only[zG];rw[df (by rw[List.length_take];omega) (by omega),bm (by omega),List.take_succ_eq_append_getElem hi]
   rfl)
  (by
   unfold qF
   rw[zA (by simp),zD,List.take_length])
 rw[List.take_zero]at key;rw[key];rfl
theorem cx4 {L p q:Int}{l:List Int}(hL:0≤L∧L≤65535)(hp:0≤p∧p≤L)(hq: -1≤q∧q≤L)(hl:l.length≤1048576)(h: ∀t∈l,-1≤t∧t≤L):zi L p q l=some (L,p,q,0,l):=by
 unfold zi;rw[zA (by omega),zD,zA (by omega),zD,zA (by omega),zD,zA (by omega),zD,zA (by omega),zD,zA (by omega),zD,zA (by omega),zD]
 have key:=pQ (f:=tu L l) (n:=l.length) (c:= .inr ()) (by omega)
  (fun i hi=>by
   have:=h _ (List.getElem_mem hi);unfold tu;rw[zB (by omega),zC,cq hi];simp only[zG];rw[zA (by omega),zD,zA (by omega),zD,bm (by omega)]
   rfl)
  (by
   unfold tu
   rw[zA (by omega),zD])
 rw[key];simp only[zG,dp];rw[pw p q hl];rfl
theorem cx5 {a n p q L tot:Int}{l:List Int}(hL:0≤L∧L≤65535)(hp:0≤p∧p≤L)(hq: -1≤q∧q≤L)(ht:0≤tot∧tot≤1000000000000)(hl:l.length≤1048576)(hlt: ∀t∈l,-1≤t∧t≤L):
  zj L p q l tot a n=some (L,(bn1 a n p q L tot l).2.1,(bn1 a n p q L tot l).2.2.1,(bn1 a n p q L tot l).2.2.2.2.2,(bn1 a n p q L tot l).2.2.2.2.1,(bn1 a n p q L tot l).1):=by
 unfold zj bn1;rw[aQ6];simp only[zG];by_cases hr:jW a n=false
 ·rw[hr,zE (.inl rfl)];rfl
 have hr':jW a n=true:=by cases h:jW a n with
  |true=>rfl
  |false=>exact(hr h).elim
 rw[hr',Bool.not_true,zD];by_cases h7:7<a
 ·rw[zB h7,zC,zE (.inr h7)]
 rw[zA h7,zD,zF (by simp[h7])];have hk:=tf (a:=a) (n:=n) (by simp[hr',h7]);by_cases hs:(2≤a∧a≤4)∧(l.length:Int)≤n
 ·rw[zE hs];simp only[br];rw[zE hs.1.1];simp only[zG,br];rw[zE hs.1.2,zE hs.2];rfl
 rw[zF hs];have hn:=hk.1;rcases hk.2 with ha|ha|ha|ha|ha|ha|ha
 ·subst ha;have:=pT hn (by omega);simp only[br,aD,if_false,if_true,zG,zD,dp];rw[pw p q hl];simp only[zG];rw[bm (n:=p+n) (by omega),bm (n:=tot+n) (by omega)];by_cases c:L-p<n
  ·rw[zE (by omega),zE c]
  ·rw[zF (by omega),zF c]
 ·subst ha;have hn3:=pT hn (by omega);have hlen:n.toNat<l.length:=by omega
  have hnn:n=((n.toNat:Nat):Int):=by omega
  simp only[br,aD,aB,if_false,if_true,zG];rw[zF (by omega)];simp only[zG,dp,aB,if_false,if_true];rw[pw p q hl];simp only[zG];rw[bF1 (by omega) (by omega)];simp only[zG];have e:l[n.toNat]=rg l n:=by unfold rg;rw[bD,bB hlen];rfl
  rw[e];by_cases c:0≤rg l n
  ·rw[zE c,zE c]
  ·rw[zF c,zF c];rw[show ix n l.length=some n.toNat from(congrArg (fun z=>ix z l.length) hnn).trans (ce hlen)];simp only[zG];rw[bB hlen];rfl
 ·subst ha;have hn3:=pT hn (by omega);have hlen:n.toNat<l.length:=by omega
  simp only[br,aD,aB,if_false,if_true,zG];rw[zF (by omega)];simp only[zG,dp,aB,if_false,if_true];rw[pw p q hl];simp only[zG];rw[bF1 (by omega) (by omega)];simp only[zG];have e:l[n.toNat]=rg l n:=by unfold rg;rw[bD,bB hlen];rfl
  rw[e];by_cases c:rg l n<0
  ·rw[zE c,zE c];rfl
  ·rw[zF c,zF c]
   try rfl
 ·subst ha;have hn3:=pT hn (by omega);have hlen:n.toNat<l.length:=by omega
  have hnn:n=((n.toNat:Nat):Int):=by omega
  simp only[br,aD,aB,if_false,if_true,zG];rw[zF (by omega)];simp only[zG,dp,aB,if_false,if_true];rw[pw p q hl];simp only[zG];rw[bF1 (by omega) (by omega)];simp only[zG,decide_true,if_true];have e:l[n.toNat]=rg l n:=by unfold rg;rw[bD,bB hlen];rfl
  rw[e];by_cases c:rg l n<0
  ·rw[zE c,zE c];rfl
  ·rw[zF c,zF c]
   try rfl
   rw[show ix n l.length=some n.toNat from(congrArg (fun z=>ix z l.length) hnn).trans (ce hlen)];simp only[zG];rw[bB hlen];rfl
 ·subst ha;simp only[br,aD,aB,if_false,if_true,zG,decide_false,zD,dp];rw[pw p q hl];simp only[zG];by_cases c:0≤q
  ·rw[zE c,zE (show q≠ -1 by omega)]
  ·rw[zF c,zF (show¬q≠ -1 by omega)];by_cases c2:p≠L
   ·rw[zE c2,zE c2]
   ·rw[zF c2,zF c2];rw[show L=p by omega]
 ·subst ha;simp only[br,aD,aB,if_false,if_true,zG,decide_false,zD,dp];rw[pw p q hl];simp only[zG];rw[bm (n:=L-1) (by omega)];by_cases c:0≤q
  ·rw[zE c,zE (show q≠ -1 by omega)]
  ·rw[zF c,zF (show¬q≠ -1 by omega)];by_cases c2:p≠L-1
   ·rw[zE c2,zE c2]
   ·rw[zF c2,zF c2,show L-1=p by omega]
 ·subst ha;simp only[br,aD,aB,if_false,if_true,zG,decide_false,zD,dp];rw[pw p q hl];simp only[zG];rw[bm (n:=q-1) (by omega)];by_cases c:q<1
  ·rw[zE c,zE (show q≤0 by omega)]
  ·rw[zF c,zF (show¬q≤0 by omega)];by_cases c2:p≠q-1
   ·rw[zE c2,zE c2]
   ·rw[zF c2,zF c2,show q-1=p by omega]
end
section
open Int renaming toNat_natCast → cB
open List renaming length_cons → aB, length_set → aD, getD_eq_getElem?_getD → bD, getElem_set → cD, length_take → dB
open Nat renaming le_refl → bB, mul_le_mul_right → dD
section
variable {c:Cx} {r:RS}
def aA9 (B:Int)(r:RS):Prop:=(0≤r.n0∧r.n0≤B)∧(0≤r.n1∧r.n1≤B)∧(0≤r.n2∧r.n2≤B)∧(0≤r.n3∧r.n3≤B)
theorem RelD.cnt {s:Dy}(H:RelD c s r){B:Int}(hc:Cnt B s):aA9 B r:=by
 unfold aA9 Cnt at*;rw[H.n0,H.n1,H.n2,H.n3];exact hc
def uI (c:Cx)(x:List Int)(r:RS):RS:={r with ls:=lossV c x,n2:=r.n2+1,n3:=r.n3+1,ax:=(w7 c x).take c.X.length,th:=tY c.X.length r.th (w7 c x)}
def bt1 (c:Cx)(t:Int)(x:List Int)(r:RS):RS:={r with n3:=r.n3+1,ax:=(uY c t x r.ax).take c.X.length,th:=tY c.X.length r.th (uY c t x r.ax)}
theorem aM3 (h:c.Ok)(wT:ci c.T){x:List Int}(hx:x.length=c.X.length)(wx:ci x)(hth:r.th.length=c.T.length)(wth:ci r.th){B:Int}(hc:aA9 B r)(hB:B≤4611686018427387904):
  mA c.mode c.X c.T c.R c.l c.Q c.k c.len c.words c.R c.l c.Q c.k (c.X.length:Int) c.T c.fixed c.tp c.sl c.ns r.L r.p r.q r.st r.sl r.sx r.kp r.ax r.th r.ls r.n0 r.n1 r.n2 r.n3 r.pk x=some (c.mode,c.X,c.T,c.R,c.l,c.Q,c.k,c.len,c.words,c.R,c.l,c.Q,c.k,(c.X.length:Int),c.T,c.fixed,c.tp,c.sl,c.ns,r.L,r.p,r.q,r.st,r.sl,r.sx,r.kp,(uI c x r).ax,(uI c x r).ls,(uI c x r).n0,(uI c x r).n1,(uI c x r).n2,(uI c x r).n3,r.pk,(uI c x r).th):=by
 obtain⟨⟨l1,l2⟩,hR,hQ,x1,x2,t2⟩:=h.lens;obtain⟨p1,p2⟩:=xL h wT hx wx;unfold aA9 at hc;unfold mA;rw[bZ9 h wT hx wx,bf1 h wT hx wx];simp only[zG];rw[←hth,br9 (by omega) (by rw[hth];omega) wth p2];simp only[zG];rw[bm (by omega),bm (by omega)];rfl
theorem az7 (h:c.Ok)(wT:ci c.T){t:Int}(ht:0≤t∧t<65536){x:List Int}(hx:x.length=c.X.length)(wx:ci x)(hax:r.ax.length=c.X.length)(wax:ci r.ax)(hth:r.th.length=c.T.length)(wth:ci r.th){B:Int}(hc:aA9 B r)(hB:B≤4611686018427387904):
  lb c.mode c.X c.T c.R c.l c.Q c.k c.len c.words c.R c.l c.Q c.k (c.X.length:Int) c.T c.fixed c.tp c.sl c.ns r.L r.p r.q r.st r.sl r.sx r.kp r.ax r.th r.ls r.n0 r.n1 r.n2 r.n3 r.pk t x=some (c.mode,c.X,c.T,c.R,c.l,c.Q,c.k,c.len,c.words,c.R,c.l,c.Q,c.k,(c.X.length:Int),c.T,c.fixed,c.tp,c.sl,c.ns,r.L,r.p,r.q,r.st,r.sl,r.sx,r.kp,(bt1 c t x r).ax,r.ls,r.n0,r.n1,r.n2,(bt1 c t x r).n3,r.pk,(bt1 c t x r).th):=by
 obtain⟨⟨l1,l2⟩,hR,hQ,x1,x2,t2⟩:=h.lens;obtain⟨p1,p2⟩:=xM h wT (t:=t) hx wx hax wax;unfold aA9 at hc;unfold lb;rw[bf2 h wT ht hx wx hax wax];simp only[zG];rw[←hth,br9 (by omega) (by rw[hth];omega) wth p2];simp only[zG];rw[bm (by omega)];rfl
theorem bf4 {l:List (Int×List Int)}{sx:Int}{k:Nat}{t:Int}{x:List Int}(hl:l.length≤1048576)(hk:k<l.length):rW l sx (k:Int) t x=some (sx,l.set k (t,x)):=by
 unfold rW
 have key:=fh (f:=qE (k:Int)) (n:=l.length) (fun i=>(l,sx,t,x,sx,(l.set k (t,x)).take i)) (c:=(l,sx,t,x,sx,l.set k (t,x))) (by omega)
  (fun i hi=>by
   have hi':i<(l.set k (t,x)).length:=by rw[aD];exact hi
   unfold qE;simp only;rw[zB (by omega),zC,List.take_succ_eq_append_getElem hi',cD];by_cases he:k=i
   ·rw[zB (by omega),zC,df (by rw[dB];omega) (by omega),bm (by omega),zE he];rfl
   ·rw[zA (by omega),zD,cq hi];simp only[zG];rw[df (by rw[dB];omega) (by omega),bm (by omega),zF he]
    rfl)
  (by
   unfold qE;rw[zA (by simp),zD];simp only
   rw[List.take_of_length_le (by simp)])
 rw[List.take_zero]at key;rw[key];rfl
theorem ab7.kept {W W':List Int}(hK:fc c W W'){k:Nat}{x:Int×List Int}(h:ab7 c W k x):ab7 c W' k x:=by
 unfold ab7 at*;rw[hK.tag,hK.seg (by unfold sp;omega)];exact h
theorem Slo.kept {W W':List Int}{r r':RS}(H:Slo c W r)(hK:fc c W W')(e1:r'.kp=r.kp)(e2:r'.sx=r.sx)(e3:r'.sl=r.sl):Slo c W' r':=by
 refine⟨e1.trans H.kp,e2.trans H.sx,by rw[e3];exact H.len,fun k hk=> ?_⟩;have:r'.sl[k]=r.sl[k]'(by rw[←e3];exact hk):=by simp only[e3]
 rw[this];exact(H.slot k _).kept hK
theorem Has.put8 (h:c.Ok){W st ax at':List Int}(H:Has c W st ax at'){o:Nat}{w:List Int}(ho:c.off 8≤o)(hw:o+w.length≤c.off 9)(ww:ci w):Has c (Go.V.put W o w) st ax at':=by
 have htk:=H.wd.tk h
 have key: ∀j n,j<8→n≤c.sz j→seg (Go.V.put W o w) (c.off j) n=seg W (c.off j) n:=fun j n hj hn=>
  xc (by omega) (.inl (by have:=jc (c:=c) hj;omega))
 exact⟨H.wd.put h hw,H.w.put ww _,(key 0 _ (by omega) (bB _)).trans H.t,(key 1 _ (by omega) (bB _)).trans H.s,(key 5 _ (by omega) (bB _)).trans H.x,(key 6 _ (by omega) (bB _)).trans H.a⟩
theorem cz1 (h:c.Ok)(hm:c.mode≠3){W:List Int}(hW:Wd c W){k:Nat}(hk:k<c.ns.toNat){v:Int}{x:List Int}(hx:x.length=c.X.length):
  (∀j,j<c.ns.toNat→j≠k→∀y,ab7 c W j y→ab7 c (put W (sp c k) (v::x)) j y)∧ib c (put W (sp c k) (v::x)) k=v∧seg (put W (sp c k) (v::x)) (sp c k+1) c.X.length=x:=by
 obtain⟨s1,s2,s3⟩:=uo h hm hk;have htk:=hW.tk h;have hlen:sp c k+(v::x).length≤W.length:=by rw[aB];omega
 refine⟨fun j hj hne y hy=> ?_, ?_, ?_⟩
 ·have hd:sp c j+(c.X.length+1)≤sp c k∨sp c k+(v::x).length≤sp c j:=by
   rw[aB,hx];unfold sp;rcases Nat.lt_or_gt_of_ne hne with hlt|hgt
   ·left;have:=dD (c.X.length+1) (show j+1≤k from hlt);rw[Nat.succ_mul]at this;omega
   ·right;have:=dD (c.X.length+1) (show k+1≤j from hgt);rw[Nat.succ_mul]at this;omega
  unfold ab7 at*
  have e1:ib c (put W (sp c k) (v::x)) j=ib c W j:=by
   unfold ib rg;rw[cB,bD,bD,bE9 hlen (by rcases hd with hd|hd<;>omega)]
  rw[e1,xc hlen (by rcases hd with hd|hd;exact .inl (by omega);exact .inr (by omega))];exact hy
 ·unfold ib rg;rw[cB,bD,ad5 hlen,zE (by rw[aB];omega),Nat.sub_self];rfl
 ·apply List.ext_getElem?;intro i;rw[sI,ad5 hlen];by_cases hi:i<c.X.length
  ·rw[zE hi,zE (by rw[aB,hx];omega),show sp c k+1+i-sp c k=i+1 by omega];rfl
  ·rw[zF hi,List.getElem?_eq_none (by omega)]
theorem Slo.put (h:c.Ok)(hm:c.mode≠3){W:List Int}{r r':RS}(H:Slo c W r)(hW:Wd c W){k:Nat}(hk:k<c.ns.toNat){t:Int}{x y:List Int}(hx:x.length=c.X.length)(hy:(0≤t∧y=x)∨(t= -1∧x=cg c.X.length))(e1:r'.kp=r.kp)(e2:r'.sx=r.sx)(e3:r'.sl=r.sl.set k (t,y)):Slo c (Go.V.put W (sp c k) ((t+1)::x)) r':=by
 obtain⟨p1,p2,p3⟩:=cz1 h hm hW hk (v:=t+1) hx;have hl:=H.len;refine⟨e1.trans H.kp,e2.trans H.sx,by rw[e3,aD];exact hl,fun j hj=> ?_⟩;have hj':j<r.sl.length:=by rw[e3,aD]at hj;exact hj
 have e4:r'.sl[j]=(r.sl.set k (t,y))[j]'(by rw[aD];exact hj'):=by simp only[e3]
 rw[e4,cD];by_cases he:k=j
 ·subst he;rw[zE rfl];unfold ab7;rw[p2,p3];refine⟨rfl, ?_⟩;rcases hy with⟨a,b⟩|⟨a,b⟩
  ·exact .inl ⟨a,b⟩
  ·exact .inr ⟨a,b⟩
 ·rw[zF he];exact p1 j (by omega) (fun e=>he e.symm) _ (H.slot j hj')
end
end
end Go.V
