/- A part of the proofs of this claim: what functions of the program answer on an abstract machine, and plain laws. No condition. -/
import Derived.Test.YtpipfcfblmfnjaaGreatL2
import Derived.Test.YtpipfcfblmfnjaaGreatA6
import Derived.Test.YtpipfcfblmfnjaaGreatD2
set_option linter.unusedVariables false
set_option linter.unusedSimpArgs false
set_option linter.unusedSectionVars false
namespace Go.V
open Go.Ab
section
open List renaming length_take → aB
set_option maxRecDepth 100000
section
variable {c:Cx}
theorem cw4 (h:c.Ok)(hm:c.mode=3){s:Dy}(hi:InvB c s)(a n:Int):InvB c (plF c a n s).2:=by
 have nm:=h.num;have hW:=hi.w;have hL:=hi.L;have hp:=hi.p;have hq:=hi.q;have hpk:=hi.pk;have hqp:=hi.qp;have hns:=h.ns;have nR:=nm.R;have n1:=nm.xtR;have nx:=nm.x;obtain⟨g1,g2,g3,g4,g5,g6,g7⟩:=cj2 h hm hi;have htp:=nm.tp;rw[zE hm]at htp;have l1:(seg s.W (c.off 1) c.X.length).length=c.X.length:=fh (hW.in' h (i:=1) (by omega));have z1:c.sz 1=c.X.length:=rfl;have o1:=lr (c:=c) (i:=1) (j:=9) (by omega);unfold plF;by_cases a8:a=8
 ·rw[zE a8];by_cases hn:n≠0
  ·rw[zE hn];exact hi
  rw[zF hn];by_cases hq0:0≤s.q
  ·rw[zE hq0];exact hi
  rw[zF hq0];by_cases hpl:s.p=s.L
  ·rw[zE hpl];exact hi
  rw[zF hpl];have hheld:pV s=s.p:=by unfold pV;rw[zE (by omega)]
  have hlt:s.p.toNat<c.ns.toNat:=by omega
  obtain⟨s1,s2,s3,s4⟩:=ag2 h hm hlt;obtain⟨f1,f2,f3⟩:=gG h hW s.p;have w1:=tA h hW s.p;have hla:((io c s.W s.p).2.1++(io c s.W s.p).1).length=c.sl.toNat:=by rw[List.length_append];omega
  have w2:=w1.put h (w:=(io c s.W s.p).2.1++(io c s.W s.p).1) (o:=wQ c s.p.toNat) (by rw[hla];exact s3);have hbd:=g5 (by rw[hheld];omega);refine⟨w2.put h (by rw[aB];omega),hL,⟨by show 0≤s.p+1;omega,by show s.p+1≤s.L;omega⟩,hq,fun hq1=> ?_, ?_, ?_⟩
  ·have hq1:0≤s.q:=hq1;omega
  ·show s.lv+c.sl=c.fixed+c.sl*(if s.q<0 then s.p+1 else s.q);rw[zE (by omega),hi.lv,hheld,Int.mul_add,Int.mul_one];omega
  ·show s.lv+c.sl≤max s.pk (s.lv+c.sl)∧max s.pk (s.lv+c.sl)≤c.words;omega
 rw[zF a8];by_cases a5:a=5
 ·rw[zE a5];by_cases hn:n≠0
  ·rw[zE hn];exact hi
  rw[zF hn];by_cases hq0:0≤s.q
  ·rw[zE hq0];exact hi
  rw[zF hq0];by_cases hpl:s.p≠s.L
  ·rw[zE hpl];exact hi
  rw[zF hpl];refine⟨(yn h hW l1).2,hL,hp,⟨by show-1≤s.L;omega,Int.le_refl _⟩,fun _=>by show s.p=s.L;omega, ?_, ?_⟩
  ·show s.lv=c.fixed+c.sl*(if s.L<0 then s.p else s.L);rw[zF (by omega),hi.lv];unfold pV;rw[zE (by omega),show s.p=s.L by omega]
  ·show s.lv≤max s.pk (s.lv+(c.fk.n:Int))∧max s.pk (s.lv+(c.fk.n:Int))≤c.words;omega
 rw[zF a5];by_cases a9:a=9
 ·rw[zE a9];by_cases hn:n≠0
  ·rw[zE hn];exact hi
  rw[zF hn];by_cases hq1:s.q<1
  ·rw[zE hq1];exact hi
  rw[zF hq1];have hlt:(s.q-1).toNat<c.ns.toNat:=by omega
  obtain⟨b1,b2,b3,b4,b5,b6⟩:=aF4 h hm hW hlt;obtain⟨v1,v2,v3⟩:=kC h (a:=(aR5 c s.W (s.q-1).toNat).2.1) hW (by omega) (by omega);refine⟨v3.put h (by rw[aB];omega),hL,⟨by show 0≤s.q-1;omega,by show s.q-1≤s.L;omega⟩,⟨by show-1≤s.q-1;omega,by show s.q-1≤s.L;omega⟩,fun _=>rfl, ?_, ?_⟩
  ·show s.lv-c.sl=c.fixed+c.sl*(if s.q-1<0 then s.q-1 else s.q-1);have hheld:pV s=s.q:=by unfold pV;rw[zF (by omega)]
   rw[zF (by omega),hi.lv,hheld,Int.mul_sub,Int.mul_one];omega
  ·show s.lv-c.sl≤s.pk∧s.pk≤c.words;have:=nm.sl;rw[zE hm]at this;omega
 rw[zF a9];exact hi
theorem cw3 {s:Dy}{B:Int}(hc:Cnt B s)(a n:Int):Cnt (B+65536) (plF c a n s).2:=by
 have key:Cnt (B+65536) s:=by unfold Cnt at hc⊢;omega
 unfold plF
 repeat' split
 all_goals first|exact key|(unfold Cnt at hc⊢;simp only;omega)
def ur (c:Cx)(s:Dy):Int×Dy:=if c.mode≠2 then(19,s)else if 0≤s.q then(19,s)else if s.L=65535 then(14,s)else(0,{s with L:=s.L+1})
theorem bh7 {s:Dy}{B:Int}(hc:Cnt B s):Cnt (B+65536) (ur c s).2:=by
 have key:Cnt (B+65536) s:=by unfold Cnt at hc⊢;omega
 unfold ur
 repeat' split
 all_goals first|exact key|(unfold Cnt at hc⊢;simp only;omega)
theorem bM9 (hm:c.mode=3){s:Dy}(hi:InvB c s):InvB c (ur c s).2:=by
 unfold ur;rw[zE (by omega)];exact hi
theorem bN0 {s:Dy}(hi:Inv c s):Inv c (ur c s).2:=by
 unfold ur;split
 ·exact hi
 split
 ·exact hi
 split
 ·exact hi
 ·have:=hi.L;have:=hi.p;have:=hi.q;exact⟨hi.w,⟨by show 0≤s.L+1;omega,by show s.L+1≤65535;omega⟩,⟨hi.p.1,by show s.p≤s.L+1;omega⟩,⟨hi.q.1,by show s.q≤s.L+1;omega⟩,fun k hk=>by have:=hi.tag k hk;exact⟨this.1,by show hY c s.W k≤s.L+1+1;omega⟩,hi.lv,hi.pk⟩
theorem cb0 {s:Dy}(hl:bx8 c s):bx8 c (ur c s).2:=by
 intro hm;unfold ur;rw[zE hm];exact hl hm
theorem cJ0 (a n:Int)(s:Dy):(doF c a n s).2.L=s.L:=by
 unfold doF;by_cases h1:iI a n=false∨7<a
 ·rw[zE h1]
 rw[zF h1];by_cases h4:(2≤a∧a≤4)∧c.ns≤n
 ·rw[zE h4]
 rw[zF h4]
 have two: ∀{P:Prop} [Decidable P] {x y:Int×Dy},x.2.L=s.L→y.2.L=s.L→(if P then x else y).2.L=s.L:=by
  intro P _ x y hx hy;by_cases hP:P
  ·rw[zE hP];exact hx
  ·rw[zF hP];exact hy
 exact two (two rfl rfl) (two (two rfl rfl) (two (two rfl rfl) (two (two rfl rfl) (two (two rfl (two rfl rfl)) (two (two rfl (two rfl rfl)) (two rfl (two rfl rfl)))))))
theorem cr2 {s:Dy}(hl:bx8 c s)(a n:Int):bx8 c (doF c a n s).2:=fun hm=>(cJ0 a n s).trans (hl hm)
def cI1 (c:Cx)(x:Int×Int)(s:Dy):Int×Dy:=if x.1=0 then ur c s else plF c x.1 x.2 s
theorem cK7 {s:Dy}(hL:0≤s.L∧s.L≤65535):gH c.fixed c.tp c.sl c.ns c.mode c.R c.Q c.len c.words s.L s.p s.q s.c0 s.c1 s.c2 s.c3 s.z c.X c.T c.l c.k c.P c.tk (c.off 8:Int) c.ns (c.X.length:Int) s.lv s.pk c.words s.W=some ((ur c s).1,c.fixed,c.tp,c.sl,c.ns,c.mode,c.R,c.Q,c.len,c.words,(ur c s).2.L,s.p,s.q,s.c0,s.c1,s.c2,s.c3,s.z):=by
 unfold gH ur;rw[cr];by_cases h1:c.mode≠2
 ·rw[zE h1,zE h1]
 rw[zF h1,zF h1,cr];by_cases h2:0≤s.q
 ·rw[zE h2,zE h2]
 rw[zF h2,zF h2,cr];by_cases h3:s.L=65535
 ·rw[zE h3,zE h3]
 rw[zF h3,zF h3,ck (by omega)]
def bW7 (c:Cx)(x:Int×Int)(s:Dy):Int×Dy:=if x.1=0 then ur c s else doF c x.1 x.2 s
structure Well1 (c:Cx)(i:Nat)(s:Dy):Prop where
 inv:InvB c s
 cnt:Cnt (65536*i) s
structure Well2 (c:Cx)(i:Nat)(s:Dy):Prop where
 inv:Inv c s
 cnt:Cnt (65536*i) s
 len:bx8 c s
theorem Well1.act (h:c.Ok)(hm:c.mode=3){i:Nat}{s:Dy}(w:Well1 c i s)(x:Int×Int):Well1 c (i+1) (cI1 c x s).2:=by
 have e:(65536:Int)*((i+1:Nat):Int)=65536*i+65536:=by omega
 unfold cI1;split
 ·exact⟨bM9 hm w.inv,by rw[e];exact bh7 w.cnt⟩
 ·exact⟨cw4 h hm w.inv _ _,by rw[e];exact cw3 w.cnt _ _⟩
theorem Well2.act (h:c.Ok)(hm:c.mode≠3){i:Nat}{s:Dy}(w:Well2 c i s)(x:Int×Int):Well2 c (i+1) (bW7 c x s).2:=by
 have e:(65536:Int)*((i+1:Nat):Int)=65536*i+65536:=by omega
 unfold bW7;split
 ·exact⟨bN0 w.inv,by rw[e];exact bh7 w.cnt,cb0 w.len⟩
 ·exact⟨cr1 h hm w.inv _ _,by rw[e];exact cr0 w.cnt _ _,cr2 w.len _ _⟩
theorem Well1.L (h:c.Ok){i:Nat}{s:Dy}(w:Well1 c i s):0≤s.L∧s.L≤65535:=by
 have:=w.inv.L;have:=h.num.len;omega
def cL4 (f:(Int×Int)→Dy→Int×Dy)(l:List (Int×Int))(s:Dy):Nat→Dy
 |0=>s
 |i+1=>(f (l.getD i (0,0)) (cL4 f l s i)).2
theorem cu4 (s:Dy)(h:s.c0=0∧s.c1=0∧s.c2=0∧s.c3=0):Cnt (65536*(0:Nat)) s:=by
 unfold Cnt;omega
theorem bj6 (h:c.Ok)(hm:c.mode≠3)(l:List (Int×Int)): ∀i,Well2 c i (cL4 (bW7 c) l (new2 c) i)
 |0=>⟨ck4 h hm,cu4 _ ⟨rfl,rfl,rfl,rfl⟩,fun _=>rfl⟩
 |i+1=>(bj6 h hm l i).act h hm _
def bF7 (c:Cx)(s:Dy):Int×Int×(List Int)×List Int:=if s.q≠0 then(0,19,[],[])else(s.z,0,seg s.W (c.off 5) c.X.length,seg s.W (c.off 6) c.T.length)
end
end
section
section
variable {c:Cx}
end
end
section
section
variable {a0:Int} {a1 a2:List Int} {a3:Int} {a4:List dR} {a5:Int} {a6:List dR} {a7 a8:Int}
theorem cy1 (h4: ∀o∈a4,okV o)(h6: ∀o∈a6,okV o):ey a0 a1 a2 a3 a4 a5 a6 a7 a8=some false∨(ey a0 a1 a2 a3 a4 a5 a6 a7 a8=some true∧OpsOk a4∧OpsOk a6∧a1.length≤200∧a2.length≤200):=by
 unfold ey vy;by_cases c1:(a4.length:Int)≤60
 ·by_cases c2:(a6.length:Int)≤60
  ·by_cases c3:(a1.length:Int)≤200
   ·by_cases c4:(a2.length:Int)≤200
    ·have o4:OpsOk a4:=⟨by omega,h4⟩;have o6:OpsOk a6:=⟨by omega,h6⟩;rw[zB c1,zB c2,zB c3,zB c4];simp only[zC,zG,Bool.not_true,zD];rw[cm4 o4 o6 (by omega) (by omega)];simp only[zG,cr]
     have key: ∀b:Bool,(some b=some false)∨(some b=some true∧OpsOk a4∧OpsOk a6∧a1.length≤200∧a2.length≤200):=fun b=>by
      cases b
      ·exact .inl rfl
      ·exact .inr ⟨rfl,o4,o6,by omega,by omega⟩
     repeat' split
     all_goals exact key _
    ·rw[zB c1,zB c2,zB c3,zA c4];exact .inl rfl
   ·rw[zB c1,zB c2,zA c3];exact .inl rfl
  ·rw[zB c1,zA c2];exact .inl rfl
 ·rw[zA c1];exact .inl rfl
end
end
section
open Nat renaming le_refl → aB, mul_add → aD, eq_zero_or_pos → aW
def ch :Nat→Nat→Nat
 |_,0=>1
 |0,_+1=>0
 |n+1,k+1=>ch n k+ch n (k+1)
theorem aS8 (n:Nat):ch n 0=1:=by cases n<;>rfl
theorem aA9 (n k:Nat):ch (n+1) (k+1)=ch n k+ch n (k+1):=rfl
theorem br0 : ∀n k,ch (n+1) (k+1)*(k+1)=ch n k*(n+1)
 |0,0=>rfl
 |0,k+1=>by rw[aA9];simp[ch]
 |n+1,0=>by
  have h:=br0 n 0;rw[aS8]at h;rw[aA9 (n+1) 0,aS8];omega
 |n+1,k+1=>by
  have h1:=br0 n k;have h2:=br0 n (k+1);rw[aA9 (n+1) (k+1),Nat.add_mul,h2,show k+1+1=(k+1)+1 from rfl,aD (ch (n+1) (k+1)),h1,Nat.mul_one,aA9 n k,aD (ch n k+ch n (k+1)) (n+1) 1,Nat.add_mul];omega
theorem br2 : ∀{n k:Nat},k≤n→1≤ch n k
 |n,0,_=>by rw[aS8];exact aB _
 |n+1,k+1,h=>by rw[aA9];have:=br2 (n:=n) (k:=k) (by omega);omega
theorem br1 : ∀{n k:Nat},n<k→ch n k=0
 |0,k+1,_=>rfl
 |n+1,k+1,h=>by rw[aA9,br1 (by omega),br1 (by omega)]
theorem br3 (n:Nat):ch n n=1:=by
 induction n with
 |zero=>rfl
 |succ n ih=>rw[aA9,ih,br1 (by omega)]
theorem av1 : ∀s a b,a+b=s→ch s a=ch s b
 |0,a,b,h=>by rw[show a=0 by omega,show b=0 by omega]
 |s+1,0,b,h=>by rw[show b=s+1 by omega,aS8,br3]
 |s+1,a+1,0,h=>by rw[show a=s by omega,aS8,br3]
 |s+1,a+1,b+1,h=>by
  rw[aA9,aA9,av1 s a (b+1) (by omega),av1 s (a+1) b (by omega)];omega
theorem cI8 (d i:Nat):ch (d+i) i≤ch (d+(i+1)) (i+1):=by
 rw[show d+(i+1)=(d+i)+1 by omega,aA9];omega
theorem bL0 (d:Nat){i j:Nat}(h:i≤j):ch (d+i) i≤ch (d+j) j:=by
 induction j with
 |zero=>rw[show i=0 by omega];exact aB _
 |succ j ih=>
  by_cases hi:i=j+1
  ·rw[hi];exact aB _
  ·exact Nat.le_trans (ih (by omega)) (cI8 d j)
theorem av0 {s:Nat}(hs:1≤s): ∀l,l+1≤ch (s+l) l
 |0=>by rw[aS8];exact aB _
 |l+1=>by
  rw[show s+(l+1)=(s+l)+1 by omega,aA9];have:=av0 hs l;have:=br2 (n:=s+l) (k:=l+1) (by omega);omega
theorem cg5 (r:Nat):ch (1+r) r=r+1:=by
 induction r with
 |zero=>rfl
 |succ r ih=>rw[show 1+(r+1)=(1+r)+1 by omega,aA9,ih,Nat.add_comm 1 r,br3]
def kg :Nat:=1099511627776
def chI (n k:Int):Int:=if n<0∨k<0∨n<k then 0 else((min kg (ch n.toNat k.toNat):Nat):Int)
theorem bS0 {d i:Nat}(hi:1≤i):ch (d+(i-1)) (i-1)*(d+i) / i=ch (d+i) i:=by
 have:=br0 (d+(i-1)) (i-1);rw[show i-1+1=i by omega,show d+(i-1)+1=d+i by omega]at this;rw[←this];exact Nat.mul_div_cancel _ (by omega)
theorem bY8 (c m i:Nat):c*(m / i)+c*(m % i) / i=c*m / i:=by
 rcases aW i with rfl|h
 ·simp
 ·conv=>rhs;rw[←Nat.div_add_mod m i,aD,Nat.mul_left_comm,Nat.mul_add_div h]
structure IsRep (l s r:Nat):Prop where
 up:l≤ch (s+r) r
 low: ∀x,x<r→ch (s+x) x<l
theorem IsRep.eq {l s r r':Nat}(h:IsRep l s r)(h':IsRep l s r'):r=r':=by
 rcases Nat.lt_trichotomy r r' with k|k|k
 ·have:=h'.low _ k;have:=h.up;omega
 ·exact k
 ·have:=h.low _ k;have:=h'.up;omega
theorem IsRep.le {l s r:Nat}(h:IsRep l s r)(hs:1≤s):r≤l:=by
 rcases Nat.lt_or_ge l r with k|k
 ·have:=h.low _ k;have:=av0 hs l;omega
 ·exact k
theorem cw8 (l:Nat):IsRep l 1 (l-1):=⟨by rw[cg5];omega,fun x hx=>by rw[cg5];omega⟩
theorem cF3 {l s r:Nat}(h:l≤ch (s+r) r)(h':r=0∨ch (s+(r-1)) (r-1)<l):IsRep l s r:=
 ⟨h,fun x hx=>by
  rcases h' with h'|h'
  ·omega
  ·exact Nat.lt_of_le_of_lt (bL0 s (show x≤r-1 by omega)) h'⟩
def spI (n c r:Int):Int:=max 1 (max (chI (c+r-2) c) (n-chI (c+r-1) (c-1)))
theorem aL4 {n k:Nat}(h:k≤n):chI (n:Int) (k:Int)=((min kg (ch n k):Nat):Int):=by
 unfold chI;rw[zF (by omega)];rfl
theorem cC6 (n k:Int):0≤chI n k∧chI n k≤1099511627776:=by
 unfold chI kg;split<;>omega
theorem cF8 {n c r:Nat}(hn:2≤n)(hc:1≤c)(hr:IsRep n c r)(hM:n≤65536):1≤spI n c r∧spI n c r≤n-1∧(c=1→spI n c r=n-1):=by
 have r1:1≤r:=by
  rcases aW r with h|h
  ·have:=hr.up;rw[h,aS8]at this;omega
  ·exact h
 have hlow:=hr.low (r-1) (by omega)
 have a1:chI ((c:Int)+r-2) c≤(n:Int)-1:=by
  unfold chI;split
  ·omega
  ·rename_i h;rw[show((c:Int)+r-2).toNat=c+r-2 by omega,Int.toNat_natCast];have e1:ch (c+(r-1)) (r-1)=ch (c+(r-1)) c:=av1 _ _ _ (by omega)
   have e2:ch (c+r-2) c≤ch (c+(r-1)) c:=by
    obtain⟨c',rfl⟩: ∃c',c=c'+1:=⟨c-1,by omega⟩
    rw[show c'+1+(r-1)=(c'+1+r-2)+1 by omega,aA9];omega
   omega
 have b0:1≤chI ((c:Int)+r-1) (c-1):=by
  rw[show(c:Int)+r-1=((c+r-1:Nat):Int)by omega,show(c:Int)-1=((c-1:Nat):Int)by omega,aL4 (by omega)];have:=br2 (n:=c+r-1) (k:=c-1) (by omega);unfold kg;omega
 unfold spI;refine⟨by omega,by omega,fun hc1=> ?_⟩;subst hc1
 have b1:chI (((1:Nat):Int)+r-1) (((1:Nat):Int)-1)=1:=by
  rw[show(((1:Nat):Int))+r-1=((r:Nat):Int)by omega,show(((1:Nat):Int))-1=((0:Nat):Int)by omega,aL4 (by omega),aS8];rfl
 rw[b1];omega
end
section
open List renaming getElem_mem → aB
structure Mc where
 L:Int
 p:Int
 q:Int
 t:List Int
def mac (a:Int×Int)(m:Mc):Option Mc:=
 if a.1=1 then(if 1≤a.2∧a.2≤65535∧m.p+a.2≤m.L then some {m with p:=m.p+a.2}else none)
 else if a.1=2 then(if 0≤a.2∧a.2<m.t.length∧m.t.getD a.2.toNat 0<0 then some {m with t:=m.t.set a.2.toNat m.p}else none)
 else if a.1=3 then(if 0≤a.2∧a.2<m.t.length∧0≤m.t.getD a.2.toNat 0 then some {m with p:=m.t.getD a.2.toNat 0}else none)
 else if a.1=4 then(if 0≤a.2∧a.2<m.t.length∧0≤m.t.getD a.2.toNat 0 then some {m with t:=m.t.set a.2.toNat (-1)}else none)
 else if a.1=5 then(if a.2=0∧m.q= -1∧m.p=m.L then some {m with q:=m.p}else none)
 else if a.1=6 then(if a.2=0∧m.q= -1∧m.p=m.L-1 then some {m with q:=m.p}else none)
 else if a.1=7 then(if a.2=0∧0<m.q∧m.p=m.q-1 then some {m with q:=m.p}else none)
 else none
inductive Run (nx:Mc→Option (Int×Int)):Mc→List (Int×Int)→Mc→Prop
 |nil (m:Mc):Run nx m [] m
 |cons {m m' m'':Mc} {a:Int×Int} {l:List (Int×Int)}:nx m=some a→mac a m=some m'→Run nx m' l m''→Run nx m (a::l) m''
theorem Run.append {nx:Mc→Option (Int×Int)}{m m' m'':Mc}{l l':List (Int×Int)}(h:Run nx m l m')(h':Run nx m' l' m''):Run nx m (l++l') m'':=by
 induction h with
 |nil=>exact h'
 |cons a b _ ih=>exact .cons a b (ih h')
theorem Run.one {nx:Mc→Option (Int×Int)}{m m':Mc}{a:Int×Int}(h1:nx m=some a)(h2:mac a m=some m'):Run nx m [a] m':= .cons h1 h2 (.nil _)
def kw (t:List Int):Int:=t.foldl max (-1)
def qW (t:List Int)(x:Int):Nat:=t.findIdx fun y=>decide (y=x)
def yT (t:List Int):Nat:=t.countP fun y=>decide (y<0)
def vac (t:List Int):Nat:=t.findIdx fun y=>decide (y<0)
def am4 (l s:Nat):Nat:=((List.range (l+1)).find? fun r=>decide (l≤ch (s+r) r)).getD 0
theorem bV2 (l:Nat){s:Nat}(hs:1≤s):IsRep l s (am4 l s):=by
 unfold am4;cases h:(List.range (l+1)).find? fun r=>decide (l≤ch (s+r) r)with
 |none=>
  have:=List.find?_eq_none.1 h l (List.mem_range.2 (by omega));have:=av0 hs l;simp only[decide_eq_true_eq]at*;omega
 |some r=>
  obtain⟨h1,h2⟩:=List.find?_range_eq_some.1 h;refine⟨of_decide_eq_true h1,fun x hx=> ?_⟩;have:=h2.2 x hx;simp only[Bool.not_eq_true',decide_eq_false_iff_not]at this;omega
def uV (m:Mc):Option (Int×Int):=
 let e:=if m.q<0 then m.L else m.q
 if 0≤m.q∧e≤kw m.t then some (4,qW m.t (kw m.t))
 else if m.q=0 then none
 else if m.q<0∧m.p=m.L then some (5,0)
 else if m.p=e-1 then(if 0≤m.q then some (7,0)else some (6,0))
 else if kw m.t<0 then(if e≤m.p then none else some (2,0))
 else if m.p<kw m.t∨e≤m.p then some (3,qW m.t (kw m.t))
 else if kw m.t<m.p∧0<yT m.t then some (2,vac m.t)
 else if kw m.t<m.p then some (1,e-1-m.p)
 else some (1,spI (e-kw m.t) (yT m.t+1) (am4 (e-kw m.t).toNat (yT m.t+1)))
theorem qB (t:List Int): ∀x,x≤t.foldl max x∧(∀y∈t,y≤t.foldl max x)∧(t.foldl max x=x∨t.foldl max x∈t):=by
 induction t with
 |nil=>exact fun x=>⟨Int.le_refl _,fun y hy=>by(cases hy), .inl rfl⟩
 |cons z t ih=>
  intro x;obtain⟨h1,h2,h3⟩:=ih (max x z);rw[List.foldl_cons];refine⟨by omega,fun y hy=> ?_, ?_⟩
  ·rcases List.mem_cons.1 hy with rfl|hy
   ·omega
   ·exact h2 y hy
  ·rcases h3 with h3|h3
   ·rw[h3];rcases Int.le_total x z with k|k
    ·exact .inr (by rw[Int.max_eq_right k];exact List.mem_cons_self ..)
    ·exact .inl (Int.max_eq_left k)
   ·exact .inr (List.mem_cons_of_mem _ h3)
theorem aD8 {t:List Int}{x:Int}(hx: -1≤x)(h1: ∀y∈t,y≤x)(h2:x= -1∨x∈t):kw t=x:=by
 obtain⟨a,b,c⟩:=qB t (-1);unfold kw
 have u:t.foldl max (-1)≤x:=by
  rcases c with c|c
  ·omega
  ·exact h1 _ c
 have v:x≤t.foldl max (-1):=by
  rcases h2 with h|h
  ·omega
  ·exact b _ h
 omega
theorem cG4 {t:List Int}{x:Int}(hx:0≤x)(h1: ∀y∈t,y<x):kw t<x:=by
 obtain⟨a,b,c⟩:=qB t (-1);unfold kw;rcases c with c|c
 ·omega
 ·exact h1 _ c
theorem aw5 {t:List Int}{k:Nat}{a y:Int}(h:y∈t.set k a):y∈t∨y=a:=List.mem_or_eq_of_mem_set h
theorem cy9 {t:List Int}{k:Nat}{a:Int}(ha:0≤a)(hk:k<t.length)(h: ∀y∈t,y<a):kw (t.set k a)=a:=
 aD8 (by omega) (fun y hy=>by rcases aw5 hy with k|k;exact Int.le_of_lt (h y k);omega) (.inr (List.mem_set hk a))
theorem cy0 {t:List Int}{k:Nat}{a:Int}(hk:k<t.length)(h: ∀y∈t,y<a):qW (t.set k a) a=k:=by
 unfold qW;rw[List.findIdx_eq (by rw[List.length_set];exact hk)];refine⟨by simp,fun j hj=> ?_⟩;have:=h t[j] (aB _);rw[List.getElem_set_ne (by omega)];exact zA (by omega)
theorem cp3 {t:List Int}(h:0<yT t): ∃hv:vac t<t.length,t[vac t]<0:=by
 unfold yT at h;obtain⟨y,hy,hy0⟩:=List.countP_pos_iff.1 h;have hv:vac t<t.length:=List.findIdx_lt_length_of_exists ⟨y,hy,hy0⟩;refine⟨hv,of_decide_eq_true (List.findIdx_getElem (w:=hv))⟩
theorem cs3 {t:List Int}{k:Nat}{a:Int}(ha:0≤a)(hk:k<t.length)(h:t[k]<0):yT (t.set k a)+1=yT t:=by
 unfold yT;rw[List.countP_set hk,zB h,zA (show¬a<0 by omega)];have:0<t.countP fun y=>decide (y<0):=List.countP_pos_iff.2 ⟨_,aB hk,zB h⟩
 simp only[if_true,Bool.false_eq_true,if_false];omega
end
section
open Int renaming reduceEq → aB, toNat_natCast → aD
open List renaming length_set → aW, getD_eq_getElem?_getD → aX, getElem_mem → aY
def spF (n c:Nat):Nat:=(spI n c (am4 n c)).toNat
theorem bP4 {n c:Nat}(hn:2≤n)(hc:1≤c)(hM:n≤65536):1≤spF n c∧spF n c+1≤n∧(c=1→spF n c+1=n)∧((spF n c:Nat):Int)=spI n c (am4 n c):=by
 obtain⟨h1,h2,h3⟩:=cF8 hn hc (bV2 n hc) hM;unfold spF;exact⟨by omega,by omega,fun h=>by have:=h3 h;omega,by omega⟩
def hld (t:List Int):List Bool:=t.map fun y=>decide (0≤y)
def pt :Nat→Bool→Nat→Nat→Nat→List Bool→Bool→List (Int×Int)
 |0,_,_,_,_,_,_=>[]
 |f+1,false,n,c,_,h,last=>if n=1 then [(if last then 6 else 7,0)]else(2,((h.findIdx fun b=> !b:Nat):Int))::pt f true n c (h.findIdx fun b=> !b) (h.set (h.findIdx fun b=> !b) true) last
 |f+1,true,n,c,k,h,last=>if n≤1 then [(7,0),(4,(k:Int))]else(1,(spF n c:Int))::(pt f false (n-spF n c) (c-1) 0 h last++(3,(k:Int))::pt f true (spF n c) c k h false)
theorem ct1 (t:List Int):((hld t).findIdx fun b=> !b)=vac t:=by
 unfold hld vac;rw[List.findIdx_map]
 congr 1
 funext y
 show(!decide (0≤y))=decide (y<0);by_cases h:0≤y
 ·rw[zB h,zA (by omega)];rfl
 ·rw[zA h,zB (by omega)];rfl
theorem cs9 (t:List Int)(k:Nat){a:Int}(ha:0≤a):hld (t.set k a)=(hld t).set k true:=by
 unfold hld;rw[List.map_set,zB ha]
theorem bB6 {t:List Int}{k:Nat}{a:Int}(hk:k<t.length):(t.set k a).getD k 0=a:=by
 rw[aX,List.getElem?_set_self hk];rfl
structure At30 (L q a:Int)(n:Nat)(last:Bool):Prop where
 fa:0≤a
 fn:1≤n∧n≤65535
 fe:(if q<0 then L else q)=a+n
 fl:last=true→q= -1
 fm:last=false→0≤q
 fL:a+n≤L
theorem cn4 : ∀(f:Nat),(∀(n c k:Nat) (t:List Int) (last:Bool) (L q a:Int),2*n≤f→At30 L q a n last→(∀y∈t,y<a)→(∀y∈t,-1≤y)→yT t=c→(2≤n→1≤c)→Run uV ⟨L,a,q,t⟩ (pt f false n c k (hld t) last) ⟨L,a,a,t⟩)∧
  (∀(n c k:Nat) (t:List Int) (last:Bool) (L q a:Int),2*n≤f+1→At30 L q a n last→(n=1→last=false)→(∀y∈t,y<a)→(∀y∈t,-1≤y)→(hk:k<t.length)→t[k]<0→yT t=c→Run uV ⟨L,a,q,t.set k a⟩ (pt f true n c k (hld (t.set k a)) last) ⟨L,a,a,t⟩)
 |0=>⟨fun n c k t last L q a h1 h2=>by have:=h2.fn;omega,fun n c k t last L q a h1 h2=>by have:=h2.fn;omega⟩
 |f+1=>by
  obtain⟨ihp,iht⟩:=cn4 f;refine⟨fun n c k t last L q a hf hA hlt hge hc hc1=> ?_,fun n c k t last L q a hf hA hl1 hlt hge hk htk hc=> ?_⟩
  ·obtain⟨ha,hn,he,hl,hm,hL⟩:=hA;have htop:=cG4 (t:=t) ha hlt;unfold pt;by_cases h1:n=1
   ·rw[zE h1];cases last with
    |true=>
     have hq:=hl rfl;rw[zE (by omega)]at he;rw[zE rfl];refine .one (m':=⟨L,a,a,t⟩) ?_ ?_
     ·unfold uV;simp only;rw[zE (show q<0 by omega),zF (by omega),zF (by omega),zF (by omega),zE (by omega),zF (by omega)]
     ·unfold mac;simp only[aB,true_and,if_true,if_false];rw[zE (by omega)]
    |false=>
     have hq:=hm rfl;rw[zF (by omega)]at he;rw[zF (by decide)];refine .one (m':=⟨L,a,a,t⟩) ?_ ?_
     ·unfold uV;simp only;rw[zF (show¬q<0 by omega),zF (by omega),zF (by omega),zF (by omega),zE (by omega),zE (by omega)]
     ·unfold mac;simp only[aB,true_and,if_true,if_false];rw[zE (by omega)]
   ·rw[zF h1,ct1,←cs9 t _ ha];have hfr:0<yT t:=by have:=hc1 (by omega);omega
    obtain⟨hv,hv0⟩:=cp3 hfr;refine .cons (m':=⟨L,a,q,t.set (vac t) a⟩) ?_ ?_ (iht n c (vac t) t last L q a (by omega) ⟨ha,hn,he,hl,hm,hL⟩ (fun h=>absurd h h1) hlt hge hv hv0 hc)
    ·unfold uV;simp only;rw[he,zF (by omega),zF (by split at he<;>omega),zF (by split at he<;>omega),zF (by omega)];by_cases ht:kw t<0
     ·rw[zE ht,zF (by omega)]
      have:vac t=0:=by
       unfold vac;rw[List.findIdx_eq (by omega)];refine⟨zB ?_,fun j hj=>by omega⟩;have:=(qB t (-1)).2.1 _ (aY (show 0<t.length by omega));unfold kw at ht;omega
      rw[this];rfl
     ·rw[zF ht,zF (by omega),zE ⟨by omega,hfr⟩]
    ·unfold mac;simp only[aB,true_and,if_false,if_true,aD];rw[aX,List.getElem?_eq_getElem hv,zE ⟨by omega,by omega,hv0⟩]
  ·obtain⟨ha,hn,he,hl,hm,hL⟩:=hA;have htop:=cy9 ha hk hlt;have hslo:=cy0 hk hlt;have hfre:=cs3 ha hk htk;have hsl:k<(t.set k a).length:=by rw[aW];exact hk
   have hback:(t.set k a).set k (-1)=t:=by
    have hm1:t[k]= -1:=by have:=hge _ (aY hk);omega
    rw[List.set_set,←hm1,List.set_getElem_self]
   unfold pt;by_cases h1:n≤1
   ·have hn1:n=1:=by omega
    have hq:=hm (hl1 hn1);rw[zF (by omega)]at he;rw[zE h1];refine .cons (m':=⟨L,a,a,t.set k a⟩) ?_ ?_ (.one (m':=⟨L,a,a,t⟩) ?_ ?_)
    ·unfold uV;simp only[htop];rw[zF (show¬q<0 by omega),zF (by omega),zF (by omega),zF (by omega),zE (by omega),zE (by omega)]
    ·unfold mac;simp only[aB,true_and,if_false,if_true];rw[zE (by omega)]
    ·unfold uV;simp only[htop,hslo];rw[zF (show¬a<0 by omega),zE (by omega)]
    ·unfold mac;simp only[aB,true_and,if_false,if_true,aD,bB6 hk,hback];rw[zE (by rw[aW];omega)]
   ·rw[zF h1];obtain⟨m1,m2,m3,m4⟩:=bP4 (n:=n) (c:=c) (by omega) (by omega) (by omega);generalize hm':spF n c=m at*;refine .cons (m':=⟨L,a+m,q,t.set k a⟩) ?_ ?_ (.append (m':=⟨L,a+m,a+m,t.set k a⟩) (ihp (n-m) (c-1) 0 (t.set k a) last L q (a+m) (by omega) ⟨by omega,by omega,by omega,hl,hm,by omega⟩ (fun y hy=>(aw5 hy).elim (fun h=>by have:=hlt y h;omega) fun h=>by omega) (fun y hy=>(aw5 hy).elim (fun h=>hge y h) fun h=>by omega) (by omega) (fun h=> ?_)) (.cons (m':=⟨L,a,a+m,t.set k a⟩) ?_ ?_ (iht m c k t false L (a+m) a (by omega) ⟨ha,by omega,by rw[zF (by omega)],(fun h=>by cases h),fun _=>by omega,by omega⟩ (fun _=>rfl) hlt hge hk htk hc)))
    ·unfold uV;simp only[htop];rw[he,zF (by omega),zF (by split at he<;>omega),zF (by split at he<;>omega),zF (by omega),zF (by omega),zF (by omega),zF (by omega),zF (by omega)];rw[show a+(n:Int)-a=(n:Int)by omega,aD,show((yT (t.set k a):Nat):Int)+1=(c:Int)by omega,show yT (t.set k a)+1=c by omega,m4]
    ·unfold mac;simp only[aB,true_and,if_true];rw[zE (by omega)]
    ·by_cases hcc:c=1
     ·have:=m3 hcc;omega
     ·omega
    ·unfold uV;simp only[htop,hslo];rw[zF (show¬a+(m:Int)<0 by omega),zF (by omega),zF (by omega),zF (by omega),zF (by omega),zF (by omega),zE (by omega)]
    ·unfold mac;simp only[aB,true_and,if_false,if_true,aD,bB6 hk];rw[zE (by rw[aW];omega)]
end
section
open Int renaming toNat_natCast → aX
open List renaming getElem?_eq_getElem → aB, getElem?_eq_none → aY, map_congr_left → aZ
open Nat renaming mul_div_cancel → aD, pow_succ → aW, mul_le_mul_left → bA, one_lt_two_pow → bB, pow_le_pow_right → bC
structure IsStr (k s d:Nat):Prop where
 pw: ∃e,d=2 ^ e
 gt:k<s*d
 lo:d=1∨s*(d / 2)≤k
theorem IsStr.pos {k s d:Nat}(h:IsStr k s d):1≤d:=by
 obtain⟨e,rfl⟩:=h.pw;exact Nat.one_le_two_pow
theorem IsStr.eq {k s d d':Nat}(h:IsStr k s d)(h':IsStr k s d'):d=d':=by
 have key: ∀{d d':Nat},IsStr k s d→IsStr k s d'→¬d<d':=fun {d d'} h h' hlt=>by
  obtain⟨e,rfl⟩:=h.pw;obtain⟨e',rfl⟩:=h'.pw;have he:e<e':=(Nat.pow_lt_pow_iff_right (by omega)).1 hlt;have h1:2 ^ e≤2 ^ (e'-1):=bC (by omega) (by omega)
  have h2:2 ^ e' / 2=2 ^ (e'-1):=by
   conv=>lhs;rw[show e'=(e'-1)+1 by omega,aW]
   exact aD _ (by omega)
  have h3:=h.gt;have h4:s*2 ^ e≤s*2 ^ (e'-1):=bA _ h1;have h5:1<2 ^ e':=bB (by omega);rcases h'.lo with h6|h6
  ·omega
  ·rw[h2]at h6;omega
 have:=key h h';have:=key h' h;omega
def nu (k s:Nat):Nat:=2 ^ (((List.range 17).find? fun e=>decide (k<s*2 ^ e)).getD 0)
theorem lw {k s:Nat}(hk:k<65536)(hs:1≤s):IsStr k s (nu k s):=by
 unfold nu;cases h:(List.range 17).find? fun e=>decide (k<s*2 ^ e)with
 |none=>
  have:=List.find?_eq_none.1 h 16 (List.mem_range.2 (by omega));simp only[decide_eq_true_eq]at this;omega
 |some e=>
  obtain⟨h1,h2⟩:=List.find?_range_eq_some.1 h;have h1:=of_decide_eq_true h1;refine⟨⟨e,rfl⟩,h1, ?_⟩;rcases Nat.eq_zero_or_pos e with he|he
  ·left;subst he;rfl
  ·right;have h3:=h2.2 (e-1) (by omega);simp only[Bool.not_eq_true',decide_eq_false_iff_not]at h3;show s*(2 ^ e / 2)≤k
   have h4:2 ^ e / 2=2 ^ (e-1):=by
    conv=>lhs;rw[show e=(e-1)+1 by omega,aW]
    exact aD _ (by omega)
   rw[h4];omega
theorem IsStr.next {k s d d':Nat}(h:IsStr k s d)(h':IsStr (k+1) s d'):d ∣ d':=by
 obtain⟨e,rfl⟩:=h.pw;obtain⟨e',rfl⟩:=h'.pw;refine Nat.pow_dvd_pow 2 ?_;rcases Nat.lt_or_ge e' e with hlt|hge
 ·exfalso;have h1:2 ^ e'≤2 ^ (e-1):=bC (by omega) (by omega)
  have h2:2 ^ e / 2=2 ^ (e-1):=by
   conv=>lhs;rw[show e=(e-1)+1 by omega,aW]
   exact aD _ (by omega)
  have h5:1<2 ^ e:=bB (by omega);have h4:s*2 ^ e'≤s*2 ^ (e-1):=bA _ h1;have h6:=h'.gt;rcases h.lo with h7|h7
  ·omega
  ·rw[h2]at h7;omega
 ·exact hge
def cv1 (d:Nat)(t:List Int):List Int:=t.filter fun x=>decide (0≤x∧x % (d:Int)≠0)
def bN3 (d:Nat)(t:List Int):Option Int:=(cv1 d t).min?
def mZ (ended:Bool)(m:Mc):Option (Int×Int):=
 let d:=nu m.L.toNat m.t.length
 if m.q<0 then
  (if m.p<m.L then some (1,m.L-m.p)
  else match bN3 d m.t with
   |some x=>some (4,qW m.t x)
   |none=>if m.L % (d:Int)=0∧m.L∉m.t∧(-1:Int)∈m.t then some (2,qW m.t (-1))else if ended then some (5,0)else none)
 else if 0≤kw m.t∧m.q≤kw m.t then some (4,qW m.t (kw m.t))
 else if m.q=0 then none
 else if m.p=m.q-1 then some (7,0)
 else if 0≤kw m.t∧(m.p<kw m.t∨m.q≤m.p)then some (3,qW m.t (kw m.t))
 else if m.p<m.q then some (1,m.q-1-m.p)
 else none
structure Gd (k:Nat)(t:List Int)(d:Nat):Prop where
 ins: ∀x∈t,x= -1∨(0≤x∧x<k∧x % (d:Int)=0)
 all: ∀j:Nat,j<k→j % d=0→(j:Int)∈t
 one: ∀i j (hi:i<t.length) (hj:j<t.length),t[i]=t[j]→0≤t[i]→i=j
theorem yC {t:List Int}{x:Int}(h:x∈t): ∃hs:qW t x<t.length,t[qW t x]=x:=by
 have hs:qW t x<t.length:=List.findIdx_lt_length_of_exists ⟨x,h,zB rfl⟩;exact⟨hs,of_decide_eq_true (List.findIdx_getElem (w:=hs))⟩
def frd (d n:Nat)(t:List Int):List Int:=t.map fun x=>if 0≤x∧x<(n:Int)∧x % (d:Int)≠0 then-1 else x
def frF (d:Nat):Nat→List Int→List (Int×Int)×List Int
 |0,t=>([],t)
 |n+1,t=>if n % d≠0∧(n:Int)∈(frF d n t).2 then((frF d n t).1++[(4,(qW (frF d n t).2 n:Int))],(frF d n t).2.set (qW (frF d n t).2 n) (-1))else frF d n t
theorem cJ8 {d:Nat}(t:List Int):frd d 0 t=t:=by
 unfold frd
 conv=>rhs;rw[←List.map_id t]
 refine aZ fun x hx=> ?_
 rw[zF (by omega)];rfl
theorem av9 {d n:Nat}{t:List Int}{i:Nat}(hi:i<t.length):(frd d n t)[i]?=some (if 0≤t[i]∧t[i]<(n:Int)∧t[i] % (d:Int)≠0 then-1 else t[i]):=by
 unfold frd;rw[List.getElem?_map,aB hi];rfl
theorem mf {d n:Nat}{t:List Int}:(frd d n t).length=t.length:=by unfold frd;rw[List.length_map]
theorem bS7 {d n:Nat}{t:List Int}{x:Int}(hx:0≤x):x∈frd d n t↔x∈t∧¬(x<(n:Int)∧x % (d:Int)≠0):=by
 unfold frd;rw[List.mem_map];constructor
 ·rintro⟨y,hy,e⟩;by_cases h:0≤y∧y<(n:Int)∧y % (d:Int)≠0
  ·rw[zE h]at e;omega
  ·rw[zF h]at e;subst e;exact⟨hy,by omega⟩
 ·rintro⟨hy,h⟩;exact⟨x,hy,zF (by omega)⟩
theorem bB3 {d n:Nat}{t:List Int}(h1: ∀i j (hi:i<t.length) (hj:j<t.length),t[i]=t[j]→0≤t[i]→i=j)(hn:n % d≠0)(hm:(n:Int)∈frd d n t):(frd d n t).set (qW (frd d n t) n) (-1)=frd d (n+1) t:=by
 obtain⟨hs,e⟩:=yC hm;generalize qW (frd d n t) n=k at*;have hk:k<t.length:=by rw[mf]at hs;exact hs
 have e1:=av9 (d:=d) (n:=n) hk;rw[aB hs,e]at e1;injection e1 with e1
 have ek:t[k]=(n:Int):=by
  by_cases h:0≤t[k]∧t[k]<(n:Int)∧t[k] % (d:Int)≠0
  ·rw[zE h]at e1;omega
  ·rw[zF h]at e1;exact e1.symm
 apply List.ext_getElem?;intro i;by_cases hi:i<t.length
 ·rw[av9 hi,List.getElem?_set];by_cases hik:k=i
  ·subst hik;rw[zE rfl,zE hs,ek,zE ⟨by omega,by omega,by omega⟩]
  ·rw[zF hik,av9 hi];have hne:t[i]≠(n:Int):=fun h=>hik (h1 k i hk hi (by rw[ek,h]) (by omega))
   by_cases h:0≤t[i]∧t[i]<(n:Int)∧t[i] % (d:Int)≠0
   ·rw[zE h,zE (by omega)]
   ·rw[zF h,zF (by omega)]
 ·rw[aY (by rw[List.length_set,mf];omega),aY (by rw[mf];omega)]
theorem ch6 {d n:Nat}{t:List Int}(h: ¬(n % d≠0∧(n:Int)∈frd d n t)):frd d n t=frd d (n+1) t:=by
 unfold frd at*;refine aZ fun x hx=> ?_
 by_cases h1:0≤x∧x<(n:Int)∧x % (d:Int)≠0
 ·rw[zE h1,zE (by omega)]
 ·rw[zF h1,zF];intro h2;have e:x=(n:Int):=by omega
  subst e;refine h ⟨by omega, ?_⟩;exact List.mem_map.2 ⟨_,hx,zF h1⟩
theorem bD2 {d:Nat}{t:List Int}{x:Int}:x∈cv1 d t↔x∈t∧0≤x∧x % (d:Int)≠0:=by
 unfold cv1;rw[List.mem_filter,decide_eq_true_eq]
theorem bD1 {d:Nat}{t:List Int}{x:Int}(h:x∈t)(h0:0≤x∧x % (d:Int)≠0)(hl: ∀y∈t,0≤y→y % (d:Int)≠0→x≤y):bN3 d t=some x:=by
 unfold bN3;rw[List.min?_eq_some_iff];exact⟨bD2.2 ⟨h,h0⟩,fun y hy=>by have:=bD2.1 hy;exact hl y this.1 this.2.1 this.2.2⟩
theorem aV7 {d:Nat}{t:List Int}(h: ∀y∈t,0≤y→y % (d:Int)=0):bN3 d t=none:=by
 unfold bN3
 have:cv1 d t=[]:=List.filter_eq_nil_iff.2 fun x hx=>by
  have:=h x hx;simp only[decide_eq_true_eq];omega
 rw[this];rfl
theorem bO9 {k d s:Nat}{t:List Int}{en:Bool}(hd:d=nu k s)(hs:t.length=s)(h1: ∀i j (hi:i<t.length) (hj:j<t.length),t[i]=t[j]→0≤t[i]→i=j): ∀n,(frF d n t).2=frd d n t∧Run (mZ en) ⟨k,k,-1,t⟩ (frF d n t).1 ⟨k,k,-1,frd d n t⟩
 |0=>by rw[cJ8];exact⟨rfl, .nil _⟩
 |n+1=>by
  obtain⟨ih1,ih2⟩:=bO9 (en:=en) hd hs h1 n;unfold frF;rw[ih1];by_cases h:n % d≠0∧(n:Int)∈frd d n t
  ·rw[zE h,bB3 h1 h.1 h.2];refine⟨rfl,ih2.append (.one ?_ ?_)⟩
   ·unfold mZ;simp only;rw[zE (by omega),zF (by omega),mf,hs,aX,←hd,bD1 h.2 (by omega) fun y hy h3 h4=>by have:=(bS7 h3).1 hy;omega]
   ·obtain⟨hs',e⟩:=yC h.2;unfold mac;simp only[Int.reduceEq,if_false,if_true,aX];rw[List.getD_eq_getElem?_getD,aB hs',e];simp only[Option.getD_some];rw[zE (by omega),bB3 h1 h.1 h.2]
  ·rw[zF h,←ch6 h];exact⟨ih1,ih2⟩
theorem aV6 : ∀(N:Nat) (l:List Nat),l.Nodup→(∀x∈l,x<N)→l.length≤N
 |0,l,_,h=>by
  cases l with
  |nil=>exact Nat.le_refl _
  |cons x r=>have:=h x (List.mem_cons_self ..);omega
 |N+1,l,hn,h=>by
  by_cases hN:N∈l
  ·have:=aV6 N (l.erase N) (hn.erase N) fun x hx=>by
    have h1:=h x (List.mem_of_mem_erase hx);have h2:x≠N:=fun e=>by subst e;exact(List.Nodup.not_mem_erase hn) hx
    omega
   rw[List.length_erase_of_mem hN]at this;omega
  ·have:=aV6 N l hn fun x hx=>by
    have h1:=h x hx;have h2:x≠N:=fun e=>hN (e▸hx)
    omega
   omega
end
section
open Go.IntKind renaming wrap → zH, i64 → zI, u64 → zJ
open Int renaming tdiv → aB, natCast_add → aX, eq_ofNat_of_zero_le → bB, natCast_mul → bC
open IntKind renaming bits → bD
open Nat renaming min_eq_left → aD, min_eq_right → aW, add_sub_cancel → aY, div_le_self → aZ, mul_le_mul → bA, le_div_iff_mul_le → bE
theorem wUn {n:Nat}(h:n<18446744073709551616):zH zJ (n:Int)=(n:Int):=hZ (by omega)
theorem be9 {n:Nat}(h:n≤9223372036854775807):zH zI (n:Int)=(n:Int):=ck (by omega)
theorem aA5 {a:Nat}(ha:a<18446744073709551616):sg .u64 (· &&& ·) (a:Int) 4294967295=((a % 4294967296:Nat):Int):=by
 have e:BitVec.ofInt 64 (a:Int)&&& BitVec.ofInt 64 4294967295=BitVec.ofNat 64 (a % 4294967296):=by
  apply BitVec.eq_of_toNat_eq;rw[BitVec.toNat_and,BitVec.toNat_ofInt,BitVec.toNat_ofInt,BitVec.toNat_ofNat];have h1:((a:Int) % ((2 ^ 64:Nat):Int)).toNat=a:=by omega
  have h2:((4294967295:Int) % ((2 ^ 64:Nat):Int)).toNat=2 ^ 32-1:=by decide
  rw[h1,h2,Nat.and_two_pow_sub_one_eq_mod];omega
 unfold sg;show zH zJ ((BitVec.ofInt 64 (a:Int)&&& BitVec.ofInt 64 4294967295).toNat:Int)=_;rw[e,BitVec.toNat_ofNat,hZ (by omega)];omega
theorem bB0 (a:Nat):Int.fdiv (a:Int) (2 ^ (min (Int.toNat 32) (bD .u64)))=((a / 4294967296:Nat):Int):=by
 rw[show(2:Int) ^ (min (Int.toNat 32) (bD .u64))=4294967296 from rfl,Int.fdiv_eq_ediv_of_nonneg _ (by omega)];rfl
theorem cK8 {a b:Nat}(ha:a≤1099511627776)(hb:b≤4194304):lX (a:Int) (b:Int)=some (0,((a*b:Nat):Int)):=by
 have h1:a / 4294967296*b≤256*4194304:=bA (by omega) hb;have h2:a % 4294967296*b≤4294967295*4194304:=bA (by omega) hb;have h3:a*b≤1099511627776*4194304:=bA ha hb;have wn: ∀{n:Nat},n<18446744073709551616→IntKind.u64.wrap (n:Int)=(n:Int):=fun h=>hZ (by omega)
 unfold lX;rw[bB0 a,bB0 b,aA5 (a:=a) (by omega),aA5 (a:=b) (by omega),show b / 4294967296=0 by omega,show b % 4294967296=b by omega];simp only[←bC];rw[wn (n:=a % 4294967296*b) (by omega),wn (n:=a / 4294967296*b) (by omega),wn (n:=a / 4294967296*0) (by omega),wn (n:=a % 4294967296*0) (by omega),wn (n:=a*b) (by omega),bB0];simp only[←aX];generalize a / 4294967296*b=p at*;generalize a % 4294967296*b=q at*;rw[wn (n:=p+q / 4294967296) (by omega),bB0,aA5 (by omega)];simp only[←aX,Nat.mul_zero,Nat.add_zero,Nat.zero_add];rw[wn (n:=(p+q / 4294967296) % 4294967296) (by omega),bB0,wn (n:=(p+q / 4294967296) / 4294967296) (by omega)];simp only[←aX];rw[wn (by omega),show(p+q / 4294967296) / 4294967296+(p+q / 4294967296) % 4294967296 / 4294967296=0 by omega];rfl
theorem cI9 {a b:Nat}(ha:a<18446744073709551616)(hb:1≤b):lW 0 (a:Int) (b:Int)=some (((a / b:Nat):Int),((a % b:Nat):Int)):=by
 unfold lW;have:=aZ a b;rw[zA (by omega),zD,zA (by omega),zD,zB rfl,zC,zB (by omega),dN,dN,show aB (a:Int) (b:Int)=((a / b:Nat):Int)from rfl,show Int.tmod (a:Int) (b:Int)=((a % b:Nat):Int)from rfl,wUn (Nat.lt_of_le_of_lt this ha)]
theorem er {a b i:Nat}(ha:a≤1099511627776)(hb:b≤4194304)(hi:1≤i∧i≤4194304):oR (a:Int) (b:Int) (i:Int)=some ((min kg (a*b / i):Nat):Int):=by
 have h3:a*b≤1099511627776*4194304:=bA ha hb;have h4:a*b / i≤a*b:=aZ _ _;unfold oR kg;rw[hZ (n:=(a:Int)) (by omega),hZ (n:=(b:Int)) (by omega),hZ (n:=(i:Int)) (by omega),cK8 ha hb];simp only[zG];rw[zA (by omega),zD,cI9 (by omega) hi.1];simp only[zG];generalize a*b / i=q at*;by_cases h:1099511627776<q
 ·rw[zB (by omega),zC,aD (by omega)];rfl
 ·rw[zA (by omega),zD,aW (by omega),ck (by omega)]
theorem cC7 {d i:Nat}(hi:1≤i)(hc:ch (d+(i-1)) (i-1)<kg):min kg (min kg (ch (d+(i-1)) (i-1))*(d+i) / i)=min kg (ch (d+i) i):=by
 rw[aW (Nat.le_of_lt hc),bS0 hi]
theorem bL3 {n k:Nat}(hk:2*k≤n)(hn:n≤2097152): ∀f:Int×Int→Option ((Int×Int)⊕Int),(∀i c:Nat,1≤i→i≤k→c<kg→c≤kg→f ((i:Int),(c:Int))=some (.inl (((i+1:Nat):Int),((min kg (c*(n-k+i) / i):Nat):Int))))→(∀i c:Nat,(k<i∨kg≤c)→i≤k+1→c≤kg→f ((i:Int),(c:Int))=some (.inr (c:Int)))→cv f fi (1,1)=some ((min kg (ch n k):Nat):Int):=by
 intro f h1 h2;refine aM4 (fun s=> ∃i:Nat,s=((i:Int),((min kg (ch (n-k+(i-1)) (i-1)):Nat):Int))∧1≤i∧i≤k+1) (fun s=>k+1-s.1.toNat) ⟨1, ?_,by omega,by omega⟩ (by simp;omega) ?_
 ·rw[show 1-1=0 from rfl,aS8];rfl
 ·rintro s ⟨i,rfl,hi1,hik⟩;by_cases hi:i≤k∧ch (n-k+(i-1)) (i-1)<kg
  ·left;refine⟨_,h1 i _ hi1 hi.1 (by omega) (Nat.min_le_left _ _),⟨i+1, ?_,by omega,by omega⟩,by simp only;omega⟩;rw[cC7 hi1 hi.2];rfl
  ·right;rw[h2 i _ (by omega) hik (Nat.min_le_left _ _)]
   congr 2
   have e:n-k+k=n:=by omega
   by_cases hik2:i=k+1
   ·subst hik2;rw[aY,e]
   ·have hge:kg≤ch (n-k+(i-1)) (i-1):=by omega
    have hup:=bL0 (n-k) (show i-1≤k by omega);rw[e]at hup;rw[aD hge,aD (by omega)]
theorem bR9 (n k:Nat)(hk:k≤n):ch n (min k (n-k))=ch n k:=by
 rcases Nat.le_total k (n-k)with h|h
 ·rw[aD h]
 ·rw[aW h];exact av1 n _ _ (by omega)
theorem vX {n k:Int}(hn:n≤2097152):jh n k=some (chI n k):=by
 unfold jh chI;by_cases h1:n<0
 ·rw[zB h1,zE (.inl h1)];rfl
 by_cases h2:k<0
 ·rw[zA h1,zB h2,zE (.inr (.inl h2))];rfl
 by_cases h3:n<k
 ·rw[zA h1,zA h2,zB h3,zE (.inr (.inr h3))];rfl
 rw[zA h1,zA h2,zA h3,zF (by omega)];simp only[zD];obtain⟨n,rfl⟩:=bB (show 0≤n by omega);obtain⟨k,rfl⟩:=bB (show 0≤k by omega)
 have hm:min (k:Int) (zH zI ((n:Int)-(k:Int)))=((min k (n-k):Nat):Int):=by
  rw[ck (by omega)];omega
 have key:=bL3 (n:=n) (k:=min k (n-k)) (by omega) (by omega) (kG (n:Int) (k:Int)) (fun i c hi1 hi2 hc hc'=>by
  unfold kG;unfold kg at hc hc';simp only[hm];rw[zB (by omega),zC,zB (show(c:Int)<1099511627776 by omega),zC,ck (n:=(n:Int)-((min k (n-k):Nat):Int)) (by omega),ck (n:=(n:Int)-((min k (n-k):Nat):Int)+(i:Int)) (by omega),show(n:Int)-((min k (n-k):Nat):Int)+(i:Int)=((n-min k (n-k)+i:Nat):Int)by omega,er hc' (by omega) (by omega)];simp only[zG];rw[ck (by omega)]
  rfl) (fun i c h hi hc=>by
  unfold kG;unfold kg at h;simp only[hm];rcases h with h|h
  ·rw[zA (by omega),zD]
  ·by_cases hi2:(i:Int)≤((min k (n-k):Nat):Int)
   ·rw[zB hi2,zC,zA (by omega),zD]
   ·rw[zA hi2,zD])
 rw[key,bR9 n k (by omega)];rfl
theorem cm6 {x:Nat}:sL (x:Int)=some ((min kg x:Nat):Int):=by
 unfold sL kg;rw[zA (by omega),zD];by_cases h:1099511627776<x
 ·rw[zB (by omega),zC,aD (by omega)];rfl
 ·rw[zA (by omega),zD,aW (by omega)]
theorem ar2 {n k:Int}(hn:n≤2097152):jW n k=some (chI n k):=by
 unfold jW chI;by_cases h1:n<0
 ·rw[zB h1,zE (.inl h1)];rfl
 by_cases h2:k<0
 ·rw[zA h1,zB h2,zE (.inr (.inl h2))];rfl
 by_cases h3:n<k
 ·rw[zA h1,zA h2,zB h3,zE (.inr (.inr h3))];rfl
 rw[zA h1,zA h2,zA h3,zF (by omega)];simp only[zD];obtain⟨n,rfl⟩:=bB (show 0≤n by omega);obtain⟨k,rfl⟩:=bB (show 0≤k by omega)
 have hk:(cond (decide (zH zI ((n:Int)-(k:Int))<(k:Int))) (some (zH zI ((n:Int)-(k:Int)))) (some (k:Int)):Option Int)=some ((min k (n-k):Nat):Int):=by
  rw[ck (by omega),cr];split
  ·congr 1;omega
  ·congr 1;omega
 rw[hk];simp only[zG];have hk2:2*min k (n-k)≤n:=by omega
 have hhalf:=bR9 n k (by omega);generalize min k (n-k)=k' at*
 obtain⟨r,e,h⟩:=mH (f:=ph (n:Int) (k':Int)) (a:=(1,1)) (fun s=> ∃i:Nat,s=((i:Int),((ch (n-k'+(i-1)) (i-1):Nat):Int))∧1≤i∧i≤k'+1∧ch (n-k'+(i-1)) (i-1)<kg) (fun s=>k'+1-s.1.toNat) (fun r=>(dJ r (fun _=>some (1099511627776:Int)) fun w=>some w)=some ((min kg (ch n k'):Nat):Int)) ⟨1,by rw[show 1-1=0 from rfl,aS8];rfl,by omega,by omega,by rw[show 1-1=0 from rfl,aS8];unfold kg;omega⟩ (by simp;omega) (by
  rintro s ⟨i,rfl,h1,h2,h4⟩
  have hup:i≤k'→ch (n-k'+i) i≤ch n k':=fun hi=>by
   have:=bL0 (n-k') hi;rw[show n-k'+k'=n by omega]at this;exact this
  have hcs:=bS0 (d:=n-k') h1;have c1:1≤ch (n-k'+(i-1)) (i-1):=br2 (by omega);generalize hcc:ch (n-k'+(i-1)) (i-1)=c at*;unfold kg at h4;unfold ph;simp only;by_cases hi:i≤k'
  ·have hup:=hup hi;rw[zB (show(i:Int)≤(k':Int)by omega),zC,zB (show(i:Int)≠0 by omega),zB (show(c:Int)≠0 by omega),dN,dN]
   have e1:zH zI (zH zI ((n:Int)-(k':Int))+(i:Int))=((n-k'+i:Nat):Int):=by
    rw[ck (n:=(n:Int)-(k':Int)) (by omega),ck (by omega)];omega
   rw[e1];have hmn:n-k'+i≤4194304:=by omega
   obtain⟨m,hm⟩: ∃m,m=n-k'+i:=⟨_,rfl⟩
   rw[←hm]at hmn hup hcs⊢;have d2:m / i≤m:=aZ _ _;have d3:1099511627776 / c≤1099511627776:=aZ _ _
   have e2:zH zI (aB (m:Int) (i:Int))=((m / i:Nat):Int):=by
    rw[show aB (m:Int) (i:Int)=((m / i:Nat):Int)from rfl,be9 (by omega)]
   have e3:zH zI (aB 1099511627776 (c:Int))=((1099511627776 / c:Nat):Int):=by
    rw[show aB 1099511627776 (c:Int)=((1099511627776 / c:Nat):Int)from rfl,be9 (by omega)]
   have hparts:=bY8 c m i;rw[e2,e3];by_cases hw:1099511627776 / c<m / i
   ·rw[zB (show((1099511627776 / c:Nat):Int)<((m / i:Nat):Int)by omega),zC];refine .inr ⟨_,rfl, ?_⟩;have: ¬m / i*c≤1099511627776:=fun h=>by have:=(bE (by omega)).2 h;omega
    rw[Nat.mul_comm]at this;have hge:c*(m / i)≤ch m i:=by rw[←hcs,←hparts];exact Nat.le_add_right _ _
    have hgt:1099511627776<ch n k':=Nat.lt_of_lt_of_le (Nat.lt_of_not_le this) (Nat.le_trans hge hup);rw[ik,aD (by unfold kg;omega)];rfl
   ·rw[zA (show¬((1099511627776 / c:Nat):Int)<((m / i:Nat):Int)by omega),zD,dN,dN];have p1:m / i*c≤1099511627776:=(bE (by omega)).1 (by omega);rw[Nat.mul_comm]at p1;have r1:m % i<i:=Nat.mod_lt _ (by omega);have p2:c*(m % i)≤1099511627776*2097152:=bA (by omega) (by omega)
    have e4:zH zI ((c:Int)*((m / i:Nat):Int))=((c*(m / i):Nat):Int):=by
     rw[←bC,be9 (by omega)]
    have e5:zH zI ((c:Int)*(Int.tmod (m:Int) (i:Int)))=((c*(m % i):Nat):Int):=by
     rw[show Int.tmod (m:Int) (i:Int)=((m % i:Nat):Int)from rfl,←bC,be9 (by omega)]
    have q1:c*(m % i) / i≤c*(m % i):=aZ _ _
    have e6:zH zI (aB ((c*(m % i):Nat):Int) (i:Int))=((c*(m % i) / i:Nat):Int):=by
     rw[show aB ((c*(m % i):Nat):Int) (i:Int)=((c*(m % i) / i:Nat):Int)from rfl,be9 (by omega)]
    rw[e4,e5,e6,←aX,be9 (by omega),hparts,hcs,cm6];simp only[zG];by_cases hM:kg≤ch m i
    ·rw[aD hM,show decide ((kg:Int)=1099511627776)=true from rfl,zC];refine .inr ⟨_,rfl, ?_⟩;rw[ik,aD (by omega)];rfl
    ·unfold kg at hM;rw[zA (by unfold kg;omega),zD];refine .inl ⟨_,rfl,⟨i+1, ?_,by omega,by omega, ?_⟩, ?_⟩
     ·rw[ck (by omega),aY];rw[aW (by unfold kg;omega),hm];rfl
     ·rw[aY,←hm];unfold kg;omega
     ·rw[ck (by omega)];show k'+1-((i:Int)+1).toNat<k'+1-(i:Int).toNat;omega
  ·rw[zA (show¬(i:Int)≤(k':Int)by omega),zD];refine .inr ⟨_,rfl, ?_⟩;rw[dT];have:i=k'+1:=by omega
   subst this;rw[aY,show n-k'+k'=n by omega]at hcc
   rw[hcc,aW (by unfold kg;omega)])
 rw[e];simp only[zG];exact h.trans (by rw[hhalf];rfl)
theorem bF3 {r s:Nat}(hs:1≤s∧s≤1048576)(hr:r≤65536):nO (r:Int) (s:Int)=some (((min kg (ch (s+r) r):Nat):Int),0):=by
 unfold nO;rw[zA (by omega),zD,zA (by omega),zD,zA (by omega),zD,zA (by omega),zD,ck (by omega),ar2 (by omega),show(s:Int)+(r:Int)=((s+r:Nat):Int)by omega,aL4 (by omega)];rfl
theorem ct7 {r s:Nat}(hs:1≤s∧s≤1048576)(hr:r≤65536):pn (r:Int) (s:Int)=some ((min kg (ch (s+r) r):Nat):Int):=by
 unfold pn;rw[zA (by omega),zD,ck (by omega),vX (by omega),show(s:Int)+(r:Int)=((s+r:Nat):Int)by omega,aL4 (by omega),av1 (s+r) s r rfl];rfl
theorem cm5 {l s:Nat}(hl:l<65536)(hs:1≤s∧s≤1048576): ∃r:Nat,sQ (l:Int) (s:Int)=some ((r:Int),0)∧IsRep l s r:=by
 unfold sQ;rw[zA (by omega),zD,zA (by omega),zD,zA (by omega),zD,zA (by omega),zD];by_cases h1:s=1
 ·subst h1;refine⟨l-1, ?_,cw8 l⟩;rw[zB (by omega),zC,ck (by omega),show max ((l:Int)-1) 0=((l-1:Nat):Int)by omega]
 rw[zA (by omega),zD]
 obtain⟨c,e,r,rfl,hr⟩:=mH (f:=rU (l:Int) (s:Int)) (a:=0) (fun a=> ∃r:Nat,a=(r:Int)∧(∀x,x<r→ch (s+x) x<l)) (fun r=>l+1-r.toNat) (fun c=> ∃r:Nat,c=(r:Int)∧IsRep l s r) ⟨0,rfl,fun x hx=>by omega⟩ (by omega) (by
  rintro a ⟨r,rfl,hr⟩
  have hrl:r≤l:=by
   rcases Nat.lt_or_ge l r with k|k
   ·have:=hr _ k;have:=av0 hs.1 l;omega
   ·exact k
  unfold rU;rw[bF3 hs (by omega)];simp only[zG];by_cases h:l≤ch (s+r) r
  ·rw[zB (by unfold kg;omega),zC];exact .inr ⟨_,rfl,r,rfl,h,hr⟩
  ·rw[zA (by unfold kg;omega),zD,ck (by omega)];refine .inl ⟨_,rfl,⟨r+1,rfl,fun x hx=> ?_⟩,by omega⟩;by_cases hx2:x=r
   ·subst hx2;omega
   ·exact hr x (by omega))
 rw[e];exact⟨r,rfl,hr⟩
theorem cc5 {l s:Nat}(hl:l<65536)(hs:1≤s∧s≤1048576): ∃r:Nat,vb (l:Int) (s:Int)=some ((r:Int),0)∧IsRep l s r:=by
 unfold vb wZ;rw[zA (by omega),zD,zA (by omega),zD,zB (by omega),zC,zB (by omega)];simp only[zG,Bool.not_true,zD];unfold wY
 obtain⟨c,e,r,rfl,hr⟩:=mH (f:=rW (l:Int) (s:Int)) (a:=(0,(l:Int))) (fun a=> ∃lo hi:Nat,a=((lo:Int),(hi:Int))∧lo≤hi∧hi≤l∧l≤ch (s+hi) hi∧(lo=0∨ch (s+(lo-1)) (lo-1)<l)) (fun a=>(a.2-a.1).toNat) (fun c=> ∃r:Nat,c=(r:Int)∧IsRep l s r) ⟨0,l,rfl,by omega,by omega,by have:=av0 hs.1 l;omega, .inl rfl⟩ (by simp;omega) (by
  rintro a ⟨lo,hi,rfl,h1,h2,h3,h4⟩;unfold rW vz;simp only;by_cases h:lo<hi
  ·have e1:zH zI (aB (zH zI ((lo:Int)+(hi:Int))) 2)=(((lo+hi) / 2:Nat):Int):=by
    rw[ck (n:=(lo:Int)+(hi:Int)) (by omega),←aX,show aB ((lo+hi:Nat):Int) 2=(((lo+hi) / 2:Nat):Int)from rfl,be9 (by omega)]
   rw[zB (by omega),zC,e1,ct7 hs (by omega)];simp only[zG];by_cases h5:l≤ch (s+(lo+hi) / 2) ((lo+hi) / 2)
   ·rw[zB (by unfold kg;omega),zC];exact .inl ⟨_,rfl,⟨lo,(lo+hi) / 2,rfl,by omega,by omega,h5,h4⟩,by simp only;omega⟩
   ·rw[zA (by unfold kg;omega),zD,ck (by omega)];exact .inl ⟨_,rfl,⟨(lo+hi) / 2+1,hi,rfl,by omega,by omega,h3, .inr (by rw[aY];omega)⟩,by simp only;omega⟩
  ·rw[zA (by omega),zD];have:lo=hi:=by omega
   subst this
   exact .inr ⟨_,rfl,lo,rfl,cF3 h3 h4⟩)
 rw[e];exact⟨r,rfl,hr⟩
theorem ca1 (a b:Int):nU [1,a,b]=some (max 1 (max a b)):=by
 have key:nU [1,a,b]=some (max (max (max 1 1) a) b):=rfl;rw[key]
 congr 1
 omega
theorem aY2 {n c:Nat}(hn:2≤n∧n<65536)(hc:1≤c∧c≤1048576):sV (n:Int) (c:Int)=some (spI n c (am4 n c),0)∧qO (n:Int) (c:Int)=some (spI n c (am4 n c),0):=by
 obtain⟨r,e1,h1⟩:=cc5 (l:=n) (s:=c) hn.2 hc;obtain⟨r',e2,h2⟩:=cm5 (l:=n) (s:=c) hn.2 hc;have h0:=bV2 n hc.1;have:r=am4 n c:=h1.eq h0;subst this;have:r'=am4 n c:=h2.eq h0;subst this;have hr:=h0.le hc.1;have b1:=cC6 ((c:Int)+(am4 n c:Int)-1) ((c:Int)-1);have w1:zH zI ((c:Int)+(am4 n c:Int))=(c:Int)+(am4 n c:Int):=ck (by omega);have w2:zH zI ((c:Int)+(am4 n c:Int)-2)=(c:Int)+(am4 n c:Int)-2:=ck (by omega);have w3:zH zI ((c:Int)+(am4 n c:Int)-1)=(c:Int)+(am4 n c:Int)-1:=ck (by omega);have w4:zH zI ((c:Int)-1)=(c:Int)-1:=ck (by omega);constructor
 ·unfold sV;rw[zA (by omega),zD,e1];simp only[zG];rw[zA (by simp),zD,w1,w2,w3,w4,vX (by omega),vX (by omega)];simp only[zG];rw[ck (by omega),ca1];rfl
 ·unfold qO;rw[zA (by omega),zD,e2];simp only[zG];rw[zA (by simp),zD,w1,w2,w3,w4,ar2 (by omega),ar2 (by omega)];simp only[zG];rw[ck (by omega)];rfl
end
section
open List renaming findIdx_append → aB, findIdx_eq_length_of_false → aD, findIdx_singleton → aW
theorem cy8 (l:List Int)(x:Int):kw (l++[x])=max (kw l) x:=by
 unfold kw;rw[List.foldl_append];rfl
theorem co9 (l:List Int): -1≤kw l:=(qB l (-1)).1
theorem cG5 (l:List Int){y:Int}(h:y∈l):y≤kw l:=(qB l (-1)).2.1 _ h
theorem bv7 {l:List Int}(h:0≤kw l):kw l∈l:=by
 rcases(qB l (-1)).2.2 with k|k
 ·unfold kw at*;omega
 ·exact k
theorem cx8 {l:List Int}{x:Int}(h:x∉l):qW (l++[x]) x=l.length:=by
 unfold qW;have h0:l.findIdx (fun y=>decide (y=x))=l.length:=aD fun y hy=>zA fun e=>h (e▸hy)
 rw[aB,zF (by omega),aW,zB rfl];simp
theorem cx9 {l:List Int}{x y:Int}(h:y∈l):qW (l++[x]) y=qW l y:=by
 unfold qW;have:=(yC h).1;unfold qW at this;rw[aB,zE this]
theorem cs2 (l:List Int)(x:Int):yT (l++[x])=yT l+(if x<0 then 1 else 0):=by
 unfold yT;rw[List.countP_append,List.countP_singleton];by_cases h:x<0
 ·rw[zB h,zE rfl,zE h]
 ·rw[zA h,zF (by simp),zF h]
theorem bS8 (l:List Int):yT l≤l.length:=List.countP_le_length
theorem cJ9 {l:List Int}(h:yT l=0): ∀y∈l,0≤y:=fun y hy=>by
 have:=List.countP_eq_zero.1 h y hy;simp only[decide_eq_true_eq]at this;omega
theorem cz2 {l:List Int}{x:Int}(h:yT l=0)(hx:x<0):vac (l++[x])=l.length:=by
 unfold vac;have h0:l.findIdx (fun y=>decide (y<0))=l.length:=aD fun y hy=>zA (by have:=cJ9 h y hy;omega)
 rw[aB,zF (by omega),aW,zB hx];simp
theorem bw3 {l:List Int}{x:Int}(h:0<yT l):vac (l++[x])=vac l:=by
 unfold vac;have:=(cp3 h).1;unfold vac at this;rw[aB,zE this]
def bI1 (t:List Int):Int:=kw t
def bI3 (t:List Int):Int:=if kw t<0 then 0 else(qW t (kw t):Int)
def bI2 (t:List Int):Int:=(yT t:Int)
def cp4 (t:List Int):Int:=if yT t=0 then-1 else(vac t:Int)
theorem ct8 {L p q:Int}{t:List Int}(hl:t.length<1000000000):po L p q t=some (p,q,t,(if q<0 then L else q),bI1 t,bI3 t,bI2 t,cp4 t):=by
 unfold po
 have hs:((cond (decide (q<0)) (some ((p,q,t,p,q,t,L))) (some ((p,q,t,p,q,t,q)))):Option (Int×Int×(List Int)×Int×Int×(List Int)×Int))=some (p,q,t,p,q,t,(if q<0 then L else q)):=by
  rw[cr];split<;>rfl
 rw[hs];simp only[zG];generalize (if q<0 then L else q)=e
 have key:=hO (f:=jq (p,q,t,p,q,t,e)) (n:=t.length) (fun i=>(p,q,t,p,q,t,e,bI1 (t.take i),bI3 (t.take i),bI2 (t.take i),cp4 (t.take i))) (c:=(p,q,t,p,q,t,e,bI1 t,bI3 t,bI2 t,cp4 t)) (by omega)
  (fun i hi=>by
   have hlen:(t.take i).length=i:=by rw[List.length_take];omega
   have hf:=bS8 (t.take i);have hg:=co9 (t.take i);simp only[jq];rw[zB (by omega),zC,eE hi,List.take_succ_eq_append_getElem hi];simp only[zG];generalize t[i]=x;generalize hu:t.take i=u at*;rw[ck (n:=(i:Int)+1) (by omega)];unfold bI1 bI3 bI2 cp4;rw[ck (n:=(yT u:Int)+1) (by omega),cy8,cs2];by_cases h1:kw u<x
   ·rw[zB h1,zC,Int.max_eq_right (by omega),zF (show¬x<0 by omega),zF (show¬x<0 by omega),cx8 (fun h=>by have:=cG5 u h;omega),hlen];simp only[Nat.add_zero]
    have:(if yT u=0 then(-1:Int)else(vac (u++[x]):Int))=if yT u=0 then(-1:Int)else(vac u:Int):=by
     split
     ·rfl
     ·rw[bw3 (by omega)]
    rw[this];rfl
   ·rw[zA h1,zD,Int.max_eq_left (by omega)]
    have hso:(if kw u<0 then(0:Int)else(qW (u++[x]) (kw u):Int))=if kw u<0 then(0:Int)else(qW u (kw u):Int):=by
     split
     ·rfl
     ·rw[cx9 (bv7 (by omega))]
    rw[hso];by_cases h2:x<0
    ·rw[zB h2,zC,zE h2,zF (show¬yT u+1=0 by omega)];by_cases h3:yT u=0
     ·rw[zE h3,zB (by omega),zC,cz2 h3 h2,hlen];rfl
     ·rw[zF h3,zA (by omega),zD,bw3 (by omega)];rfl
    ·rw[zA h2,zD,zF h2];simp only[Nat.add_zero]
     have:(if yT u=0 then(-1:Int)else(vac (u++[x]):Int))=if yT u=0 then(-1:Int)else(vac u:Int):=by
      split
      ·rfl
      ·rw[bw3 (by omega)]
     rw[this]
     rfl)
  (by
   simp only[jq]
   rw[zA (by simp),zD,List.take_length])
 rw[List.take_zero]at key;have key':cv (jq (p,q,t,p,q,t,e)) fi (0,p,q,t,p,q,t,e,-1,0,0,-1)=_:=key;rw[key'];rfl
theorem bI4 {t:List Int}(h: ¬kw t<0):bI3 t=(qW t (kw t):Int):=zF h
theorem cz3 {t:List Int}(h: ¬yT t=0):cp4 t=(vac t:Int):=zF h
def cI4 :Option (Int×Int)→Int×Int×Bool
 |none=>(0,0,false)
 |some a=>(a.1,a.2,true)
section
variable {c:Cx}
theorem bV8 (h:c.Ok)(hm:c.mode≠3){s:Dy}(hi:Inv c s):eY c.fixed c.tp c.sl c.ns c.mode c.R c.Q c.len c.words s.L s.p s.q s.c0 s.c1 s.c2 s.c3 s.z c.X c.T c.l c.k c.P c.tk (c.off 8:Int) c.ns (c.X.length:Int) s.lv s.pk c.words s.W=some (s.p,s.q,kt c s.W):=by
 unfold eY;rw[bW0 h hm hi.w fun k hk=>by have:=hi.tag k hk;have:=hi.L;omega];rfl
def jJ (c:Cx)(s:Dy):Mc:=⟨s.L,s.p,s.q,kt c s.W⟩
theorem ck9 (h:c.Ok)(hm:c.mode≠3)(hn:1≤c.ns){s:Dy}(hi:Inv c s)(g:Int)(en fa:Bool):jR g en fa c.fixed c.tp c.sl c.ns c.mode c.R c.Q c.len c.words s.L s.p s.q s.c0 s.c1 s.c2 s.c3 s.z c.X c.T c.l c.k c.P c.tk (c.off 8:Int) c.ns (c.X.length:Int) s.lv s.pk c.words s.W=some (cI4 (uV (jJ c s))):=by
 have hns:=h.ns;have hL:=hi.L;have hp:=hi.p;have hq:=hi.q;have hlen:(kt c s.W).length=c.ns.toNat:=lE;have hmem:=aY4 (c:=c) (W:=s.W) hi.tag;have hns2:=(uw h hm (k:=0) (by omega)).2.2;unfold jR lK eR gV;simp only[zG];rw[bV8 h hm hi];simp only[zG];unfold vA;rw[aq6 hL hp hq (by omega) hmem];simp only[zG,dT];rw[zB (by omega),Bool.not_true,zD,ct8 (by omega)];simp only[zG,jC,iq,ig,qt,kO,kP,kQ,kR,kS,kT,kU,kV,gK,nj,mr,mt];unfold uV jJ bI1 bI2;simp only;have hg:=co9 (kt c s.W)
 have ht:kw (kt c s.W)≤s.L:=by
  rcases(qB (kt c s.W) (-1)).2.2 with k|k
  ·unfold kw;omega
  ·exact(hmem _ k).2
 have hf:=bS8 (kt c s.W);have he:0≤(if s.q<0 then s.L else s.q)∧(if s.q<0 then s.L else s.q)≤s.L:=by split<;>omega
 generalize (if s.q<0 then s.L else s.q)=e at*;have hq':=hq;have hsp: ∀x,¬kw (kt c s.W)<s.p→x=kw (kt c s.W)→True:=fun _ _ _=>trivial
 generalize htg:kt c s.W=t at*;rw[ck (n:=e-1) (by omega),ck (n:=e-1-s.p) (by omega),ck (n:=e-kw t) (by omega),ck (n:=(yT t:Int)+1) (by omega)];by_cases h1:0≤s.q∧e≤kw t
 ·rw[zE h1,zB h1.1,zC,zB h1.2];simp only[zG,zC];rw[bI4 (by omega)];rfl
 rw[zF h1]
 have r1:(cond (decide (0≤s.q)) (some (decide (e≤kw t))) (some false):Option Bool)=some false:=by
  by_cases k:0≤s.q
  ·rw[zB k,zC,zA (fun k2=>h1 ⟨k,k2⟩)]
  ·rw[zA k,zD]
 rw[r1];simp only[zG,zD];by_cases h2:s.q=0
 ·rw[zE h2,zB h2,zC];rfl
 rw[zF h2,zA h2,zD]
 have r3:(cond (!decide (0≤s.q)) (some (decide (s.p=s.L))) (some false):Option Bool)=some (decide (s.q<0∧s.p=s.L)):=by
  by_cases k:0≤s.q
  ·rw[zB k,Bool.not_true,zD,zA (by omega)]
  ·rw[zA k,Bool.not_false,zC]
   congr 1
   exact decide_eq_decide.2 (by omega)
 rw[r3];simp only[zG];by_cases h3:s.q<0∧s.p=s.L
 ·rw[zE h3,zB h3,zC];rfl
 rw[zF h3,zA h3,zD];by_cases h4:s.p=e-1
 ·rw[zE h4,zB h4,zC];by_cases h5:0≤s.q
  ·rw[zE h5,zB h5];rfl
  ·rw[zF h5,zA h5];rfl
 rw[zF h4,zA h4,zD];by_cases h5:kw t<0
 ·rw[zE h5,zB h5,zC];by_cases h6:e≤s.p
  ·rw[zE h6,zB h6];rfl
  ·rw[zF h6,zA h6];rfl
 rw[zF h5,zA h5,zD]
 have r6:(cond (decide (s.p<kw t)) (some true) (some (decide (e≤s.p))):Option Bool)=some (decide (s.p<kw t∨e≤s.p)):=by
  by_cases k:s.p<kw t
  ·rw[zB k,zC,zB (.inl k)]
  ·rw[zA k,zD]
   congr 1
   exact decide_eq_decide.2 (by omega)
 rw[r6];simp only[zG];by_cases h6:s.p<kw t∨e≤s.p
 ·rw[zE h6,zB h6,zC,bI4 h5];rfl
 rw[zF h6,zA h6,zD]
 have r7:(cond (decide (kw t<s.p)) (some (decide (0<(yT t:Int)))) (some false):Option Bool)=some (decide (kw t<s.p∧0<yT t)):=by
  by_cases k:kw t<s.p
  ·rw[zB k,zC]
   congr 1
   exact decide_eq_decide.2 (by omega)
  ·rw[zA k,zD,zA (fun k2=>k k2.1)]
 rw[r7];simp only[zG];by_cases h7:kw t<s.p∧0<yT t
 ·rw[zE h7,zB h7,zC,cz3 (by omega)];rfl
 rw[zF h7,zA h7,zD];by_cases h8:kw t<s.p
 ·rw[zE h8,zB h8,zC];rfl
 rw[zF h8,zA h8,zD];have hd:e-kw t=(((e-kw t).toNat:Nat):Int):=by omega
 have:=(aY2 (n:=(e-kw t).toNat) (c:=yT t+1) (by omega) (by omega)).1;rw[←hd,show((yT t+1:Nat):Int)=(yT t:Int)+1 by omega]at this;rw[this];rfl
end
end
section
open Int renaming lt_irrefl → aW, tmod_eq_emod_of_nonneg → aY
open List renaming getElem_of_mem → aB, getElem_mem → aD
open Nat renaming pow_succ → aX, eq_zero_or_pos → aZ
def Bst (P:Int→Prop)(R:Int→Int→Prop)(t:List Int)(i:Nat)(k:Int):Prop:=
 (k= -1∧∀j (h:j<t.length),j<i→¬P t[j])∨∃j,∃h:j<t.length,k=(j:Int)∧j<i∧P t[j]∧(∀j' (h':j'<t.length),j'<i→P t[j']→¬R t[j'] t[j])∧∀j' (h':j'<t.length),j'<j→P t[j']→R t[j] t[j']
theorem ah7 {P:Int→Prop}{R:Int→Int→Prop}[DecidablePred P][DecidableRel R]{t:List Int}{f:Int×Int→Option ((Int×Int)⊕Int)}{pb:Int→Option Bool}{lb:Int→Int→Option Bool}(hl:t.length<1000000000)
  (hf: ∀s,f s=cond (decide (s.1<(((List.length t):Nat):Int))) ((rd t s.1).bind fun x=>(pb x).bind fun r=>cond r (cond (decide (s.2<0)) (some (.inl (IntKind.i64.wrap (s.1+1),s.1))) ((rd t s.2).bind fun y=>(lb x y).bind fun r'=>cond r' (some (.inl (IntKind.i64.wrap (s.1+1),s.1))) (some (.inl (IntKind.i64.wrap (s.1+1),s.2))))) (some (.inl (IntKind.i64.wrap (s.1+1),s.2)))) (some (.inr s.2)))
  (hp: ∀x,pb x=some (decide (P x))) (hr: ∀x y,lb x y=some (decide (R x y))) (ir: ∀a,¬R a a) (tr: ∀a b e,R a b→¬R e b→R a e) (as: ∀a b,R a b→¬R b a): ∃k,cv f fi (0,-1)=some k∧Bst P R t t.length k:=by
 refine mH (fun s=> ∃(i:Nat) (k:Int),s=((i:Int),k)∧i≤t.length∧Bst P R t i k) (fun s=>t.length-s.1.toNat) _ ⟨0,-1,rfl,by omega, .inl ⟨rfl,fun j h hj=>by omega⟩⟩ (by simp;omega) ?_;rintro s ⟨i,k,rfl,hi,hb⟩;rw[hf];simp only;by_cases h:i<t.length
 ·left;rw[zB (by omega),zC,eE h];simp only[zG];rw[hp,ck (by omega),show(i:Int)+1=((i+1:Nat):Int)by omega];simp only[zG];by_cases hP:P t[i]
  ·rw[zB hP,zC];rcases hb with⟨rfl,hn⟩|⟨j,hj,rfl,hji,hPj,hmin,hfst⟩
   ·rw[zB (by omega),zC];refine⟨_,rfl,⟨i+1,i,rfl,by omega, .inr ⟨i,h,rfl,by omega,hP,fun j' h' h1 h2=> ?_,fun j' h' h1 h2=>absurd h2 (hn j' h' h1)⟩⟩,by simp only;omega⟩;by_cases he:j'=i
    ·subst he;exact ir _
    ·exact absurd h2 (hn j' h' (by omega))
   ·rw[zA (by omega),zD,eE hj];simp only[zG];rw[hr];simp only[zG];by_cases hR:R t[i] t[j]
    ·rw[zB hR,zC];refine⟨_,rfl,⟨i+1,i,rfl,by omega, .inr ⟨i,h,rfl,by omega,hP,fun j' h' h1 h2=> ?_,fun j' h' h1 h2=>tr _ _ _ hR (hmin j' h' h1 h2)⟩⟩,by simp only;omega⟩;by_cases he:j'=i
     ·subst he;exact ir _
     ·exact as _ _ (tr _ _ _ hR (hmin j' h' (by omega) h2))
    ·rw[zA hR,zD];refine⟨_,rfl,⟨i+1,j,rfl,by omega, .inr ⟨j,hj,rfl,by omega,hPj,fun j' h' h1 h2=> ?_,hfst⟩⟩,by simp only;omega⟩;by_cases he:j'=i
     ·subst he;exact hR
     ·exact hmin j' h' (by omega) h2
  ·rw[zA hP,zD];refine⟨_,rfl,⟨i+1,k,rfl,by omega, ?_⟩,by simp only;omega⟩;rcases hb with⟨rfl,hn⟩|⟨j,hj,rfl,hji,hPj,hmin,hfst⟩
   ·refine .inl ⟨rfl,fun j h' h1=> ?_⟩;by_cases he:j=i
    ·subst he;exact hP
    ·exact hn j h' (by omega)
   ·refine .inr ⟨j,hj,rfl,by omega,hPj,fun j' h' h1 h2=> ?_,hfst⟩;by_cases he:j'=i
    ·subst he;exact absurd h2 hP
    ·exact hmin j' h' (by omega) h2
 ·right;have:i=t.length:=by omega
  subst this;rw[zA (by omega),zD];exact⟨_,rfl,hb⟩
theorem aD4 {t:List Int}{j:Nat}(hj:j<t.length)(h: ∀j' (h':j'<t.length),j'<j→t[j']≠t[j]):qW t t[j]=j:=by
 unfold qW;rw[List.findIdx_eq hj];exact⟨zB rfl,fun j' hj'=>zA (h j' (by omega) hj')⟩
theorem cf5 {t:List Int}{d:Nat}(hd:1≤d)(hl:t.length<1000000000):qS t (d:Int)=some (match bN3 d t with|none=> -1|some x=>(qW t x:Int)):=by
 unfold qS
 obtain⟨k,e,h⟩:=ah7 (P:=fun x=>0≤x∧x % (d:Int)≠0) (R:=fun x y=>x<y) (t:=t) (f:=wh t (d:Int)) (pb:=fun x=>mU x (d:Int)) (lb:=jD) hl (fun s=>rfl) (fun x=>by
  unfold mU;by_cases h:0≤x
  ·rw[zB h,zC,zB (show(d:Int)≠0 by omega),dN,aY h]
   congr 1
   exact decide_eq_decide.2 ⟨fun k=>⟨h,k⟩,fun k=>k.2⟩
  ·rw[zA h,zD,zA (fun k=>h k.1)]) (fun x y=>rfl) (fun a=>aW a) (fun a b e h1 h2=>by omega) (fun a b h=>by omega)
 rw[e];rcases h with⟨rfl,hn⟩|⟨j,hj,rfl,_,hP,hmin,hfst⟩
 ·rw[aV7 fun y hy h0=>by
   obtain⟨i,hi,rfl⟩:=aB hy;have:=hn i hi hi;by_cases k:t[i] % (d:Int)=0
   ·exact k
   ·exact absurd ⟨h0,k⟩ this]
  rfl
 ·rw[bD1 (x:=t[j]) (aD hj) hP fun y hy h0 h1=>by
   obtain⟨i,hi,rfl⟩:=aB hy;have:=hmin i hi hi ⟨h0,h1⟩
   omega]
  simp only[zG]
  rw[aD4 hj fun j' h' h1 h2=>by
   have:=hfst j' h' h1 (by rw[h2];exact hP)
   omega]
theorem bX6 {t:List Int}{x:Int}(hl:t.length<1000000000): ∃k,nV t x=some k∧(k<0↔x∉t):=by
 unfold nV;obtain⟨k,e,h⟩:=ah7 (P:=fun y=>y=x) (R:=fun x y=>x<y) (t:=t) (f:=tK t x) (pb:=fun y=>qu y x) (lb:=jD) hl (fun s=>rfl) (fun y=>rfl) (fun x y=>rfl) (fun a=>aW a) (fun a b e h1 h2=>by omega) (fun a b h=>by omega);rw[e];refine⟨k,rfl, ?_⟩;rcases h with⟨rfl,hn⟩|⟨j,hj,rfl,_,hP,hmin,hfst⟩
 ·refine⟨fun _ hx=> ?_,fun _=>by omega⟩;obtain⟨i,hi,e⟩:=aB hx;exact hn i hi hi e
 ·exact⟨fun h=>by omega,fun h=>absurd (hP▸aD hj) h⟩
theorem cf7 {t:List Int}(hl:t.length<1000000000)(hge: ∀y∈t,-1≤y): ∃k,nW t=some k∧((-1:Int)∈t→k=(qW t (-1):Int))∧((-1:Int)∉t→k= -1):=by
 unfold nW;obtain⟨k,e,h⟩:=ah7 (P:=fun y=>y<0) (R:=fun x y=>x<y) (t:=t) (f:=tL t) (pb:=fun y=>qv y) (lb:=jD) hl (fun s=>rfl) (fun y=>rfl) (fun x y=>rfl) (fun a=>aW a) (fun a b e h1 h2=>by omega) (fun a b h=>by omega);rw[e];refine⟨k,rfl, ?_⟩;rcases h with⟨rfl,hn⟩|⟨j,hj,rfl,_,hP,hmin,hfst⟩
 ·refine⟨fun hx=> ?_,fun _=>rfl⟩;obtain⟨i,hi,e⟩:=aB hx;exact absurd (show t[i]<0 by omega) (hn i hi hi)
 ·have e1:t[j]= -1:=by have:=hge _ (aD hj);omega
  refine⟨fun _=> ?_,fun h=>absurd (e1▸aD hj) h⟩
  rw[←e1,aD4 hj fun j' h' h1 h2=>by
   have:=hfst j' h' h1 (by omega)
   omega]
theorem cf6 {t:List Int}(hl:t.length<1000000000): ∃k,nX t=some k∧(kw t<0→k= -1)∧(0≤kw t→k=(qW t (kw t):Int)):=by
 unfold nX;obtain⟨k,e,h⟩:=ah7 (P:=fun y=>0≤y) (R:=fun x y=>y<x) (t:=t) (f:=tM t) (pb:=fun y=>tN y) (lb:=qw) hl (fun s=>rfl) (fun y=>rfl) (fun x y=>rfl) (fun a=>aW a) (fun a b e h1 h2=>by omega) (fun a b h=>by omega);rw[e];refine⟨k,rfl, ?_⟩;rcases h with⟨rfl,hn⟩|⟨j,hj,rfl,_,hP,hmin,hfst⟩
 ·refine⟨fun _=>rfl,fun h0=> ?_⟩;obtain⟨i,hi,e⟩:=aB (bv7 h0);exact absurd (show 0≤t[i]by omega) (hn i hi hi)
 ·have e1:kw t=t[j]:=aD8 (by omega) (fun y hy=>by
   obtain⟨i,hi,rfl⟩:=aB hy;by_cases h0:0≤t[i]
   ·have:=hmin i hi hi h0;omega
   ·omega) (.inr (aD hj))
  refine⟨fun h=>by omega,fun _=> ?_⟩
  rw[e1,aD4 hj fun j' h' h1 h2=>by
   have:=hfst j' h' h1 (by omega)
   omega]
theorem cd2 {k s:Nat}(hk:k<65536)(hs:1≤s∧s≤1048576):lA (k:Int) (s:Int)=some ((nu k s:Int),0):=by
 unfold lA;rw[zA (by omega),zD,zA (by omega),zD,zA (by omega),zD,zA (by omega),zD];have h0:=lw hk hs.1
 have key:cv (od (k:Int) (s:Int)) fi 1=some (nu k s:Int):=by
  refine aM4 (fun a=> ∃e:Nat,a=((2 ^ e:Nat):Int)∧(e=0∨s*2 ^ (e-1)≤k)) (fun a=>4294967296-a.toNat) ⟨0,rfl, .inl rfl⟩ (by simp) ?_;rintro a ⟨e,rfl,he⟩
  have hb:2 ^ e≤131072:=by
   rcases he with rfl|he
   ·simp
   ·have:1*2 ^ (e-1)≤s*2 ^ (e-1):=Nat.mul_le_mul_right _ hs.1;rcases aZ e with rfl|h
    ·simp
    ·rw[show e=(e-1)+1 by omega,aX];omega
  have hp:1≤2 ^ e:=Nat.one_le_two_pow;have hsd:s*2 ^ e≤1048576*131072:=Nat.mul_le_mul hs.2 hb;unfold od;rw[←Int.natCast_mul,be9 (by omega)];by_cases h:k<s*2 ^ e
  ·right;rw[zB (by omega),zC]
   have:IsStr k s (2 ^ e):=⟨⟨e,rfl⟩,h,by
    rcases he with rfl|he
    ·exact .inl rfl
    ·rcases aZ e with rfl|h
     ·exact .inl rfl
     ·right
      have h4:2 ^ e / 2=2 ^ (e-1):=by
       conv=>lhs;rw[show e=(e-1)+1 by omega,aX]
       exact Nat.mul_div_cancel _ (by omega)
      rw[h4]
      exact he⟩
   rw[this.eq h0]
  ·left;rw[zA (by omega),zD,ck (by omega)];refine⟨_,rfl,⟨e+1, ?_, .inr (by rw[Nat.add_sub_cancel];omega)⟩,by omega⟩;rw[aX];omega
 rw[key];rfl
section
variable {c:Cx}
theorem cA5 (h:c.Ok)(hm:c.mode≠3)(hn:1≤c.ns){s:Dy}(hi:Inv c s)(g:Int)(en fa:Bool):lx g en fa c.fixed c.tp c.sl c.ns c.mode c.R c.Q c.len c.words s.L s.p s.q s.c0 s.c1 s.c2 s.c3 s.z c.X c.T c.l c.k c.P c.tk (c.off 8:Int) c.ns (c.X.length:Int) s.lv s.pk c.words s.W=some (cI4 (mZ en (jJ c s))):=by
 have hns:=h.ns;have hL:=hi.L;have hp:=hi.p;have hq:=hi.q;have hlen:(kt c s.W).length=c.ns.toNat:=lE;have hmem:=aY4 (c:=c) (W:=s.W) hi.tag;have hns2:=(uw h hm (k:=0) (by omega)).2.2;unfold lx lL eS gV;simp only[zG];rw[bV8 h hm hi];simp only[zG];unfold vC;rw[aq6 hL hp hq (by omega) hmem];simp only[zG,dT];rw[zA (by omega),zD];unfold mZ jJ;simp only;generalize htg:kt c s.W=t at*
 have hd:lA s.L ((t.length:Nat):Int)=some ((nu s.L.toNat t.length:Int),0):=by
  have:=cd2 (k:=s.L.toNat) (s:=t.length) (by omega) (by omega);rw[Int.toNat_of_nonneg hL.1]at this;exact this
 have hd1:1≤nu s.L.toNat t.length:=(lw (by omega) (by omega)).pos;generalize nu s.L.toNat t.length=d at*;by_cases h1:s.q<0
 ·rw[zE h1,zB h1,zC];unfold tJ;rw[hd];simp only[zG,gD,gm];by_cases h2:s.p<s.L
  ·rw[zE h2,zB h2,zC,ck (by omega)];rfl
  rw[zF h2,zA h2,zD,cf5 hd1 (by omega)];cases ho:bN3 d t with
  |some x=>
   simp only[zG];rw[zB (by omega),zC];rfl
  |none=>
   simp only[zG];rw[zA (by omega),zD];obtain⟨k2,e2,h2'⟩:=bX6 (t:=t) (x:=s.L) (by omega);obtain⟨k3,e3,h3,h3'⟩:=cf7 (t:=t) (by omega) fun y hy=>(hmem y hy).1
   rw[e2,e3];simp only[zG]
   have r1:gd (decide ((d:Int)≠0)) (cond (decide ((Int.tmod s.L (d:Int))=0)) (cond (decide (k2<0)) (some (decide (0≤k3))) (some false)) (some false))=some (decide (s.L % (d:Int)=0∧s.L∉t∧(-1:Int)∈t)):=by
    rw[zB (show(d:Int)≠0 by omega),dN,aY hL.1];by_cases a1:s.L % (d:Int)=0
    ·rw[zB a1,zC];by_cases a2:s.L∉t
     ·rw[zB (h2'.2 a2),zC]
      congr 1
      by_cases a3:(-1:Int)∈t
      ·rw[zB (show 0≤k3 by rw[h3 a3];omega),zB ⟨a1,a2,a3⟩]
      ·rw[zA (show¬0≤k3 by rw[h3' a3];omega),zA (fun k=>a3 k.2.2)]
     ·rw[zA (fun k=>a2 (h2'.1 k)),zD,zA (fun k=>a2 k.2.1)]
    ·rw[zA a1,zD,zA (fun k=>a1 k.1)]
   rw[r1];simp only[zG];by_cases a:s.L % (d:Int)=0∧s.L∉t∧(-1:Int)∈t
   ·rw[zE a,zB a,zC,h3 a.2.2];rfl
   ·rw[zF a,zA a,zD];cases en<;>rfl
 rw[zF h1,zA h1,zD];unfold vD;obtain⟨k,e,hk0,hk1⟩:=cf6 (t:=t) (by omega);rw[e];simp only[zG,gD,gm]
 have hrd:0≤kw t→0≤k∧rd t k=some (kw t):=fun h0=>by
  obtain⟨hs,e⟩:=yC (bv7 h0);rw[hk1 h0,eE hs,e];exact⟨by omega,rfl⟩
 have r1:(cond (decide (0≤k)) ((rd t k).bind fun x4=>some (decide (s.q≤x4))) (some false):Option Bool)=some (decide (0≤kw t∧s.q≤kw t)):=by
  by_cases h0:0≤kw t
  ·rw[zB (hrd h0).1,zC,(hrd h0).2];simp only[zG]
   congr 1
   exact decide_eq_decide.2 (by omega)
  ·rw[zA (by rw[hk0 (by omega)];omega),zD,zA (fun k=>h0 k.1)]
 rw[r1];simp only[zG];by_cases h2:0≤kw t∧s.q≤kw t
 ·rw[zE h2,zB h2,zC,hk1 h2.1];rfl
 rw[zF h2,zA h2,zD];by_cases h3:s.q=0
 ·rw[zE h3,zB h3];rfl
 rw[zF h3,zA h3,zD,ck (n:=s.q-1) (by omega)];by_cases h4:s.p=s.q-1
 ·rw[zE h4,zB h4];rfl
 rw[zF h4,zA h4,zD]
 have r2:(cond (decide (0≤k)) ((rd t k).bind fun x9=>cond (decide (s.p<x9)) (some true) (some (decide (s.q≤s.p)))) (some false):Option Bool)=some (decide (0≤kw t∧(s.p<kw t∨s.q≤s.p))):=by
  by_cases h0:0≤kw t
  ·rw[zB (hrd h0).1,zC,(hrd h0).2];simp only[zG];by_cases h5:s.p<kw t
   ·rw[zB h5,zC,zB ⟨h0, .inl h5⟩]
   ·rw[zA h5,zD]
    congr 1
    exact decide_eq_decide.2 (by omega)
  ·rw[zA (by rw[hk0 (by omega)];omega),zD,zA (fun k=>h0 k.1)]
 rw[r2];simp only[zG];by_cases h5:0≤kw t∧(s.p<kw t∨s.q≤s.p)
 ·rw[zE h5,zB h5,zC,hk1 h5.1];rfl
 rw[zF h5,zA h5,zD];by_cases h6:s.p<s.q
 ·rw[zE h6,zB h6,zC,ck (by omega)];rfl
 ·rw[zF h6,zA h6];rfl
end
end
section
open Int renaming reduceEq → aB, toNat_natCast → aD
open List renaming getElem?_eq_getElem → aW, getElem_mem → aX, length_set → aZ, getD_eq_getElem?_getD → bA, getElem_set → bB, length_map → bC, length_replicate → bD, replicate → bE, getElem?_eq_none → bH, getElem_map → bI, getElem_of_mem → bJ, map_congr_left → bK
open Nat renaming div_add_mod → aY, one_dvd → bF, div_lt_iff_lt_mul → bL, dvd_of_mod_eq_zero → bM
open Option renaming getD_some → bG
theorem aM9 {t:List Int}{x:Int}(h:x∈t):qW t x<t.length∧t[qW t x]?=some x:=by
 obtain⟨hs,e⟩:=yC h;exact⟨hs,by rw[aW hs,e]⟩
def nH (k:Nat)(t:List Int):List (Int×Int)×List Int:=
 if k % nu k t.length=0 then((frF (nu k t.length) k t).1++[(2,(qW (frF (nu k t.length) k t).2 (-1):Int))],(frF (nu k t.length) k t).2.set (qW (frF (nu k t.length) k t).2 (-1)) k)
 else frF (nu k t.length) k t
theorem cr4 {d' d j:Nat}(h:d' ∣ d)(hj:j % d=0):j % d'=0:=
 Nat.mod_eq_zero_of_dvd (Nat.dvd_trans h (bM hj))
theorem Gd.frd {k d' d:Nat}{t:List Int}(G:Gd k t d')(hd:d' ∣ d):Gd k (frd d k t) d:=by
 refine⟨fun x hx=> ?_,fun j hj hjd=> ?_,fun i j hi hj e h0=> ?_⟩
 ·unfold Go.V.frd at hx;obtain⟨y,hy,rfl⟩:=List.mem_map.1 hx;have:=G.ins y hy;by_cases h:0≤y∧y<(k:Int)∧y % (d:Int)≠0
  ·rw[zE h];exact .inl rfl
  ·rw[zF h];rcases this with h1|h1
   ·exact .inl h1
   ·exact .inr ⟨h1.1,h1.2.1,by
     by_cases h2:y % (d:Int)=0
     ·exact h2
     ·exact absurd ⟨h1.1,h1.2.1,h2⟩ h⟩
 ·exact(bS7 (by omega)).2 ⟨G.all j hj (cr4 hd hjd),by omega⟩
 ·have hi':i<t.length:=by rw[mf]at hi;exact hi
  have hj':j<t.length:=by rw[mf]at hj;exact hj
  have e1:=av9 (d:=d) (n:=k) hi';have e2:=av9 (d:=d) (n:=k) hj';rw[aW hi]at e1;rw[aW hj]at e2;injection e1 with e1
  injection e2 with e2
  have f1:(Go.V.frd d k t)[i]=t[i]:=by
   by_cases h:0≤t[i]∧t[i]<(k:Int)∧t[i] % (d:Int)≠0
   ·rw[zE h]at e1;omega
   ·rw[zF h]at e1;exact e1
  have f2:(Go.V.frd d k t)[j]=t[j]:=by
   by_cases h:0≤t[j]∧t[j]<(k:Int)∧t[j] % (d:Int)≠0
   ·rw[zE h]at e2;omega
   ·rw[zF h]at e2;exact e2
  exact G.one i j hi' hj' (by rw[←f1,←f2,e]) (by rw[←f1];exact h0)
theorem Gd.free {k d:Nat}{t:List Int}(G:Gd k t d)(hd:1≤d)(hk:k % d=0)(hs:k<t.length*d):(-1:Int)∈t:=by
 by_cases h:(-1:Int)∈t
 ·exact h
 exfalso
 have hin: ∀i (hi:i<t.length),0≤t[i]∧t[i]<k∧t[i] % (d:Int)=0:=fun i hi=>by
  rcases G.ins _ (aX hi)with h1|h1
  ·exact absurd (h1▸aX hi) h
  ·exact h1
 have key:=aV6 (k / d) (t.map fun x=>x.toNat / d) (by
  refine List.pairwise_iff_getElem.2 fun i j hi hj hij e=> ?_
  rw[bC]at hi hj;rw[bI,bI]at e;have a:=hin i hi;have b:=hin j hj
  have ha:t[i].toNat % d=0:=by
   have:=a.2.2;have e2:t[i]=((t[i].toNat:Nat):Int):=by omega
   rw[e2]at this;omega
  have hb:t[j].toNat % d=0:=by
   have:=b.2.2;have e2:t[j]=((t[j].toNat:Nat):Int):=by omega
   rw[e2]at this;omega
  have h1:=aY t[i].toNat d;have h2:=aY t[j].toNat d;rw[ha]at h1;rw[hb,←e]at h2;have:=G.one i j hi hj (by omega) a.1
  omega) (fun y hy=>by
  obtain⟨x,hx,rfl⟩:=List.mem_map.1 hy;obtain⟨i,hi,rfl⟩:=bJ hx;have a:=hin i hi;obtain⟨u,hu⟩:=bM hk;rw[bL (by omega),hu,Nat.mul_div_cancel_left _ (by omega),Nat.mul_comm,←hu]
  omega)
 rw[bC]at key;have:=(bL (x:=k) (y:=t.length) (k:=d) (by omega)).2 hs;omega
theorem Gd.store {k d:Nat}{t:List Int}(G:Gd k t d)(hk:k % d=0)(hf:(-1:Int)∈t):Gd (k+1) (t.set (qW t (-1)) k) d:=by
 obtain⟨hs,es⟩:=yC hf;generalize qW t (-1)=u at*;refine⟨fun x hx=> ?_,fun j hj hjd=> ?_,fun i j hi hj e h0=> ?_⟩
 ·rcases aw5 hx with h|h
  ·rcases G.ins x h with h1|h1
   ·exact .inl h1
   ·exact .inr ⟨h1.1,by omega,h1.2.2⟩
  ·exact .inr ⟨by omega,by omega,by rw[h];omega⟩
 ·by_cases hjk:j=k
  ·subst hjk;exact List.mem_set hs _
  ·obtain⟨i,hi,e⟩:=bJ (G.all j (by omega) hjd);have hne:u≠i:=fun h=>by subst h;omega
   have hi2:i<(t.set u (k:Int)).length:=by rw[aZ];exact hi
   have:=aX hi2;rw[List.getElem_set_ne hne,e]at this;exact this
 ·rw[aZ]at hi hj;rw[bB,bB]at e;rw[bB]at h0;by_cases hui:u=i
  ·by_cases huj:u=j
   ·omega
   ·rw[zE hui,zF huj]at e;rcases G.ins _ (aX hj)with h1|h1<;>omega
  ·rw[zF hui]at e h0;by_cases huj:u=j
   ·rw[zE huj]at e;rcases G.ins _ (aX hi)with h1|h1<;>omega
   ·rw[zF huj]at e;exact G.one i j hi hj e h0
theorem uk {k s d':Nat}{t:List Int}{en:Bool}(hk:k<65536)(hs:t.length=s)(h1:1≤s)(G:Gd k t d')(hd:d' ∣ nu k s):
  Run (mZ en) ⟨k,k,-1,t⟩ (nH k t).1 ⟨k,k,-1,(nH k t).2⟩∧Gd (k+1) (nH k t).2 (nu k s)∧(nH k t).2.length=s∧mZ en ⟨k,k,-1,(nH k t).2⟩=(if en then some (5,0)else none)∧(k % nu k s=0→(-1:Int)∈frd (nu k s) k t):=by
 have hS:=lw hk h1;have hpos:=hS.pos;obtain⟨f1,f2⟩:=bO9 (k:=k) (d:=nu k s) (s:=s) (t:=t) (en:=en) rfl hs G.one k;have G1:=G.frd hd;unfold nH;rw[hs,f1];generalize hdd:nu k s=d at*
 have fin: ∀t2:List Int,t2.length=s→Gd (k+1) t2 d→mZ en ⟨k,k,-1,t2⟩=(if en then some (5,0)else none):=fun t2 hl G2=>by
  unfold mZ;simp only;rw[zE (by omega),zF (by omega),hl,aD,hdd,aV7 fun y hy h0=>by rcases G2.ins y hy with h|h;omega;exact h.2.2];simp only;rw[zF];rintro⟨a,b,_⟩;exact b (G2.all k (by omega) (by omega))
 by_cases h:k % d=0
 ·have hf:=G1.free hpos h (by rw[mf,hs];exact hS.gt);have G2:=G1.store h hf;obtain⟨hs',es⟩:=yC hf;rw[zE h];have hl2:((frd d k t).set (qW (frd d k t) (-1)) (k:Int)).length=s:=by rw[aZ,mf,hs]
  refine⟨f2.append (.one ?_ ?_),G2,hl2,fin _ hl2 G2,fun _=>hf⟩
  ·unfold mZ;simp only;rw[zE (by omega),zF (by omega),mf,hs,aD,hdd,aV7 fun y hy h0=>by rcases G1.ins y hy with h|h;omega;exact h.2.2];simp only;rw[zE ⟨by omega,fun hm=>by rcases G1.ins _ hm with h|h<;>omega,hf⟩]
  ·unfold mac;simp only[aB,if_false,if_true,aD];rw[bA,aW hs',es];simp only[bG];rw[zE (by omega)]
 ·rw[zF h]
  have G2:Gd (k+1) (frd d k t) d:=⟨fun x hx=>by
   rcases G1.ins x hx with h1|h1
   ·exact .inl h1
   ·exact .inr ⟨h1.1,by omega,h1.2.2⟩,fun j hj hjd=>by
   by_cases hjk:j=k
   ·subst hjk;exact absurd hjd h
   ·exact G1.all j (by omega) hjd,G1.one⟩
  have hl2:(frF d k t).2.length=s:=by rw[f1,mf,hs]
  rw[f1];refine⟨f2,G2,by rw[mf,hs],fin _ (by rw[mf,hs]) G2,fun h'=>absurd h' h⟩
def dh (s:Nat):Nat→List (Int×Int)×List Int
 |0=>nH 0 (bE s (-1))
 |k+1=>((dh s k).1++[(1,1)]++(nH (k+1) (dh s k).2).1,(nH (k+1) (dh s k).2).2)
theorem Gd.none (s d:Nat):Gd 0 (bE s (-1)) d:=
 ⟨fun x hx=> .inl (List.eq_of_mem_replicate hx),fun j hj=>by omega,fun i j hi hj e h0=>by rw[List.getElem_replicate]at h0;omega⟩
theorem wE {s:Nat}(hs:1≤s): ∀k,k<65536→Gd (k+1) (dh s k).2 (nu k s)∧(dh s k).2.length=s
 |0,h=>by
  obtain⟨_,b,c,_⟩:=uk (en:=false) h (bD) hs (Gd.none s 1) (bF _);exact⟨b,c⟩
 |k+1,h=>by
  obtain⟨a1,a2⟩:=wE hs k (by omega);obtain⟨_,b,c,_⟩:=uk (en:=false) h a2 hs a1 ((lw (by omega) hs).next (lw h hs));exact⟨b,c⟩
theorem bR0 {s:Nat}(hs:1≤s):Run (mZ false) ⟨0,0,-1,bE s (-1)⟩ (dh s 0).1 ⟨0,0,-1,(dh s 0).2⟩∧mZ false ⟨0,0,-1,(dh s 0).2⟩=none:=by
 obtain⟨a,b,c,d,_⟩:=uk (en:=false) (k:=0) (by omega) (bD) hs (Gd.none s 1) (bF _);exact⟨a,d⟩
theorem bR1 {s k:Nat}(hs:1≤s)(hk:k+1<65536):Run (mZ false) ⟨(k:Int)+1,k,-1,(dh s k).2⟩ ([(1,1)]++(nH (k+1) (dh s k).2).1) ⟨(k:Int)+1,(k:Int)+1,-1,(dh s (k+1)).2⟩∧mZ false ⟨(k:Int)+1,(k:Int)+1,-1,(dh s (k+1)).2⟩=none:=by
 obtain⟨a1,a2⟩:=wE hs k (by omega);obtain⟨a,b,c,d,_⟩:=uk (en:=false) hk a2 hs a1 ((lw (by omega) hs).next (lw hk hs));refine⟨Run.cons (m':=⟨((k+1:Nat):Int),((k+1:Nat):Int),-1,(dh s k).2⟩) ?_ ?_ a,d⟩
 ·unfold mZ;simp only;rw[zE (by omega),zE (by omega)]
  congr 2
  omega
 ·unfold mac;simp only[if_true];rw[zE (by omega)];rfl
theorem ce5 {s k:Nat}(hs:1≤s)(hk:k<65536):mZ true ⟨k,k,-1,(dh s k).2⟩=some (5,0):=by
 cases k with
 |zero=>
  obtain⟨a,b,c,d,_⟩:=uk (en:=true) (k:=0) (by omega) (bD) hs (Gd.none s 1) (bF _);exact d
 |succ k=>
  obtain⟨a1,a2⟩:=wE hs k (by omega);obtain⟨a,b,c,d,_⟩:=uk (en:=true) hk a2 hs a1 ((lw (by omega) hs).next (lw hk hs));exact d
def cut (n:Nat)(t:List Int):List Int:=t.map fun x=>if x<(n:Int)then x else-1
def frB (d:Nat)(t:List Int)(i:Nat):List (Int×Int):=if i % d=0 then [(4,(qW t i:Int))]else []
def bkF (d:Nat)(t:List Int):Nat→List (Int×Int)
 |0=>[]
 |i+1=>(3,(qW t ((i-i % d:Nat):Int):Int))::((if i % d≠0 then [(1,((i % d:Nat):Int))]else [])++(7,0)::(frB d t i++bkF d t i))
theorem br7 {n:Nat}{t:List Int}:(cut n t).length=t.length:=by unfold cut;rw[bC]
theorem bS1 {n:Nat}{t:List Int}{i:Nat}(hi:i<t.length):(cut n t)[i]?=some (if t[i]<(n:Int)then t[i]else-1):=by
 unfold cut;rw[List.getElem?_map,aW hi];rfl
theorem av2 {n:Nat}{t:List Int}{x:Int}(hx:0≤x):x∈cut n t↔x∈t∧x<(n:Int):=by
 unfold cut;rw[List.mem_map];constructor
 ·rintro⟨y,hy,e⟩;by_cases h:y<(n:Int)
  ·rw[zE h]at e;subst e;exact⟨hy,h⟩
  ·rw[zF h]at e;omega
 ·rintro⟨hy,h⟩;exact⟨x,hy,zE h⟩
theorem bS2 {n:Nat}{t:List Int}{x:Int}(hx:0≤x∧x<(n:Int)):qW (cut n t) x=qW t x:=by
 unfold qW cut;rw[List.findIdx_map]
 congr 1
 funext y
 show decide ((if y<(n:Int)then y else-1)=x)=decide (y=x);by_cases h:y<(n:Int)
 ·rw[zE h]
 ·rw[zF h,zA (by omega),zA (by omega)]
theorem ch1 {i:Nat}{t:List Int}(one: ∀i j (hi:i<t.length) (hj:j<t.length),t[i]=t[j]→0≤t[i]→i=j)(hm:(i:Int)∈t):(cut (i+1) t).set (qW t i) (-1)=cut i t:=by
 obtain⟨hs,e⟩:=yC hm;generalize qW t i=u at*;apply List.ext_getElem?;intro j;by_cases hj:j<t.length
 ·rw[bS1 hj,List.getElem?_set];by_cases huj:u=j
  ·subst huj;rw[zE rfl,zE (by rw[br7];exact hs),zF (by omega)]
  ·rw[zF huj,bS1 hj];have hne:t[j]≠(i:Int):=fun h=>huj (one u j hs hj (by rw[e,h]) (by omega))
   by_cases h:t[j]<(i:Int)
   ·rw[zE h,zE (by omega)]
   ·rw[zF h,zF (by omega)]
 ·rw[bH (by rw[aZ,br7];omega),bH (by rw[br7];omega)]
theorem ch0 {i:Nat}{t:List Int}(hm:(i:Int)∉t):cut (i+1) t=cut i t:=by
 unfold cut;refine bK fun x hx=> ?_
 have:x≠(i:Int):=fun h=>hm (h▸hx)
 by_cases h:x<(i:Int)
 ·rw[zE h,zE (by omega)]
 ·rw[zF h,zF (by omega)]
theorem bS6 {l d i:Nat}{t:List Int}{en:Bool}(G:Gd (l+1) t d)(hi:i≤l)(hd:1≤d):Run (mZ en) ⟨l,i,i,cut (i+1) t⟩ (frB d t i) ⟨l,i,i,cut i t⟩:=by
 unfold frB;by_cases h:i % d=0
 ·have hm:=G.all i (by omega) h;have hm':(i:Int)∈cut (i+1) t:=(av2 (by omega)).2 ⟨hm,by omega⟩
  have ht:kw (cut (i+1) t)=(i:Int):=aD8 (by omega) (fun y hy=>by
   by_cases h0:0≤y
   ·have:=((av2 h0).1 hy).2;omega
   ·omega) (.inr hm')
  have hsl:=bS2 (n:=i+1) (t:=t) (x:=i) (by omega);obtain⟨hs,es⟩:=aM9 hm';rw[hsl]at hs es;rw[zE h];refine .one ?_ ?_
  ·unfold mZ;simp only[ht,hsl];rw[zF (by omega),zE (by omega)]
  ·unfold mac;simp only[aB,if_false,if_true,aD];rw[bA,es];simp only[bG];rw[zE (by omega),ch1 G.one hm]
 ·rw[zF h,ch0 fun hm=>by rcases G.ins _ hm with h1|h1<;>omega];exact .nil _
theorem cf8 {l d:Nat}{t:List Int}{en:Bool}(hl:l<65536)(G:Gd (l+1) t d)(hd:1≤d): ∀i,i≤l→Run (mZ en) ⟨l,i,i,cut i t⟩ (bkF d t i) ⟨l,0,0,cut 0 t⟩
 |0,_=> .nil _
 |i+1,hi=>by
  have hmod:=Nat.mod_lt i (show d > 0 by omega);have hle:=Nat.mod_le i d
  have hdm:(i-i % d) % d=0:=by
   have:=aY i d;rw[show i-i % d=d*(i / d)by omega];exact Nat.mul_mod_right _ _
  generalize hr:i % d=r at*;have hm:=G.all (i-r) (by omega) hdm;have hm':((i-r:Nat):Int)∈cut (i+1) t:=(av2 (by omega)).2 ⟨hm,by omega⟩
  have ht:kw (cut (i+1) t)=((i-r:Nat):Int):=aD8 (by omega) (fun y hy=>by
   by_cases h0:0≤y
   ·obtain⟨h1,h2⟩:=(av2 h0).1 hy;rcases G.ins y h1 with h3|h3
    ·omega
    ·obtain⟨y,rfl⟩:=Int.eq_ofNat_of_zero_le h0;have h4:y % d=0:=by have:=h3.2.2;omega
     have h5:=aY i d;have h6:=aY y d;rw[h4]at h6;rw[hr]at h5;have h7:y / d≤i / d:=Nat.div_le_div_right (by omega);have h8:d*(y / d)≤d*(i / d):=Nat.mul_le_mul_left _ h7;omega
   ·omega) (.inr hm')
  have hsl:=bS2 (n:=i+1) (t:=t) (x:=((i-r:Nat):Int)) (by omega);obtain⟨hs,es⟩:=aM9 hm';rw[hsl]at hs es;unfold bkF;rw[hr]
  have rest:Run (mZ en) ⟨l,i,((i+1:Nat):Int),cut (i+1) t⟩ ((7,0)::(frB d t i++bkF d t i)) ⟨l,0,0,cut 0 t⟩:=by
   refine .cons (m':=⟨l,i,i,cut (i+1) t⟩) ?_ ?_ ((bS6 G (by omega) hd).append (cf8 hl G hd i (by omega)))
   ·unfold mZ;simp only[ht];rw[zF (by omega),zF (by omega),zF (by omega),zE (by omega)]
   ·unfold mac;simp only[aB,if_false,if_true,true_and];rw[zE (by omega)]
  refine .cons (m':=⟨l,((i-r:Nat):Int),((i+1:Nat):Int),cut (i+1) t⟩) ?_ ?_ ?_
  ·unfold mZ;simp only[ht,hsl];rw[zF (by omega),zF (by omega),zF (by omega),zF (by omega),zE (by omega)]
  ·unfold mac;simp only[aB,if_false,if_true,aD];rw[bA,es];simp only[bG];rw[zE (by omega)]
  ·by_cases h0:r≠0
   ·rw[zE h0];refine .cons (m':=⟨l,i,((i+1:Nat):Int),cut (i+1) t⟩) ?_ ?_ rest
    ·unfold mZ;simp only[ht];rw[zF (by omega),zF (by omega),zF (by omega),zF (by omega),zF (by omega),zE (by omega)]
     congr 2
     omega
    ·unfold mac;simp only[if_true];rw[zE (by omega)]
     congr 2
     omega
   ·rw[zF h0,List.nil_append];have e:((i-r:Nat):Int)=(i:Int):=by omega
    rw[e];exact rest
def an1 (l:Nat)(t:List Int):List (Int×Int):=(5,0)::(frB (nu l t.length) t l++bkF (nu l t.length) t l)
theorem cf3 {l s:Nat}(hl:l<65536)(hs:1≤s):Run (mZ true) ⟨l,l,-1,(dh s l).2⟩ (an1 l (dh s l).2) ⟨l,0,0,cut 0 (dh s l).2⟩∧mZ true ⟨l,0,0,cut 0 (dh s l).2⟩=none:=by
 obtain⟨G,e⟩:=wE hs l hl;have hd:=(lw hl hs).pos;unfold an1;rw[e];have hn:=ce5 (s:=s) (k:=l) hs hl;generalize (dh s l).2=t at*
 have hc:cut (l+1) t=t:=by
  unfold cut
  conv=>rhs;rw[←List.map_id t]
  refine bK fun x hx=> ?_
  rcases G.ins x hx with h|h
  ·rw[zE (by omega)];rfl
  ·rw[zE (by omega)];rfl
 refine⟨.cons (m':=⟨l,l,l,t⟩) hn ?_ (Run.append (m':=⟨l,l,l,cut l t⟩) ?_ (cf8 hl G hd l (Nat.le_refl _))), ?_⟩
 ·unfold mac;simp only[aB,if_false,if_true,true_and]
 ·have:=bS6 (en:=true) (i:=l) G (Nat.le_refl _) hd;rw[hc]at this;exact this
 ·have ht:kw (cut 0 t)= -1:=aD8 (by omega) (fun y hy=>by
   by_cases h0:0≤y
   ·have:=((av2 h0).1 hy).2;omega
   ·omega) (.inl rfl)
  unfold mZ;simp only[ht];rw[zF (by omega),zF (by omega),zE trivial]
end
section
open Int renaming toNat_natCast → bF
open List renaming length_append → aB, length_singleton → aD, replicate → aW, length_cons → aX, append_assoc → aY, append_nil → bA, length → bB, findIdx_le_length → bC, length_replicate → bD, countP_le_length → bG, findIdx_getElem → bH, getElem?_eq_getElem → bI, length_take → bJ, nil_append → bK, not_of_lt_findIdx → bL, replicate_zero → bM, take_length → bN, take_succ_eq_append_getElem → bO
open Nat renaming le_refl → aZ, mul_le_mul → bE
theorem bN9 : ∀f,(∀n c k (h:List Bool) last,1≤n→n≤65536→(2≤n→1≤c)→(pt f false n c k h last).length+2≤5*n)∧∀n c k (h:List Bool) last,1≤n→n≤65536→1≤c→(pt f true n c k h last).length+3≤5*n
 |0=>⟨fun n c k h last h1 _ _=>by show 0+2≤_;omega,fun n c k h last h1 _ _=>by show 0+3≤_;omega⟩
 |f+1=>by
  obtain⟨ih1,ih2⟩:=bN9 f;refine⟨fun n c k h last h1 h2 h3=> ?_,fun n c k h last h1 h2 h3=> ?_⟩
  ·unfold pt;by_cases hn:n=1
   ·rw[zE hn];simp;omega
   ·rw[zF hn,aX];have:=ih2 n c (h.findIdx fun b=> !b) (h.set (h.findIdx fun b=> !b) true) last h1 h2 (h3 (by omega));omega
  ·unfold pt;by_cases hn:n≤1
   ·rw[zE hn];simp;omega
   ·rw[zF hn,aX,aB,aX];obtain⟨m1,m2,m3,_⟩:=bP4 (n:=n) (c:=c) (by omega) h3 h2
    have a:=ih1 (n-spF n c) (c-1) 0 h last (by omega) (by omega) (fun h=>by
     by_cases hc:c=1
     ·have:=m3 hc;omega
     ·omega)
    have b:=ih2 (spF n c) c k h false m1 (by omega) h3;omega
theorem cc4 {h:List Bool}(hl:h.length<1000000000):qP h=some ((h.findIdx fun b=> !b:Nat):Int):=by
 unfold qP
 have key:=oI (f:=mS h) (n:=h.findIdx fun b=> !b) (c:=((h.findIdx fun b=> !b:Nat):Int)) (by have:=bC (p:=fun b=> !b) (xs:=h);omega)
  (fun i hi=>by
   have hlt:i<h.length:=Nat.lt_of_lt_of_le hi bC;have hb:=bL hi;unfold mS;rw[zB (by omega),zC,eE hlt];simp only[zG]
   have:h[i]=true:=by cases hx:h[i]with
    |true=>rfl
    |false=>rw[hx]at hb;cases hb
   rw[this,zC,ck (by omega)]
   rfl)
  (by
   unfold mS;by_cases hlt:(h.findIdx fun b=> !b)<h.length
   ·have hb:=bH (w:=hlt);rw[zB (by omega),zC,eE hlt];simp only[zG]
    have:h[h.findIdx fun b=> !b]=false:=by cases hx:h[h.findIdx fun b=> !b]with
     |false=>rfl
     |true=>rw[hx]at hb;cases hb
    rw[this,zD]
   ·rw[zA (by omega),zD])
 rw[key];rfl
theorem cm7 {h:List Bool}{k:Nat}(hl:h.length<1000000000)(hk:k<h.length):sS h (k:Int) true=some (h.set k true):=by
 unfold sS
 have key:=hO (f:=nP h) (n:=h.length) (fun i=>h.take i) (c:=h) (by omega)
  (fun i hi=>by
   unfold nP;simp only;rw[zB (by omega),zC,eE hi];simp only[zG];rw[dq (by rw[bJ];omega) (by omega),ck (by omega),bO hi]
   rfl)
  (by
   unfold nP;simp only
   rw[zA (by omega),zD,bN])
 rw[List.take_zero]at key;rw[key];simp only[zG];rw[dp hk];simp only[zG];rw[bI hk];rfl
theorem aT9 {h:List Bool}(hc:0<h.countP fun b=> !b):(h.findIdx fun b=> !b)<h.length:=by
 obtain⟨b,hb,e⟩:=List.countP_pos_iff.1 hc;exact List.findIdx_lt_length_of_exists ⟨b,hb,e⟩
theorem bY3 {h:List Bool}(hc:0<h.countP fun b=> !b):((h.set (h.findIdx fun b=> !b) true).countP fun b=> !b)+1=h.countP fun b=> !b:=by
 have hlt:=aT9 hc;have hb:=bH (w:=hlt);rw[List.countP_set hlt,zE hb];simp;have:0<h.countP (fun b=>b==false)∨True:= .inr trivial;omega
theorem bF5 : ∀(N n c k f:Nat) (h:List Bool) (last:Bool),n≤N→1≤n→n<65536→2*n≤f→(h.countP fun b=> !b)=c→(2≤n→1≤c)→h.length≤1048576→iN N (n:Int) (c:Int) h last=some (pt f false n c k h last)
 |0,n,c,k,f,h,last=>fun h1 h2=>by omega
 |N+1,n,c,k,f,h,last=>by
  intro h1 h2 h3 h4 h5 h6 h7;obtain⟨f,rfl⟩: ∃g,f=g+1:=⟨f-1,by omega⟩
  show wT (iN N) (n:Int) (c:Int) h last=_;unfold wT;have hl:(cond last (some 6) (some 7):Option Int)=some (if last then 6 else 7):=by cases last<;>rfl
  rw[hl];simp only[zG];by_cases hn:n=1
  ·rw[zB (by omega),zC];unfold pt;rw[zE hn]
  ·have hc1:=h6 (by omega);have hcp:0<h.countP fun b=> !b:=by omega
   have hlt:=aT9 hcp;have hcs:=bY3 hcp;rw[zA (by omega),zD,cc4 (by omega)];simp only[zG];rw[cm7 (by omega) hlt];simp only[zG]
   conv=>rhs;unfold pt
   rw[zF hn];have hbd:=(bN9 f).2 n c (h.findIdx fun b=> !b) (h.set (h.findIdx fun b=> !b) true) last h2 (by omega) hc1;generalize (h.findIdx fun b=> !b)=u at*;have hol:(h.set u true).length≤1048576:=by rw[List.length_set];exact h7
   generalize h.set u true=own at*;have hcl:c≤1048576:=by have:=bG (p:=fun b=> !b) (l:=h);omega
   have hTl:((2,(u:Int))::pt f true n c u own last).length≤5*n:=by rw[aX];omega
   generalize hT:((2,(u:Int))::pt f true n c u own last)=T at*
   obtain⟨r,e,hr,hr2⟩:=mH (f:=rQ (iN N) (c:Int) (u:Int) own) (a:=((n:Int),last,[(2,(u:Int))])) (fun s=> ∃(n' f':Nat) (last':Bool) (out:List (Int×Int)),s=((n':Int),last',out)∧1≤n'∧n'≤n∧2*n'≤f'+1∧out++pt f' true n' c u own last'=T∧out.length≤1000000) (fun s=>s.1.toNat) (fun r=>r++[(7,0),(4,(u:Int))]=T∧r.length≤1000000) ⟨n,f,last,_,rfl,h2,aZ _,by omega,hT,by simp⟩ (by simp only;omega) (by
    rintro s ⟨n',f',last',out,rfl,g1,g2,g3,g4,g5⟩;obtain⟨f',rfl⟩: ∃g,f'=g+1:=⟨f'-1,by omega⟩
    have g4':=g4;have glen:=congrArg bB g4;rw[aB]at glen;unfold pt at g4;unfold rQ;simp only;by_cases hn':n'≤1
    ·rw[zE hn']at g4;rw[zA (by omega),zD];exact .inr ⟨_,rfl,g4,g5⟩
    ·rw[zF hn']at g4;obtain⟨m1,m2,m3,m4⟩:=bP4 (n:=n') (c:=c) (by omega) hc1 (by omega);rw[zB (by omega),zC,(aY2 (n:=n') (c:=c) (by omega) (by have:=bG (p:=fun b=> !b) (l:=h);omega)).2];simp only[zG];rw[←m4]
     have hw:(pt (f'+1) true n' c u own last').length=1+(pt f' false (n'-spF n' c) (c-1) 0 own last').length+1+(pt f' true (spF n' c) c u own false).length:=by
      conv=>lhs;unfold pt
      rw[zF hn',aX,aB,aX];omega
     rw[dq (by omega) (by omega),ck (n:=(n':Int)-(spF n' c:Int)) (by omega),ck (n:=(c:Int)-1) (by omega),show(n':Int)-(spF n' c:Int)=((n'-spF n' c:Nat):Int)by omega,show(c:Int)-1=((c-1:Nat):Int)by omega,bF5 N (n'-spF n' c) (c-1) 0 f' own last' (by omega) (by omega) (by omega) (by omega) (by omega) (fun h=>by
      by_cases hc:c=1
      ·have:=m3 hc;omega
      ·omega) hol]
     simp only[zG];rw[dq (by rw[aB,aD];omega) (by omega),dq (by rw[aB,aB,aD];omega) (by omega)];refine .inl ⟨_,rfl,⟨spF n' c,f',false,_,rfl,m1,by omega,by omega, ?_, ?_⟩,by simp only;omega⟩
     ·rw[←g4];simp[aY]
     ·rw[aB,aB,aB,aD,aD]
      omega)
   rw[e];simp only[zG];rw[dq (by omega) (by omega),hr]
theorem bO6 {l s:Nat}(hl:l≤400)(hs:1≤s∧s≤1048576):sR (l:Int) (s:Int)=some (if l=0 then [(5,0)]else pt (2*l) false l s 0 (aW s false) true,0):=by
 unfold sR;rw[zA (by omega),zD,zA (by omega),zD,zA (by omega),zD,zA (by omega),zD];by_cases h0:l=0
 ·rw[zE h0,zB (by omega),zC]
 ·rw[zF h0,zA (by omega),zD]
  have:(Nat.beq 1 (Sh.w .bool)&&decide (0≤(s:Int))&&decide ((s:Int)≤(s:Int))&&decide ((1:Int)*(s:Int)≤140737488355328)&&Nat.ble 1 1)=true:=by
   rw[zB (show 0≤(s:Int)by omega),zB (show(s:Int)≤(s:Int)by omega),zB (show(1:Int)*(s:Int)≤140737488355328 by omega)];rfl
  rw[this,dN];unfold wW;rw[bF,bF5 400 l s 0 (2*l) (aW s false) true hl (by omega) (by omega) (aZ _) (by rw[List.countP_replicate];simp) (fun _=>hs.1) (by rw[bD];exact hs.2)];rfl
theorem ax5 {t:List Int}{x:Int}(hl:t.length<1000000000):fX t x=some (if x∈t then(qW t x:Int)else-1):=by
 unfold fX;have hle:qW t x≤t.length:=bC
 have key:=oI (f:=nS t x) (n:=qW t x) (c:=if x∈t then .inl (qW t x:Int)else .inr ()) (by omega)
  (fun i hi=>by
   have hlt:i<t.length:=by omega
   have hb:=bL hi;unfold nS;rw[zB (by omega),zC,eE hlt];simp only[zG];rw[hb,zD,ck (by omega)]
   rfl)
  (by
   unfold nS;by_cases hm:x∈t
   ·obtain⟨hs,e⟩:=yC hm;rw[zB (by omega),zC,eE hs];simp only[zG];rw[zB e,zC,zE hm]
   ·have:qW t x=t.length:=List.findIdx_eq_length_of_false fun y hy=>zA fun e=>hm (e▸hy)
    rw[zA (by omega),zD,zF hm])
 rw[key];simp only[zG];split<;>rfl
theorem aW4 {k s:Nat}(hk:k<65536)(hs:1≤s∧s≤1048576):mq (k:Int) (s:Int)=some ((nu k s:Int),0):=by
 unfold mq;rw[zA (by omega),zD,zA (by omega),zD,zA (by omega),zD,zA (by omega),zD];have h0:=lw hk hs.1
 have key:cv (pm (k:Int) (s:Int)) fi 65536=some (nu k s:Int):=by
  refine aM4 (fun a=> ∃e:Nat,a=((2 ^ e:Nat):Int)∧e≤16∧k<s*2 ^ e) (fun a=>a.toNat) ⟨16,rfl,by omega,by omega⟩ (by decide) ?_;rintro a ⟨e,rfl,he,hlt⟩;have hp:1≤2 ^ e:=Nat.one_le_two_pow;have hb:2 ^ e≤2 ^ 16:=Nat.pow_le_pow_right (by omega) he;unfold pm;rw[show Int.tdiv ((2 ^ e:Nat):Int) 2=((2 ^ e / 2:Nat):Int)from rfl,be9 (by omega)];by_cases h1:1<2 ^ e
  ·have he0:1≤e:=by
    rcases Nat.eq_zero_or_pos e with h|h
    ·subst h;simp at h1
    ·exact h
   have h2:2 ^ e / 2=2 ^ (e-1):=by
    conv=>lhs;rw[show e=(e-1)+1 by omega,Nat.pow_succ]
    exact Nat.mul_div_cancel _ (by omega)
   have hb2:s*2 ^ (e-1)≤1048576*65536:=bE hs.2 (by omega);rw[zB (by omega),zC,h2,←Int.natCast_mul,be9 (by omega)];by_cases h3:k<s*2 ^ (e-1)
   ·rw[zB (by omega),zC];exact .inl ⟨_,rfl,⟨e-1,rfl,by omega,h3⟩,by omega⟩
   ·rw[zA (by omega),zD];have:IsStr k s (2 ^ e):=⟨⟨e,rfl⟩,hlt, .inr (by rw[h2];omega)⟩;rw[this.eq h0];exact .inr rfl
  ·rw[zA (by omega),zD];have:IsStr k s (2 ^ e):=⟨⟨e,rfl⟩,hlt, .inl (by omega)⟩;rw[this.eq h0];exact .inr rfl
 rw[key];rfl
theorem aL7 (d:Nat)(t:List Int): ∀n,(frF d n t).1.length≤n
 |0=>aZ _
 |n+1=>by
  have:=aL7 d t n;unfold frF;split
  ·rw[aB,aD];omega
  ·omega
theorem bW2 (i d:Nat):Int.tmod (i:Int) (d:Int)=((i % d:Nat):Int):=rfl
theorem bF4 {k s d':Nat}{t:List Int}(hk:k<65536)(hs:t.length=s)(h1:1≤s∧s≤1048576)(G:Gd k t d')(hd:d' ∣ nu k s):sU t (k:Int)=some (nH k t):=by
 obtain⟨_,_,_,_,hfree⟩:=uk (en:=false) hk hs h1.1 G hd;have hpos:=(lw hk h1.1).pos;have hfr:=fun n=>(bO9 (k:=k) (d:=nu k s) (s:=s) (t:=t) (en:=false) rfl hs G.one n).1
 unfold sU nH
 have key:=hO (f:=nT t) (n:=t.length) (fun i=>t.take i) (c:=t) (by omega)
  (fun i hi=>by
   unfold nT;simp only;rw[zB (by omega),zC,eE hi];simp only[zG];rw[dq (by rw[bJ];omega) (by omega),ck (by omega),bO hi]
   rfl)
  (by
   unfold nT;simp only
   rw[zA (by omega),zD,bN])
 rw[List.take_zero]at key;rw[key];simp only[zG];rw[hs,aW4 hk h1];simp only[zG];generalize hdd:nu k s=d at*
 have key2:=hO (f:=lz (k:Int) ((d:Int),0)) (n:=k) (fun i=>((frF d i t).2,(frF d i t).1)) (c:=((frF d k t).2,(frF d k t).1)) (by omega)
  (fun i hi=>by
   have hlen:=aL7 d t i;have hl2:(frF d i t).2.length=s:=by rw[hfr,mf,hs]
   unfold lz;simp only;rw[zB (by omega),zC,zB (show(d:Int)≠0 by omega),dN,bW2,ax5 (by omega)];simp only[zG]
   conv=>rhs;unfold frF
   by_cases h2:i % d≠0∧(i:Int)∈(frF d i t).2
   ·obtain⟨hs',e⟩:=aM9 h2.2;rw[zE h2,zE h2.2,zB (by omega),zC,zB (by omega)];simp only[zG,zC];rw[dq (by omega) (by omega),dp hs'];simp only[zG];rw[e];simp only[zG];rw[ck (by omega)];rfl
   ·rw[zF h2]
    have:(cond (decide (((i % d:Nat):Int)≠0)) (some (decide (0≤(if(i:Int)∈(frF d i t).2 then(qW (frF d i t).2 (i:Int):Int)else-1)))) (some false):Option Bool)=some false:=by
     by_cases h3:i % d=0
     ·rw[zA (by omega),zD]
     ·rw[zB (by omega),zC,zF (fun k=>h2 ⟨h3,k⟩)];rfl
    rw[this];simp only[zG,zD];rw[ck (by omega)]
    rfl)
  (by
   unfold lz;simp only
   rw[zA (by omega),zD])
 have key2':cv (lz (k:Int) ((d:Int),0)) fi (0,t,[])=_:=key2;rw[key2'];simp only[zG];have hlen:=aL7 d t k;have hl2:(frF d k t).2.length=s:=by rw[hfr,mf,hs]
 rw[zB (show(d:Int)≠0 by omega),dN,bW2];by_cases h2:k % d=0
 ·have hf:=hfree h2;rw[←hfr k]at hf;obtain⟨hs',e⟩:=aM9 hf;rw[zE h2,zB (by omega),zC,ax5 (by omega),zE hf];simp only[zG];rw[dq (by omega) (by omega),dp hs'];simp only[zG];rw[e];rfl
 ·rw[zF h2,zA (by omega),zD]
theorem ai9 (k:Nat)(t:List Int):(nH k t).1.length≤k+1:=by
 have:=aL7 (nu k t.length) t k;unfold nH;split
 ·rw[aB,aD];omega
 ·omega
theorem yh (s:Nat): ∀k,(dh s k).1.length≤(k+1)*(k+2)
 |0=>by have:=ai9 0 (aW s (-1));show(nH 0 _).1.length≤_;omega
 |k+1=>by
  have h1:=yh s k;have h2:=ai9 (k+1) (dh s k).2;show((dh s k).1++[(1,1)]++(nH (k+1) (dh s k).2).1).length≤_;rw[aB,aB,aD]
  have:(k+1+1)*(k+1+2)=(k+1)*(k+2)+2*(k+2):=by
   rw[show(k+1+1)=k+2 by omega,show k+1+2=(k+1)+2 by omega,Nat.mul_add,Nat.mul_comm (k+2) (k+1),Nat.mul_comm (k+2) 2]
  omega
theorem cx6 (i n:Nat):(aW i (-1:Int)++aW (n+1) 0).set i (-1)=aW (i+1) (-1)++aW n 0:=by
 rw[List.set_append_right _ _ (by simp),bD,Nat.sub_self,List.replicate_succ,List.set_cons_zero,List.replicate_succ',aY];rfl
theorem cc3 {l s:Nat}(hl:l<65535)(hs:1≤s∧s≤1048576):qQ (l:Int) (s:Int)=some (dh s l):=by
 unfold qQ
 have:(Nat.beq 1 (Sh.w (.int .i64))&&decide (0≤(s:Int))&&decide ((s:Int)≤(s:Int))&&decide ((8:Int)*(s:Int)≤140737488355328)&&Nat.ble 1 8)=true:=by
  rw[zB (show 0≤(s:Int)by omega),zB (show(s:Int)≤(s:Int)by omega),zB (show(8:Int)*(s:Int)≤140737488355328 by omega)];rfl
 rw[this,dN,bF]
 have key:=hO (f:=mT (s:Int)) (n:=s) (fun i=>aW i (-1)++aW (s-i) 0) (c:=aW s (-1)) (by omega)
  (fun i hi=>by
   unfold mT;simp only;rw[zB (by omega),zC,dp (by simp;omega)];simp only[zG];rw[bI (by simp;omega)];simp only[zG];rw[ck (by omega),show s-i=(s-(i+1))+1 by omega,cx6]
   rfl)
  (by
   unfold mT;simp only
   rw[zA (by omega),zD,Nat.sub_self,bM,bA])
 rw[bM,bK,Nat.sub_zero]at key;rw[key];simp only[zG]
 have key2:=hO (f:=ke (l:Int)) (n:=l+1) (fun i=>match i with|0=>([],aW s (-1))|j+1=>((dh s j).1,(dh s j).2)) (c:=((dh s l).1,(dh s l).2)) (by omega)
  (fun i hi=>by
   unfold ke;cases i with
   |zero=>
    simp only;rw[zB (by omega),zC,zA (by omega),zD];simp only[zG];have:=bF4 (k:=0) (by omega) (bD) hs (Gd.none s 1) (Nat.one_dvd _);rw[this];simp only[zG];have hg:=ai9 0 (aW s (-1));rw[dq (by simp only[List.length_nil];omega) (by omega),bK,ck (by omega)];rfl
   |succ j=>
    obtain⟨a1,a2⟩:=wE hs.1 j (by omega);have hl1:=yh s j;have hb:(j+1)*(j+2)≤65536*65536:=bE (by omega) (by omega);have hg:=ai9 (j+1) (dh s j).2;simp only;rw[zB (by omega),zC,zB (by omega),zC,dq (by omega) (by omega)];simp only[zG];rw[bF4 (k:=j+1) (by omega) a2 hs a1 ((lw (by omega) hs.1).next (lw (by omega) hs.1))];simp only[zG];rw[dq (by rw[aB,aD];omega) (by omega),ck (by omega)]
    rfl)
  (by
   unfold ke;simp only
   rw[zA (by omega),zD])
 have key2':cv (ke (l:Int)) fi (0,[],aW s (-1))=_:=key2;rw[key2'];rfl
theorem bq8 (d:Nat)(t:List Int): ∀i,(bkF d t i).length≤4*i
 |0=>aZ _
 |i+1=>by
  have:=bq8 d t i;unfold bkF frB;rw[aX,aB,aX,aB]
  repeat' split
  all_goals simp;omega
theorem bO7 {l s:Nat}(hl:l<65535)(hs:1≤s∧s≤1048576):sT (l:Int) (s:Int)=some (0,(dh s l).1++an1 l (dh s l).2):=by
 obtain⟨G,e⟩:=wE hs.1 l (by omega);have hpos:=(lw (k:=l) (s:=s) (by omega) hs.1).pos;have hal:=yh s l;have hb:(l+1)*(l+2)≤65536*65537:=bE (by omega) (by omega);unfold sT an1;rw[aW4 (by omega) hs];simp only[zG];rw[zA (by simp),zD,cc3 hl hs];simp only[zG];rw[e,dq (by omega) (by omega),zB (show((nu l s:Nat):Int)≠0 by omega),dN,bW2];generalize hd:nu l s=d at*;generalize haa:dh s l=aa at*;obtain⟨out,t⟩:=aa;simp only at*
 have h1:(cond (decide (((l % d:Nat):Int)=0)) ((fX t (l:Int)).bind fun r4=>gd (fU (bB ((out++[(5,0)]))+1) 16) (some (((out++[(5,0)])++[(4,r4)])))) (some ((out++[(5,0)]))):Option (List (Int×Int)))=some (out++[(5,0)]++frB d t l):=by
  unfold frB;by_cases h:l % d=0
  ·rw[zB (by omega),zC,ax5 (by omega),zE (G.all l (by omega) h),zE h];simp only[zG];rw[dq (by rw[aB,aD];omega) (by omega)]
  ·rw[zA (by omega),zD,zF h,bA]
 rw[h1];simp only[zG];have hfb:(frB d t l).length≤1:=by unfold frB;split<;>simp
 have key:cv (rV ((d:Int),0) (out,t)) fi (IntKind.i64.wrap ((l:Int)-1),out++[(5,0)]++frB d t l)=some (out++(5,0)::(frB d t l++bkF d t l)):=by
  refine aM4 (fun a=> ∃(i:Nat) (o:List (Int×Int)),a=((i:Int)-1,o)∧i≤l∧o++bkF d t i=out++(5,0)::(frB d t l++bkF d t l)) (fun a=>(a.1+1).toNat) ⟨l,_,by rw[ck (by omega)],aZ _,by simp[aY]⟩ (by rw[ck (by omega)];simp only;omega) ?_;rintro a ⟨i,o,rfl,hi,ho⟩;unfold rV;simp only;have hol:=congrArg bB ho;have hbk:=bq8 d t l;rw[aB,aB,aX,aB]at hol;generalize out++(5,0)::(frB d t l++bkF d t l)=T at*;cases i with
  |zero=>
   rw[zA (by omega),zD];have:o=o++bkF d t 0:=by show o=o++[];rw[bA]
   rw[this,ho];exact .inr rfl
  |succ i=>
   left;have hmod:=Nat.mod_lt i (show d > 0 by omega);have hle:=Nat.mod_le i d
   have hdm:(i-i % d) % d=0:=by
    have:=Nat.div_add_mod i d;rw[show i-i % d=d*(i / d)by omega];exact Nat.mul_mod_right _ _
   rw[show((i+1:Nat):Int)-1=(i:Int)by omega,zB (by omega),zC,zB (show(d:Int)≠0 by omega),dN,bW2,ck (n:=(i:Int)-((i % d:Nat):Int)) (by omega),show(i:Int)-((i % d:Nat):Int)=((i-i % d:Nat):Int)by omega,ax5 (by omega),zE (G.all (i-i % d) (by omega) hdm)];simp only[zG];rw[dq (by omega) (by omega)];unfold bkF at ho;generalize hr:i % d=r at*
   have h2:(cond (decide (((i-r:Nat):Int)<(i:Int))) (gd (fU (bB ((o++[(3,(qW t ((i-r:Nat):Int):Int))]))+1) 16) (some (((o++[(3,(qW t ((i-r:Nat):Int):Int))])++[(1,IntKind.i64.wrap ((i:Int)-((i-r:Nat):Int)))])))) (some ((o++[(3,(qW t ((i-r:Nat):Int):Int))]))):Option (List (Int×Int)))=some (o++[(3,(qW t ((i-r:Nat):Int):Int))]++if r≠0 then [(1,(r:Int))]else []):=by
    by_cases h:r=0
    ·rw[zA (by omega),zD,zF (by omega),bA]
    ·rw[zB (by omega),zC,zE h,dq (by rw[aB,aD];omega) (by omega),ck (by omega),show(i:Int)-((i-r:Nat):Int)=(r:Int)by omega]
   rw[h2];simp only[zG];have h3:(if r≠0 then [((1:Int),(r:Int))]else []).length≤1:=by split<;>simp
   rw[dq (by rw[aB,aB,aD];omega) (by omega)];unfold frB at ho;rw[hr]at ho;by_cases h:r=0
   ·rw[zB (by omega),zC];rw[dq (by rw[aB,aB,aB,aD,aD];omega) (by omega),ck (by omega)];refine⟨_,rfl,⟨i,_,rfl,by omega, ?_⟩,by simp only;omega⟩;rw[←ho,zE h,h];simp[aY]
   ·rw[zA (by omega),zD,ck (by omega)];refine⟨_,rfl,⟨i,_,rfl,by omega, ?_⟩,by simp only;omega⟩;rw[←ho,zF h];simp[aY]
 rw[key];rfl
end
section
open List renaming getElem?_eq_none → aB, length_cons → aD
theorem cm9 {n:Int}(h:1≤n∧n≤65535):iI 1 n=true:=by
 unfold iI;rw[zF (by omega),zF (by omega),zE rfl,zB (by omega)]
theorem aX0 {a n:Int}(ha:2≤a∧a≤4)(h:0≤n∧n<1048576):iI a n=true:=by
 unfold iI;rw[zF (by omega),zF (by omega),zF (by omega),zE ha.2,zB h]
theorem aW9 {a n:Int}(ha:5≤a∧a≤9)(h:n=0):iI a n=true:=by
 unfold iI;rw[zF (by omega),zF (by omega),zF (by omega),zF (by omega),zB h]
section
variable {c:Cx}
theorem wS {W W':List Int}(hK:fA c W W'):kt c W'=kt c W:=by
 unfold kt;refine List.map_congr_left fun k _=> ?_
 rw[hK.tag]
theorem bH1 {W w:List Int}{k:Nat}(hk:k<c.ns.toNat)(hlen:sp c k+w.length≤W.length)(hw:w.length=c.X.length+1):kt c (put W (sp c k) w)=(kt c W).set k (w.getD 0 0-1):=by
 apply List.ext_getElem?;intro j;by_cases hj:j<c.ns.toNat
 ·rw[ag6 hj,List.getElem?_set];by_cases hkj:k=j
  ·subst hkj;rw[zE rfl,zE (by rw[lE];exact hk),yH hlen hw]
  ·rw[zF hkj,ag6 hj,bv5 hlen hw (fun h=>hkj h.symm)]
 ·rw[aB (by rw[lE];omega),aB (by rw[List.length_set,lE];omega)]
theorem aD6 {W:List Int}{k:Nat}(hk:k<c.ns.toNat):(kt c W).getD k 0=hY c W k-1:=by
 rw[List.getD_eq_getElem?_getD,ag6 hk];rfl
theorem bS3 (h:c.Ok)(hm:c.mode≠3){s:Dy}(hi:Inv c s){a:Int×Int}{m':Mc}(e:mac a (jJ c s)=some m'):(doF c a.1 a.2 s).1=0∧jJ c (doF c a.1 a.2 s).2=m':=by
 obtain⟨a,n⟩:=a;have hW:=hi.w;have hL:=hi.L;have hp:=hi.p;have hq:=hi.q;have hns:=h.ns;have l1:(seg s.W (c.off 1) c.X.length).length=c.X.length:=fh (hW.in' h (i:=1) (by omega));unfold mac jJ at e;simp only[lE]at e;show(doF c a n s).1=0∧jJ c (doF c a n s).2=m';by_cases h1:a=1
 ·subst h1;rw[zE rfl]at e;by_cases hc:1≤n∧n≤65535∧s.p+n≤s.L
  ·rw[zE hc]at e;injection e with e
   unfold doF;rw[zF (by rw[cm9 (by omega)];simp),zF (by omega),zE rfl,zF (by omega)];refine⟨rfl, ?_⟩;rw[←e];unfold jJ;simp only[wS (bt3 h hW s.p n.toNat)]
  ·rw[zF hc]at e;cases e
 rw[zF h1]at e;by_cases h2:a=2
 ·subst h2;rw[zE rfl]at e;by_cases hc:0≤n∧n<(c.ns.toNat:Int)∧(kt c s.W).getD n.toNat 0<0
  ·rw[zE hc]at e;injection e with e
   have hk:n.toNat<c.ns.toNat:=by omega
   obtain⟨s1,s2,s3⟩:=uw h hm hk;obtain⟨t1,t2⟩:=hW.tk h;have hg:=aD6 (c:=c) (W:=s.W) hk;unfold doF;rw[zF (by rw[aX0 (by omega) (by omega)];simp),zF (by omega),zF (by omega),zE rfl,zF (by omega)];refine⟨rfl, ?_⟩;rw[←e];unfold jJ;simp only;rw[bH1 hk (by rw[aD];omega) (by rw[aD,l1])]
   have hv:(IntKind.u64.wrap (IntKind.i64.wrap (s.p+1))::seg s.W (c.off 1) c.X.length).getD 0 0=s.p+1:=by
    show IntKind.u64.wrap (IntKind.i64.wrap (s.p+1))=_;rw[ck (by omega),hZ (by omega)]
   rw[hv,show s.p+1-1=s.p by omega]
  ·rw[zF hc]at e;cases e
 rw[zF h2]at e;by_cases h3:a=3
 ·subst h3;rw[zE rfl]at e;by_cases hc:0≤n∧n<(c.ns.toNat:Int)∧0≤(kt c s.W).getD n.toNat 0
  ·rw[zE hc]at e;injection e with e
   have hk:n.toNat<c.ns.toNat:=by omega
   obtain⟨s1,s2,s3⟩:=uw h hm hk;obtain⟨t1,t2⟩:=hW.tk h;have hg:=aD6 (c:=c) (W:=s.W) hk;have l2:(seg s.W (sp c n.toNat+1) c.X.length).length=c.X.length:=fh (by omega);unfold doF;rw[zF (by rw[aX0 (by omega) (by omega)];simp),zF (by omega),zF (by omega),zF (by omega),zE rfl,zF (by omega)];refine⟨rfl, ?_⟩;rw[←e];unfold jJ;simp only;rw[wS (fA.put h (fA.refl s.W) hW (i:=1) (by omega) (by rw[l2];exact Nat.le_refl _)),hg]
  ·rw[zF hc]at e;cases e
 rw[zF h3]at e;by_cases h4:a=4
 ·subst h4;rw[zE rfl]at e;by_cases hc:0≤n∧n<(c.ns.toNat:Int)∧0≤(kt c s.W).getD n.toNat 0
  ·rw[zE hc]at e;injection e with e
   have hk:n.toNat<c.ns.toNat:=by omega
   obtain⟨s1,s2,s3⟩:=uw h hm hk;obtain⟨t1,t2⟩:=hW.tk h;have hg:=aD6 (c:=c) (W:=s.W) hk;unfold doF;rw[zF (by rw[aX0 (by omega) (by omega)];simp),zF (by omega),zF (by omega),zF (by omega),zF (by omega),zE rfl,zF (by omega)];refine⟨rfl, ?_⟩;rw[←e];unfold jJ;simp only;rw[bH1 hk (by rw[dW];omega) (dW _)];rfl
  ·rw[zF hc]at e;cases e
 rw[zF h4]at e;by_cases h5:a=5
 ·subst h5;rw[zE rfl]at e;by_cases hc:n=0∧s.q= -1∧s.p=s.L
  ·rw[zE hc]at e;injection e with e
   unfold doF;rw[zF (by rw[aW9 (by omega) hc.1];simp),zF (by omega),zF (by omega),zF (by omega),zF (by omega),zF (by omega),zE rfl,zF (by omega),zF (by omega)];refine⟨rfl, ?_⟩;rw[←e];unfold jJ;simp only[wS (bt4 h hW l1)]
  ·rw[zF hc]at e;cases e
 rw[zF h5]at e;by_cases h6:a=6
 ·subst h6;rw[zE rfl]at e;by_cases hc:n=0∧s.q= -1∧s.p=s.L-1
  ·rw[zE hc]at e;injection e with e
   unfold doF;rw[zF (by rw[aW9 (by omega) hc.1];simp),zF (by omega),zF (by omega),zF (by omega),zF (by omega),zF (by omega),zF (by omega),zE rfl,zF (by omega),zF (by omega)];refine⟨rfl, ?_⟩;rw[←e];unfold jJ;simp only[wS (aU8 h hW s.p).1]
  ·rw[zF hc]at e;cases e
 rw[zF h6]at e;by_cases h7:a=7
 ·subst h7;rw[zE rfl]at e;by_cases hc:n=0∧0<s.q∧s.p=s.q-1
  ·rw[zE hc]at e;injection e with e
   unfold doF;rw[zF (by rw[aW9 (by omega) hc.1];simp),zF (by omega),zF (by omega),zF (by omega),zF (by omega),zF (by omega),zF (by omega),zF (by omega),zF (by omega),zF (by omega)];refine⟨rfl, ?_⟩;rw[←e];unfold jJ;simp only[wS (bt5 h hW s.p).1]
  ·rw[zF hc]at e;cases e
 rw[zF h7]at e;cases e
theorem nc {α β:Type}{x:Option α}{a:α}{f:α→Option β}{r:Option β}(h:x=some a)(h2:f a=r):x.bind f=r:=by rw[h];exact h2
theorem bP7 (h:c.Ok)(hm:c.mode≠3)(hn:1≤c.ns){i:Nat}(hib:i≤1000000){s:Dy}(w:Well2 c i s){a:Int×Int}{m':Mc}(e1:uV (jJ c s)=some a)(e2:mac a (jJ c s)=some m')(g:Int)(en:Bool):
  ∃s',eT g en false c.fixed c.tp c.sl c.ns c.mode c.R c.Q c.len c.words s.L s.p s.q s.c0 s.c1 s.c2 s.c3 s.z c.X c.T c.l c.k c.P c.tk (c.off 8:Int) c.ns (c.X.length:Int) s.lv s.pk c.words s.W=some (a.1,a.2,true,0,c.fixed,c.tp,c.sl,c.ns,c.mode,c.R,c.Q,c.len,c.words,s'.L,s'.p,s'.q,s'.c0,s'.c1,s'.c2,s'.c3,s'.z,s'.lv,s'.pk,c.words,s'.W)∧jJ c s'=m'∧Well2 c (i+1) s':=by
 obtain⟨f1,f2⟩:=bS3 h hm w.inv e2
 have hact:a.1≠0:=fun h0=>by
  unfold mac at e2;rw[h0]at e2;simp at e2
 have hw:=w.act h hm a;unfold bW7 at hw;rw[zF hact]at hw;refine⟨(doF c a.1 a.2 s).2, ?_,f2,hw⟩;unfold eT;rw[zD];refine nc (ck9 h hm hn w.inv g en false) ?_;rw[e1];show cond (!true) _ _=_;rw[Bool.not_true,zD];refine nc (do2 h hm w.inv w.cnt (by omega)) ?_;show cond (decide ((doF c a.1 a.2 s).1≠0)) _ _=_;rw[f1];rfl
theorem aY3 (h:c.Ok)(hm:c.mode≠3)(hn:1≤c.ns){s:Dy}(hi:Inv c s)(e1:uV (jJ c s)=none)(g:Int)(en:Bool):
  eT g en false c.fixed c.tp c.sl c.ns c.mode c.R c.Q c.len c.words s.L s.p s.q s.c0 s.c1 s.c2 s.c3 s.z c.X c.T c.l c.k c.P c.tk (c.off 8:Int) c.ns (c.X.length:Int) s.lv s.pk c.words s.W=some (0,0,false,0,c.fixed,c.tp,c.sl,c.ns,c.mode,c.R,c.Q,c.len,c.words,s.L,s.p,s.q,s.c0,s.c1,s.c2,s.c3,s.z,s.lv,s.pk,c.words,s.W)∧gh g en false c.fixed c.tp c.sl c.ns c.mode c.R c.Q c.len c.words s.L s.p s.q s.c0 s.c1 s.c2 s.c3 s.z c.X c.T c.l c.k c.P c.tk (c.off 8:Int) c.ns (c.X.length:Int) s.lv s.pk c.words s.W=some true:=by
 have ho:=ck9 h hm hn hi g en false;rw[e1]at ho;constructor
 ·unfold eT;rw[zD];exact nc ho rfl
 ·unfold gh;rw[zD];exact nc ho rfl
theorem bP8 (h:c.Ok)(hm:c.mode≠3)(hn:1≤c.ns){i:Nat}(hib:i≤1000000){s:Dy}(w:Well2 c i s){a:Int×Int}{m':Mc}{en:Bool}(e1:mZ en (jJ c s)=some a)(e2:mac a (jJ c s)=some m')(g:Int):
  ∃s',eU g en false c.fixed c.tp c.sl c.ns c.mode c.R c.Q c.len c.words s.L s.p s.q s.c0 s.c1 s.c2 s.c3 s.z c.X c.T c.l c.k c.P c.tk (c.off 8:Int) c.ns (c.X.length:Int) s.lv s.pk c.words s.W=some (a.1,a.2,true,0,c.fixed,c.tp,c.sl,c.ns,c.mode,c.R,c.Q,c.len,c.words,s'.L,s'.p,s'.q,s'.c0,s'.c1,s'.c2,s'.c3,s'.z,s'.lv,s'.pk,c.words,s'.W)∧jJ c s'=m'∧Well2 c (i+1) s':=by
 obtain⟨f1,f2⟩:=bS3 h hm w.inv e2
 have hact:a.1≠0:=fun h0=>by
  unfold mac at e2;rw[h0]at e2;simp at e2
 have hw:=w.act h hm a;unfold bW7 at hw;rw[zF hact]at hw;refine⟨(doF c a.1 a.2 s).2, ?_,f2,hw⟩;unfold eU;rw[zD];refine nc (cA5 h hm hn w.inv g en false) ?_;rw[e1];show cond (!true) _ _=_;rw[Bool.not_true,zD];refine nc (do2 h hm w.inv w.cnt (by omega)) ?_;show cond (decide ((doF c a.1 a.2 s).1≠0)) _ _=_;rw[f1];rfl
theorem yE (h:c.Ok)(hm:c.mode≠3)(hn:1≤c.ns){s:Dy}(hi:Inv c s){en:Bool}(e1:mZ en (jJ c s)=none)(g:Int):
  eU g en false c.fixed c.tp c.sl c.ns c.mode c.R c.Q c.len c.words s.L s.p s.q s.c0 s.c1 s.c2 s.c3 s.z c.X c.T c.l c.k c.P c.tk (c.off 8:Int) c.ns (c.X.length:Int) s.lv s.pk c.words s.W=some (0,0,false,0,c.fixed,c.tp,c.sl,c.ns,c.mode,c.R,c.Q,c.len,c.words,s.L,s.p,s.q,s.c0,s.c1,s.c2,s.c3,s.z,s.lv,s.pk,c.words,s.W)∧gi g en false c.fixed c.tp c.sl c.ns c.mode c.R c.Q c.len c.words s.L s.p s.q s.c0 s.c1 s.c2 s.c3 s.z c.X c.T c.l c.k c.P c.tk (c.off 8:Int) c.ns (c.X.length:Int) s.lv s.pk c.words s.W=some true:=by
 have ho:=cA5 h hm hn hi g en false;rw[e1]at ho;constructor
 ·unfold eU;rw[zD];exact nc ho rfl
 ·unfold gi;rw[zD];exact nc ho rfl
end
end
section
open Bool renaming not_true → aD
open List renaming length_cons → aB, append_assoc → aW, append_nil → aX, length_append → aY, length_singleton → aZ
theorem bi6 {α γ:Type}{f:α→Option (α⊕γ)}{k:Nat}{s s':α}{x:γ}(h:Reach f k s s')(hk:k<18446744073709551615)(e:f s'=some (.inr x)):cv f fi s=some x:=by
 have:=h (18446744073709551616-k);rw[show 18446744073709551616-k+k=fi by unfold fi;omega,show 18446744073709551616-k=(18446744073709551615-k)+1 by omega]at this;rw[this,dP,e];rfl
theorem cn6 {l:List (Int×Int)}(hl:l.length<1000000000):mR l l=some true:=by
 unfold mR;rw[zA (by simp),zD]
 have key:=oI (f:=nN l l) (n:=l.length) (c:= .inr ()) (by omega)
  (fun i hi=>by
   unfold nN;rw[zB (by omega),zC,eE hi];simp only[zG,decide_true,Bool.and_self,aD,zD];rw[ck (by omega)]
   rfl)
  (by
   unfold nN
   rw[zA (by omega),zD])
 rw[key];rfl
section
variable {c:Cx}
def stE (c:Cx)(i fed:Nat)(en:Bool)(s:Dy)(got:List (Int×Int)):=((i:Int),(fed:Int),c.mode,en,false,c.fixed,c.tp,c.sl,c.ns,c.mode,c.R,c.Q,c.len,c.words,s.L,s.p,s.q,s.c0,s.c1,s.c2,s.c3,s.z,s.lv,s.pk,c.words,s.W,got)
theorem cI2 (h:c.Ok)(hm:c.mode≠3)(hn:1≤c.ns){l:Nat}{r:List (Int×Int)×Bool}(hr:r.1.length≤500000)(hl:l≤1000){i fed j:Nat}(hi:i<r.1.length+l+2)(hj:j≤1000000){s:Dy}(w:Well2 c j s){a:Int×Int}{m':Mc}(e1:uV (jJ c s)=some a)(e2:mac a (jJ c s)=some m'){got:List (Int×Int)}(hg:got.length≤1000000)(en:Bool):
  ∃s',Reach (dV c.X c.T c.l c.k c.P c.tk (c.off 8:Int) c.ns (c.X.length:Int) (l:Int) r) 1 (stE c i fed en s got) (stE c (i+1) fed en s' (got++[a]))∧jJ c s'=m'∧Well2 c (j+1) s':=by
 obtain⟨s',d,f1,f2⟩:=bP7 h hm hn hj w e1 e2 c.mode en;refine⟨s',Reach.one ?_,f1,f2⟩;unfold stE;simp only[dV];rw[ck (n:=(r.1.length:Int)+(l:Int)) (by omega),ck (n:=(r.1.length:Int)+(l:Int)+2) (by omega),zB (show(i:Int)<(r.1.length:Int)+(l:Int)+2 by omega),zC];refine nc d ?_;show cond (decide ((0:Int)≠0)) _ _=_;rw[zA (by simp),zD,zC,dq (by omega) (by omega),ck (by omega)];rfl
theorem cL3 (h:c.Ok)(hm:c.mode≠3)(hn:1≤c.ns){l:Nat}{r:List (Int×Int)×Bool}(hr:r.1.length≤500000)(hl:l≤1000){fed:Nat}{en:Bool}{m m':Mc}{k:List (Int×Int)}(H:Run uV m k m'): ∀(i j:Nat) (s:Dy) (got:List (Int×Int)),jJ c s=m→Well2 c j s→i+k.length≤r.1.length+l+2→j+k.length≤1000000→got.length+k.length≤1000000→
  ∃s',Reach (dV c.X c.T c.l c.k c.P c.tk (c.off 8:Int) c.ns (c.X.length:Int) (l:Int) r) k.length (stE c i fed en s got) (stE c (i+k.length) fed en s' (got++k))∧jJ c s'=m'∧Well2 c (j+k.length) s':=by
 induction H with
 |nil m=>
  intro i j s got hs w _ _ _;exact⟨s,by rw[aX];exact Reach.refl,hs,w⟩
 | @cons m m1 m2 a k e1 e2 _ ih=>
  intro i j s got hs w h1 h2 h3;subst hs;rw[aB]at h1 h2 h3;obtain⟨s1,r1,f1,w1⟩:=cI2 (fed:=fed) h hm hn hr hl (i:=i) (by omega) (by omega) w e1 e2 (got:=got) (by omega) en;obtain⟨s2,r2,f2,w2⟩:=ih (i+1) (j+1) s1 (got++[a]) f1 w1 (by omega) (by omega) (by rw[aY,aZ];omega);refine⟨s2, ?_,f2,by rw[aB,show j+(k.length+1)=j+1+k.length by omega];exact w2⟩;have:=r1.trans r2;rw[aB,show k.length+1=1+k.length by omega,show i+(1+k.length)=i+1+k.length by omega];rw[aW]at this;exact this
theorem ci2 (h:c.Ok)(hm:c.mode=1)(hn:1≤c.ns){l:Nat}{r:List (Int×Int)×Bool}(hr:r.1.length≤500000)(hl:l≤1000){fed:Nat}{s:Dy}(hi:Inv c s)(e1:uV (jJ c s)=none){got:List (Int×Int)}(en:Bool): ∀(k i:Nat),i+k≤r.1.length+l+2→Reach (dV c.X c.T c.l c.k c.P c.tk (c.off 8:Int) c.ns (c.X.length:Int) (l:Int) r) k (stE c i fed en s got) (stE c (i+k) fed en s got)
 |0,i,_=>Reach.refl
 |k+1,i,hk=>by
  obtain⟨d1,d2⟩:=aY3 h (by omega) hn hi e1 c.mode en
  have one:Reach (dV c.X c.T c.l c.k c.P c.tk (c.off 8:Int) c.ns (c.X.length:Int) (l:Int) r) 1 (stE c i fed en s got) (stE c (i+1) fed en s got):=by
   refine Reach.one ?_;unfold stE;simp only[dV];rw[ck (n:=(r.1.length:Int)+(l:Int)) (by omega),ck (n:=(r.1.length:Int)+(l:Int)+2) (by omega),zB (show(i:Int)<(r.1.length:Int)+(l:Int)+2 by omega),zC];refine nc d1 ?_;show cond (decide ((0:Int)≠0)) _ _=_;rw[zA (by simp),zD,zD]
   refine nc (show gg _ _ _ _ _ _ _ _ _ _ _ _ _ _ _ _ _ _ _ _ _ _ _ _ _ _ _ _ _ _ _ _ _=some false from by
    unfold gg;refine nc d2 ?_
    rw[zC,zA (by omega),zD]) ?_
   rw[zD,ck (by omega)];rfl
  have:=one.trans (ci2 h hm hn hr hl hi e1 (fed:=fed) (got:=got) en k (i+1) (by omega));rw[show k+1=1+k by omega,show i+(1+k)=i+1+k by omega];exact this
theorem cJ3 {l:Nat}{r:List (Int×Int)×Bool}(hr:r.1.length≤500000)(hl:l≤1000){fed:Nat}{s:Dy}{got:List (Int×Int)}(en:Bool):dV c.X c.T c.l c.k c.P c.tk (c.off 8:Int) c.ns (c.X.length:Int) (l:Int) r (stE c (r.1.length+l+2) fed en s got)=some (.inr (.inr (c.mode,en,false,c.fixed,c.tp,c.sl,c.ns,c.mode,c.R,c.Q,c.len,c.words,s.L,s.p,s.q,s.c0,s.c1,s.c2,s.c3,s.z,s.lv,s.pk,c.words,s.W,got))):=by
 unfold stE;simp only[dV];rw[ck (n:=(r.1.length:Int)+(l:Int)) (by omega),ck (n:=(r.1.length:Int)+(l:Int)+2) (by omega),zA (by omega),zD]
theorem cI3 (h:c.Ok)(hm:c.mode≠3)(hn:1≤c.ns){l:Nat}{r:List (Int×Int)×Bool}(hr:r.1.length≤500000)(hl:l≤1000){i fed j:Nat}(hi:i<r.1.length+l+2)(hj:j≤1000000){s:Dy}(w:Well2 c j s){a:Int×Int}{m':Mc}{en:Bool}(e1:mZ en (jJ c s)=some a)(e2:mac a (jJ c s)=some m'){got:List (Int×Int)}(hg:got.length≤1000000):
  ∃s',Reach (dj c.X c.T c.l c.k c.P c.tk (c.off 8:Int) c.ns (c.X.length:Int) (l:Int) r) 1 (stE c i fed en s got) (stE c (i+1) fed en s' (got++[a]))∧jJ c s'=m'∧Well2 c (j+1) s':=by
 obtain⟨s',d,f1,f2⟩:=bP8 h hm hn hj w e1 e2 c.mode;refine⟨s',Reach.one ?_,f1,f2⟩;unfold stE;simp only[dj];rw[ck (n:=(r.1.length:Int)+(l:Int)) (by omega),ck (n:=(r.1.length:Int)+(l:Int)+2) (by omega),zB (show(i:Int)<(r.1.length:Int)+(l:Int)+2 by omega),zC];refine nc d ?_;show cond (decide ((0:Int)≠0)) _ _=_;rw[zA (by simp),zD,zC,dq (by omega) (by omega),ck (by omega)];rfl
theorem cn3 (h:c.Ok)(hm:c.mode≠3)(hn:1≤c.ns){l:Nat}{r:List (Int×Int)×Bool}(hr:r.1.length≤500000)(hl:l≤1000){fed:Nat}{en:Bool}{m m':Mc}{k:List (Int×Int)}(H:Run (mZ en) m k m'): ∀(i j:Nat) (s:Dy) (got:List (Int×Int)),jJ c s=m→Well2 c j s→i+k.length≤r.1.length+l+2→j+k.length≤1000000→got.length+k.length≤1000000→
  ∃s',Reach (dj c.X c.T c.l c.k c.P c.tk (c.off 8:Int) c.ns (c.X.length:Int) (l:Int) r) k.length (stE c i fed en s got) (stE c (i+k.length) fed en s' (got++k))∧jJ c s'=m'∧Well2 c (j+k.length) s':=by
 induction H with
 |nil m=>
  intro i j s got hs w _ _ _;exact⟨s,by rw[aX];exact Reach.refl,hs,w⟩
 | @cons m m1 m2 a k e1 e2 _ ih=>
  intro i j s got hs w h1 h2 h3;subst hs;rw[aB]at h1 h2 h3;obtain⟨s1,r1,f1,w1⟩:=cI3 (fed:=fed) h hm hn hr hl (i:=i) (by omega) (by omega) w e1 e2 (got:=got) (by omega);obtain⟨s2,r2,f2,w2⟩:=ih (i+1) (j+1) s1 (got++[a]) f1 w1 (by omega) (by omega) (by rw[aY,aZ];omega);refine⟨s2, ?_,f2,by rw[aB,show j+(k.length+1)=j+1+k.length by omega];exact w2⟩;have:=r1.trans r2;rw[aB,show k.length+1=1+k.length by omega,show i+(1+k.length)=i+1+k.length by omega];rw[aW]at this;exact this
theorem cD0 (h:c.Ok)(hm:c.mode=2)(hn:1≤c.ns){l:Nat}{r:List (Int×Int)×Bool}(hr:r.1.length≤500000)(hl:l≤1000){i fed j:Nat}(hi:i<r.1.length+l+2){s:Dy}(w:Well2 c j s)(e1:mZ false (jJ c s)=none)(hq:s.q= -1)(hL:s.L<65535)(hf:fed+1≤l){got:List (Int×Int)}:
  ∃s',Reach (dj c.X c.T c.l c.k c.P c.tk (c.off 8:Int) c.ns (c.X.length:Int) (l:Int) r) 1 (stE c i fed false s got) (stE c (i+1) (fed+1) false s' got)∧jJ c s'=⟨s.L+1,s.p,s.q,kt c s.W⟩∧Well2 c (j+1) s':=by
 obtain⟨d1,d2⟩:=yE h (by omega) hn w.inv e1 c.mode
 have hm1:ur c s=(0,{s with L:=s.L+1}):=by
  unfold ur;rw[zF (by omega),zF (by omega),zF (by omega)]
 have hw:=w.act h (by omega) (0,0);unfold bW7 at hw;rw[zE rfl,hm1]at hw
 have dw:dQ c.mode false false c.fixed c.tp c.sl c.ns c.mode c.R c.Q c.len c.words s.L s.p s.q s.c0 s.c1 s.c2 s.c3 s.z c.X c.T c.l c.k c.P c.tk (c.off 8:Int) c.ns (c.X.length:Int) s.lv s.pk c.words s.W=some true:=by
  unfold dQ;refine nc d2 ?_;rw[zC,zB hm,zC];rfl
 refine⟨{s with L:=s.L+1},Reach.one ?_,rfl,hw⟩;unfold stE;simp only[dj];rw[ck (n:=(r.1.length:Int)+(l:Int)) (by omega),ck (n:=(r.1.length:Int)+(l:Int)+2) (by omega),zB (show(i:Int)<(r.1.length:Int)+(l:Int)+2 by omega),zC];refine nc d1 ?_;show cond (decide ((0:Int)≠0)) _ _=_;rw[zA (by simp),zD,zD];refine nc dw ?_;rw[zC,ck (n:=(fed:Int)+1) (by omega),zB (show(fed:Int)+1≤(l:Int)by omega)]
 refine nc (show fH _ _ _ _ _ _ _ _ _ _ _ _ _ _ _ _ _ _ _ _ _ _ _ _ _ _ _ _ _ _ _ _ _ _=some (0,c.mode,false,false,c.fixed,c.tp,c.sl,c.ns,c.mode,c.R,c.Q,c.len,c.words,s.L+1,s.p,s.q,s.c0,s.c1,s.c2,s.c3,s.z)from by
  unfold fH;rw[zD];refine nc dw ?_;rw[aD,zD,zD];refine nc (cK7 w.inv.L) ?_;rw[hm1]
  rfl) ?_
 show cond (decide ((0:Int)≠0)) _ _=_;rw[zA (by simp),zD,ck (by omega)];rfl
theorem cG1 (h:c.Ok)(hm:c.mode=2)(hn:1≤c.ns){l:Nat}{r:List (Int×Int)×Bool}(hr:r.1.length≤500000)(hl:l≤1000){i fed j:Nat}(hi:i<r.1.length+l+2){s:Dy}(w:Well2 c j s)(e1:mZ false (jJ c s)=none)(hf:fed=l){got:List (Int×Int)}:
  Reach (dj c.X c.T c.l c.k c.P c.tk (c.off 8:Int) c.ns (c.X.length:Int) (l:Int) r) 1 (stE c i fed false s got) (stE c (i+1) (fed+1) true s got):=by
 obtain⟨d1,d2⟩:=yE h (by omega) hn w.inv e1 c.mode
 have dw:dQ c.mode false false c.fixed c.tp c.sl c.ns c.mode c.R c.Q c.len c.words s.L s.p s.q s.c0 s.c1 s.c2 s.c3 s.z c.X c.T c.l c.k c.P c.tk (c.off 8:Int) c.ns (c.X.length:Int) s.lv s.pk c.words s.W=some true:=by
  unfold dQ;refine nc d2 ?_;rw[zC,zB hm,zC];rfl
 refine Reach.one ?_;unfold stE;simp only[dj];rw[ck (n:=(r.1.length:Int)+(l:Int)) (by omega),ck (n:=(r.1.length:Int)+(l:Int)+2) (by omega),zB (show(i:Int)<(r.1.length:Int)+(l:Int)+2 by omega),zC];refine nc d1 ?_;show cond (decide ((0:Int)≠0)) _ _=_;rw[zA (by simp),zD,zD];refine nc dw ?_;rw[zC,ck (n:=(fed:Int)+1) (by omega),zA (show¬(fed:Int)+1≤(l:Int)by omega)]
 refine nc (show fH _ _ _ _ _ _ _ _ _ _ _ _ _ _ _ _ _ _ _ _ _ _ _ _ _ _ _ _ _ _ _ _ _ _=some (0,c.mode,true,false,c.fixed,c.tp,c.sl,c.ns,c.mode,c.R,c.Q,c.len,c.words,s.L,s.p,s.q,s.c0,s.c1,s.c2,s.c3,s.z)from by
  unfold fH;rw[zD];refine nc dw ?_
  rw[aD,zD,Bool.not_false,zC]) ?_
 show cond (decide ((0:Int)≠0)) _ _=_;rw[zA (by simp),zD,ck (by omega)];rfl
theorem cD4 (h:c.Ok)(hm:c.mode≠3)(hn:1≤c.ns){l:Nat}{r:List (Int×Int)×Bool}(hr:r.1.length≤500000)(hl:l≤1000){fed:Nat}{s:Dy}(hi:Inv c s)(e1:mZ true (jJ c s)=none){got:List (Int×Int)}{i:Nat}(hk:i<r.1.length+l+2):Reach (dj c.X c.T c.l c.k c.P c.tk (c.off 8:Int) c.ns (c.X.length:Int) (l:Int) r) 1 (stE c i fed true s got) (stE c (i+1) fed true s got):=by
 obtain⟨d1,d2⟩:=yE h hm hn hi e1 c.mode;refine Reach.one ?_;unfold stE;simp only[dj];rw[ck (n:=(r.1.length:Int)+(l:Int)) (by omega),ck (n:=(r.1.length:Int)+(l:Int)+2) (by omega),zB (show(i:Int)<(r.1.length:Int)+(l:Int)+2 by omega),zC];refine nc d1 ?_;show cond (decide ((0:Int)≠0)) _ _=_;rw[zA (by simp),zD,zD]
 refine nc (show dQ _ _ _ _ _ _ _ _ _ _ _ _ _ _ _ _ _ _ _ _ _ _ _ _ _ _ _ _ _ _ _ _ _=some false from by
  unfold dQ;refine nc d2 ?_;rw[zC];by_cases h2:c.mode=2
  ·rw[zB h2];rfl
  ·rw[zA h2];rfl) ?_
 rw[zD,ck (by omega)];rfl
theorem cJ4 {l:Nat}{r:List (Int×Int)×Bool}(hr:r.1.length≤500000)(hl:l≤1000){fed:Nat}{s:Dy}{got:List (Int×Int)}(en:Bool):dj c.X c.T c.l c.k c.P c.tk (c.off 8:Int) c.ns (c.X.length:Int) (l:Int) r (stE c (r.1.length+l+2) fed en s got)=some (.inr (.inr (c.mode,en,false,c.fixed,c.tp,c.sl,c.ns,c.mode,c.R,c.Q,c.len,c.words,s.L,s.p,s.q,s.c0,s.c1,s.c2,s.c3,s.z,s.lv,s.pk,c.words,s.W,got))):=by
 unfold stE;simp only[dj];rw[ck (n:=(r.1.length:Int)+(l:Int)) (by omega),ck (n:=(r.1.length:Int)+(l:Int)+2) (by omega),zA (by omega),zD]
end
end
section
open Bool renaming not_true → aZ
open Int renaming tmod → aW, toNat_of_nonneg → aX
open List renaming replicate → aB, length_append → aD, eq_of_mem_replicate → bA, length_nil → bB, getElem?_eq_none → bD, nil_append → bE
open Nat renaming le_refl → aY, zero_add → bC
theorem aB9 :gR=some true:=by kernel_rfl
section
variable {a0:Int} {a1 a2:List Int} {a3:Int} {a4:List dR} {a5:Int} {a6:List dR} {a7 a8 a9:Int}
theorem bB1 {R:Int}{l:List dR}(h:4096<l.length)(hl:l.length≤3518437208780):eJ R l=some 6:=by
 unfold eJ;obtain⟨m,hm⟩:=yr hl;rw[hm];simp only[zG,uc];rw[zB (by omega),zC];rfl
theorem cl9 (h4:a4.length≤3518437208780)(h6:a6.length≤3518437208780)(h:4096<a4.length∨4096<a6.length):mN a3 a4 a5 a6=some 6:=by
 unfold mN;by_cases c:4096<a4.length
 ·rw[bB1 c h4];rfl
 ·rw[yk (by omega),bB1 (by omega) h6];simp only[zG];split<;>rfl
theorem cc2 (h4:a4.length≤3518437208780)(h6:a6.length≤3518437208780)(h:4096<a4.length∨4096<a6.length): ∃e,e≠0∧iK a0 a1 a2 a3 a4 a5 a6 a7 a8=some (.inl e):=by
 have key: ∃e,e≠0∧iQ a0 a1 a2 a3 a4 a5 a6 a7 a8=some e:=by
  have h0:fd a0 a1 a2 a3 a4 a5 a6 a7 a8 0=some (if hk0 a0≠0 then .inr (.inl (hk0 a0))else .inl 1):=by
   show((gj a0 a1 a2 a3 a4 a5 a6 a7 a8).bind fun r=>cond (decide (r≠0)) _ _)=_;rw[ci1];simp only[zG,cr];split<;>rfl
  have h1:fd a0 a1 a2 a3 a4 a5 a6 a7 a8 1=some (.inr (.inl 6)):=by
   show((ew a0 a1 a2 a3 a4 a5 a6 a7 a8).bind fun r=>cond (decide (r≠0)) _ _)=_;unfold ew;rw[cl9 h4 h6 h];rfl
  unfold iQ;have hB:fi=18446744073709551614+1+1:=rfl;rw[hB,dP,h0];simp only[zG];by_cases c:hk0 a0≠0
  ·rw[zE c];exact⟨_,c,rfl⟩
  ·rw[zF c];simp only[dJ];rw[dP,h1];exact⟨6,by omega,rfl⟩
 obtain⟨e,he,hk⟩:=key;refine⟨e,he, ?_⟩;unfold iK mp;rw[hk];simp only[zG];rw[zB he,zC];simp only[zG];rw[zB he,zC]
theorem bS4 {e:Int}(he:e≠0)(h:iK a0 a1 a2 a3 a4 a5 a6 a7 a8=some (.inl e)):fW a0 a1 a2 a3 a4 a5 a6 a7 a8=some (.inl e):=by
 unfold fW mg;rw[h];simp only[zG,ik];rw[zB he,zC];simp only[zG,ik];rw[zB he,zC]
theorem bT6 {e:Int}{b:Bool}(he:e≠0)(h:fW a0 a1 a2 a3 a4 a5 a6 a7 a8=some (.inl e))(hs:ey a0 a1 a2 a3 a4 a5 a6 a7 a8=some b):dI a0 a1 a2 a3 a4 a5 a6 a7 a8 a9=some true:=by
 unfold dI;rw[h];simp only[zG,ik];rw[hs];simp only[zG]
 have:(cond (!b) (some true) (cond (decide (e≠0)) (some true) (some (decide (a0=3)))):Option Bool)=some true:=by
  rw[zB he];cases b<;>rfl
 rw[this];simp only[zG,zC];rw[zA he,zD,aB9];rfl
theorem cy2 (h4: ∀o∈a4,okV o)(h6: ∀o∈a6,okV o): ∃b,ey a0 a1 a2 a3 a4 a5 a6 a7 a8=some b∧(b=true→a7≤40∨65535<a7):=by
 rcases cy1 (a0:=a0) (a1:=a1) (a2:=a2) (a3:=a3) (a5:=a5) (a7:=a7) (a8:=a8) h4 h6 with h|⟨h,_⟩
 ·exact⟨false,h,fun k=>by cases k⟩
 ·refine⟨true,h,fun _=> ?_⟩;by_cases c1:a7≤40
  ·exact .inl c1
  by_cases c2:65535<a7
  ·exact .inr c2
  exfalso;unfold ey at h;obtain⟨r,hr,h⟩:=cm h;cases r with
  |false=>cases h
  |true=>
   rw[aZ,zD]at h;obtain⟨q,hq,h⟩:=cm h;rw[zA c1,zA c2]at h;cases hd:decide (IntKind.i64.wrap (q.1+q.2)≤300)<;>rw[hd]at h<;>cases h
end
section
variable {c:Cx}
theorem ck8 (h:c.Ok)(hm:c.mode≠3)(e:mJ c.mode c.X.length c.T.length c.R c.l c.Q c.k c.len c.words=(c.fixed,c.tp,c.sl,c.ns,0)):1≤c.ns:=by
 have n:=h.num;have hsl:=n.sl;rw[zF hm]at hsl;unfold mJ at e;rw[zF (by rw[h.hc];simp)]at e;by_cases c1:c.words<rJ c.X.length c.T.length c.R c.Q+pY c.mode c.l c.k+least c.mode c.len*pX c.mode c.X.length c.R c.l
 ·rw[zE c1]at e;injection e with _ e
  injection e with _ e
  injection e with _ e
  injection e with _ e
  cases e
 ·rw[zF c1,zF hm]at e;injection e with _ e
  injection e with _ e
  injection e with _ e
  injection e with e _
  unfold least at c1;rw[zF hm]at c1;have hs:pX c.mode c.X.length c.R c.l=c.sl:=h.sl.symm;rw[hs]at e c1;rw[←e];exact(Int.le_ediv_iff_mul_le (by omega)).2 (by omega)
theorem co4 (h:c.Ok)(hm:c.mode≠3):kt c (new2 c).W=aB c.ns.toNat (-1):=by
 apply List.ext_getElem?;intro k;by_cases hk:k<c.ns.toNat
 ·rw[ag6 hk,aV4 h hm hk,List.getElem?_replicate,zE hk];rfl
 ·rw[bD (by rw[lE];omega),bD (by rw[List.length_replicate];omega)]
theorem cj8 (h:c.Ok)(hm:c.mode≠3):jJ c (new2 c)=⟨c.len,0,-1,aB c.ns.toNat (-1)⟩:=by
 unfold jJ;rw[co4 h hm];rfl
theorem ay6 (h:c.Ok)(hm:c.mode≠3):Well2 c 0 (new2 c):=bj6 h hm [] 0
theorem cs8 (s:Nat):hld (aB s (-1))=aB s false:=by
 unfold hld;rw[List.map_replicate];rfl
theorem cx3 {l s:Nat}(hl:l≤400)(hs:1≤s): ∃m',Run uV ⟨l,0,-1,aB s (-1)⟩ (if l=0 then [(5,0)]else pt (2*l) false l s 0 (aB s false) true) m'∧uV m'=none∧m'.q=0∧(if l=0 then [((5:Int),(0:Int))]else pt (2*l) false l s 0 (aB s false) true).length≤2000:=by
 have htop:kw (aB s (-1))= -1:=aD8 (by omega) (fun y hy=>by rw[bA hy];exact Int.le_refl _) (.inl rfl)
 have hnone: ∀L:Int,uV ⟨L,0,0,aB s (-1)⟩=none:=fun L=>by
  unfold uV;simp only[htop];rw[zF (show¬(0:Int)<0 by omega),zF (by omega),zE trivial]
 by_cases h0:l=0
 ·subst h0;rw[zE rfl];refine⟨⟨0,0,0,aB s (-1)⟩, .one ?_ ?_,hnone 0,rfl,by simp⟩
  ·unfold uV;simp only[htop];rw[zE (show(-1:Int)<0 by omega),zF (by omega),zF (by omega),zE (by omega)]
  ·unfold mac;simp only[Int.reduceEq,if_false,if_true,true_and];rfl
 ·rw[zF h0];refine⟨⟨l,0,0,aB s (-1)⟩, ?_,hnone l,rfl,by have:=(bN9 (2*l)).1 l s 0 (aB s false) true (by omega) (by omega) (fun _=>hs);omega⟩;have:=(cn4 (2*l)).1 l s 0 (aB s (-1)) true l (-1) 0 (aY _) ⟨by omega,by omega,by rw[zE (by omega)];omega,fun _=>rfl,(fun h=>by cases h),by omega⟩ (fun y hy=>by rw[bA hy];omega) (fun y hy=>by rw[bA hy];omega) (by unfold yT;rw[List.countP_replicate];simp) (fun _=>hs);rw[cs8]at this;exact this
theorem cz9 (h:c.Ok)(hm:c.mode=1)(e:mJ c.mode c.X.length c.T.length c.R c.l c.Q c.k c.len c.words=(c.fixed,c.tp,c.sl,c.ns,0)):fW c.mode c.X c.T c.R c.l c.Q c.k c.len c.words=some (.inr (.inr (.inl (c.mode,false,false,c.fixed,c.tp,c.sl,c.ns,c.mode,c.R,c.Q,c.len,c.words,c.len,c.X,c.T,c.l,c.k,c.P,c.tk,(c.off 8:Int),c.ns,(c.X.length:Int),c.fixed,c.fixed,c.words,(new2 c).W)))):=by
 unfold fW;refine nc (cH9 h (by omega) e) ?_
 refine nc (show lG _ _ _ _ _ _ _ _ _ _ _ _ _ _ _ _ _ _ _ _ _ _ _ _ _ _ _ _ _ _ _ _ _ _ _ _ _ _ _=some (.inl (c.mode,false,false))from by
  unfold lG;rw[show ix c.mode 4=some 1 from by rw[hm];rfl]
  rfl) ?_
 rfl
theorem cA0 (h:c.Ok)(hm:c.mode=2)(e:mJ c.mode c.X.length c.T.length c.R c.l c.Q c.k c.len c.words=(c.fixed,c.tp,c.sl,c.ns,0)):fW c.mode c.X c.T c.R c.l c.Q c.k c.len c.words=some (.inr (.inr (.inr (c.mode,false,false,c.fixed,c.tp,c.sl,c.ns,c.mode,c.R,c.Q,c.len,c.words,c.len,c.X,c.T,c.l,c.k,c.P,c.tk,(c.off 8:Int),c.ns,(c.X.length:Int),c.fixed,c.fixed,c.words,(new2 c).W)))):=by
 unfold fW;refine nc (cH9 h (by omega) e) ?_
 refine nc (show lG _ _ _ _ _ _ _ _ _ _ _ _ _ _ _ _ _ _ _ _ _ _ _ _ _ _ _ _ _ _ _ _ _ _ _ _ _ _ _=some (.inr (c.mode,false,false))from by
  unfold lG;rw[show ix c.mode 4=some 2 from by rw[hm];rfl]
  rfl) ?_
 rfl
theorem cK4 (h:c.Ok)(hm:c.mode=1)(e:mJ c.mode c.X.length c.T.length c.R c.l c.Q c.k c.len c.words=(c.fixed,c.tp,c.sl,c.ns,0))(hs:ey c.mode c.X c.T c.R c.l c.Q c.k c.len c.words=some true)(hlen:c.len≤40)(a9:Int):dI c.mode c.X c.T c.R c.l c.Q c.k c.len c.words a9=some true:=by
 have hn:=ck8 h (by omega) e;have hns:=h.ns;have hl0:=h.num.len;obtain⟨l,hl⟩:=Int.eq_ofNat_of_zero_le hl0.1;obtain⟨m',R,hnx,hq,hR⟩:=cx3 (l:=l) (s:=c.ns.toNat) (by omega) (by omega);have hlist:=bO6 (l:=l) (s:=c.ns.toNat) (by omega) (by omega);generalize (if l=0 then [((5:Int),(0:Int))]else pt (2*l) false l c.ns.toNat 0 (aB c.ns.toNat false) true)=want at*;rw[aX hns.1]at hlist
 have hlaw:gS c.mode (l:Int) c.ns=some (want,true):=by
  unfold gS;rw[zA (by omega),zD];exact nc hlist rfl
 have hmc:=cj8 h (by omega);rw[hl]at hmc;obtain⟨s,r1,f1,w1⟩:=cL3 h (by omega) hn (l:=l) (r:=(want,true)) (by simp only;omega) (by omega) (fed:=0) (en:=false) R 0 0 (new2 c) [] hmc (ay6 h (by omega)) (by simp only;omega) (by omega) (by simp only[bB];omega);rw[bC,bE]at r1;have hnx':uV (jJ c s)=none:=by rw[f1];exact hnx
 have r2:=ci2 h hm hn (l:=l) (r:=(want,true)) (by simp only;omega) (by omega) w1.inv hnx' (fed:=0) (got:=want) false (l+2) want.length (by simp only;omega);have key:=bi6 (r1.trans r2) (by omega) (cJ3 (l:=l) (r:=(want,true)) (by simp only;omega) (by omega) (fed:=0) false);obtain⟨d1,d2⟩:=aY3 h (by omega) hn w1.inv hnx' c.mode false
 have hsp: ∀s:Dy,Inv c s→eR c.mode false false c.fixed c.tp c.sl c.ns c.mode c.R c.Q c.len c.words s.L s.p s.q s.c0 s.c1 s.c2 s.c3 s.z c.X c.T c.l c.k c.P c.tk (c.off 8:Int) c.ns (c.X.length:Int) s.lv s.pk c.words s.W=some (s.p,s.q,kt c s.W):=fun s hi=>by
  unfold eR;exact nc (bV8 h (by omega) hi) rfl
 unfold dI;refine nc (cz9 h hm e) ?_;rw[dT,dT,ik];refine nc (nc hs (show cond (!true) (some true) (some (decide (c.mode=3)))=some false from by rw[aZ,zD,zA (by omega)])) ?_;rw[zD];refine nc (show(cond (decide (c.mode=2)) (some (IntKind.i64.wrap (aW a9 41))) (some c.len):Option Int)=some (l:Int)from by rw[zA (by omega),zD,hl]) ?_;refine nc (hsp (new2 c) (ay6 h (by omega)).inv) ?_;refine nc (show gS c.mode (l:Int) (((kt c (new2 c).W).length:Nat):Int)=some (want,true)from by rw[lE,aX hns.1];exact hlaw) ?_;refine nc key ?_;rw[dT];show cond true _ _=_;rw[zC];refine nc (cn6 (l:=want) (by omega)) ?_;rw[zC]
 refine nc (show gw _ _ _ _ _ _ _ _ _ _ _ _ _ _ _ _ _ _ _ _ _ _ _ _ _ _ _ _ _ _ _ _ _=some true from by
  unfold gw;refine nc d2 ?_;rw[zC];refine nc (hsp s w1.inv) ?_;have:s.q=0:=by rw[←hq,←f1];rfl
  show some (decide (s.q=0))=_
  rw[zB this]) ?_
 rw[zC,aB9];rfl
theorem aQ8 {s k:Nat}(hs:1≤s)(hk:k<65536):mZ false ⟨k,k,-1,(dh s k).2⟩=none:=by
 cases k with
 |zero=>exact(bR0 hs).2
 |succ k=>exact(bR1 hs hk).2
theorem aF3 (s:Nat){k l:Nat}(h:k≤l):(dh s k).1.length≤(dh s l).1.length:=by
 induction l with
 |zero=>rw[show k=0 by omega];exact aY _
 |succ l ih=>
  by_cases hk:k=l+1
  ·rw[hk];exact aY _
  ·have:=ih (by omega);show _≤((dh s l).1++[(1,1)]++(nH (l+1) (dh s l).2).1).length;rw[aD,aD];omega
theorem bD5 (h:c.Ok)(hm:c.mode=2)(hn:1≤c.ns)(h0:c.len=0){l:Nat}(hl:l≤40){r:List (Int×Int)×Bool}(hr:r.1.length≤5000)(hle:(dh c.ns.toNat l).1.length≤r.1.length): ∀k,k≤l→∃s,Reach (dj c.X c.T c.l c.k c.P c.tk (c.off 8:Int) c.ns (c.X.length:Int) (l:Int) r) ((dh c.ns.toNat k).1.length+k) (stE c 0 0 false (new2 c) []) (stE c ((dh c.ns.toNat k).1.length+k) k false s (dh c.ns.toNat k).1)∧jJ c s=⟨k,k,-1,(dh c.ns.toNat k).2⟩∧Well2 c ((dh c.ns.toNat k).1.length+k) s
 |0,hk=>by
  have hmono:=aF3 c.ns.toNat hk;have hmc:=cj8 h (by omega);rw[h0]at hmc;obtain⟨s,r1,f1,w1⟩:=cn3 h (by omega) hn (l:=l) (r:=r) (by omega) (by omega) (fed:=0) (en:=false) (bR0 (s:=c.ns.toNat) (by omega)).1 0 0 (new2 c) [] hmc (ay6 h (by omega)) (by omega) (by omega) (by simp only[bB];omega);rw[bC,bE]at r1;rw[bC]at w1;exact⟨s,r1,f1,w1⟩
 |k+1,hk=>by
  obtain⟨s,r1,f1,w1⟩:=bD5 h hm hn h0 hl hr hle k (by omega);have hmono:=aF3 c.ns.toNat hk
  have hlen:(dh c.ns.toNat (k+1)).1=(dh c.ns.toNat k).1++([(1,1)]++(nH (k+1) (dh c.ns.toNat k).2).1):=by
   show(dh c.ns.toNat k).1++[(1,1)]++(nH (k+1) (dh c.ns.toNat k).2).1=_;rw[List.append_assoc]
  have hx:=aQ8 (s:=c.ns.toNat) (k:=k) (by omega) (by omega);rw[←f1]at hx;have eq:s.q= -1:=congrArg Mc.q f1;have eL:s.L=(k:Int):=congrArg Mc.L f1;have ep:s.p=(k:Int):=congrArg Mc.p f1;have et:kt c s.W=(dh c.ns.toNat k).2:=congrArg Mc.t f1;rw[hlen,aD]at hmono;obtain⟨s1,r2,f2,w2⟩:=cD0 h hm hn (l:=l) (r:=r) (by omega) (by omega) (i:=(dh c.ns.toNat k).1.length+k) (fed:=k) (by omega) w1 hx eq (by omega) (by omega) (got:=(dh c.ns.toNat k).1);rw[eL,ep,eq,et]at f2;obtain⟨s2,r3,f3,w3⟩:=cn3 h (by omega) hn (l:=l) (r:=r) (by omega) (by omega) (fed:=k+1) (en:=false) (bR1 (s:=c.ns.toNat) (k:=k) (by omega) (by omega)).1 ((dh c.ns.toNat k).1.length+k+1) ((dh c.ns.toNat k).1.length+k+1) s1 (dh c.ns.toNat k).1 f2 w2 (by omega) (by omega) (by omega);have en:(dh c.ns.toNat k).1.length+([(1,1)]++(nH (k+1) (dh c.ns.toNat k).2).1).length+(k+1)=(dh c.ns.toNat k).1.length+k+1+([(1,1)]++(nH (k+1) (dh c.ns.toNat k).2).1).length:=by omega
  refine⟨s2, ?_,f3, ?_⟩
  ·rw[hlen,aD,en];have:=(r1.trans r2).trans r3;exact this
  ·rw[hlen,aD,en];exact w3
theorem cK5 (h:c.Ok)(hm:c.mode=2)(e:mJ c.mode c.X.length c.T.length c.R c.l c.Q c.k c.len c.words=(c.fixed,c.tp,c.sl,c.ns,0))(hs:ey c.mode c.X c.T c.R c.l c.Q c.k c.len c.words=some true){a9:Int}(h9:0≤a9):dI c.mode c.X c.T c.R c.l c.Q c.k c.len c.words a9=some true:=by
 have hn:=ck8 h (by omega) e;have hns:=h.ns;have hl0:=h.num.len
 have h0:c.len=0:=by
  have hc:=h.hc;unfold wK at hc;split at hc
  ·rename_i k;exact absurd hc k
  split at hc
  ·rename_i k;exact absurd hc k
  split at hc
  ·rename_i k;exact absurd hc k
  split at hc
  ·rename_i k;exact absurd hc k
  rename_i k;unfold hk3 at k;rw[zE hm]at k;by_cases h1:c.len<0
  ·omega
  by_cases h2:0<c.len
  ·rw[zF h1,zE h2]at k;omega
  ·omega
 obtain⟨l,hl,hl40⟩: ∃l:Nat,IntKind.i64.wrap (aW a9 41)=(l:Int)∧l≤40:=by
  have:aW a9 41=a9 % 41:=Int.tmod_eq_emod_of_nonneg h9;refine⟨(a9 % 41).toNat, ?_,by omega⟩;rw[this,ck (by omega)];omega
 have hlist:=bO7 (l:=l) (s:=c.ns.toNat) (by omega) (by omega);rw[aX hns.1]at hlist;have hal:=yh c.ns.toNat l;have hbd:(l+1)*(l+2)≤41*42:=Nat.mul_le_mul (by omega) (by omega);have hbk:=bq8 (nu l (dh c.ns.toNat l).2.length) (dh c.ns.toNat l).2 l
 have hbl:(an1 l (dh c.ns.toNat l).2).length≤4*l+2:=by
  unfold an1 frB;rw[List.length_cons,aD];split
  ·rw[List.length_singleton];omega
  ·rw[bB];omega
 obtain⟨want,hw⟩: ∃w,w=(dh c.ns.toNat l).1++an1 l (dh c.ns.toNat l).2:=⟨_,rfl⟩
 have hwl:want.length=(dh c.ns.toNat l).1.length+(an1 l (dh c.ns.toNat l).2).length:=by rw[hw,aD]
 rw[←hw]at hlist
 have hlaw:gS c.mode (l:Int) c.ns=some (want,true):=by
  unfold gS;rw[zB hm,zC];exact nc hlist rfl
 obtain⟨s,r1,f1,w1⟩:=bD5 h hm hn h0 hl40 (r:=(want,true)) (by simp only;omega) (by simp only;omega) l (aY _);have hx:=aQ8 (s:=c.ns.toNat) (k:=l) (by omega) (by omega);rw[←f1]at hx;obtain⟨b1,b2⟩:=cf3 (l:=l) (s:=c.ns.toNat) (by omega) (by omega);have r2:=cG1 h hm hn (l:=l) (r:=(want,true)) (by simp only;omega) (by omega) (i:=(dh c.ns.toNat l).1.length+l) (fed:=l) (by simp only;omega) w1 hx rfl (got:=(dh c.ns.toNat l).1);obtain⟨s2,r3,f3,w3⟩:=cn3 h (by omega) hn (l:=l) (r:=(want,true)) (by simp only;omega) (by omega) (fed:=l+1) (en:=true) b1 ((dh c.ns.toNat l).1.length+l+1) ((dh c.ns.toNat l).1.length+l) s (dh c.ns.toNat l).1 f1 w1 (by simp only;omega) (by omega) (by omega);rw[←hw]at r3;have hx2:mZ true (jJ c s2)=none:=by rw[f3];exact b2
 have r4:=cD4 h (by omega) hn (l:=l) (r:=(want,true)) (by simp only;omega) (by omega) w3.inv hx2 (fed:=l+1) (got:=want) (i:=(dh c.ns.toNat l).1.length+l+1+(an1 l (dh c.ns.toNat l).2).length) (by simp only;omega);have rr:=((r1.trans r2).trans r3).trans r4;rw[show(dh c.ns.toNat l).1.length+l+1+(an1 l (dh c.ns.toNat l).2).length+1=(want,true).1.length+l+2 by simp only;omega]at rr;have key:=bi6 rr (by simp only;omega) (cJ4 (l:=l) (r:=(want,true)) (by simp only;omega) (by omega) (fed:=l+1) true);obtain⟨d1,d2⟩:=yE h (by omega) hn w3.inv hx2 c.mode
 have hsp: ∀(s:Dy) (en:Bool),Inv c s→eS c.mode en false c.fixed c.tp c.sl c.ns c.mode c.R c.Q c.len c.words s.L s.p s.q s.c0 s.c1 s.c2 s.c3 s.z c.X c.T c.l c.k c.P c.tk (c.off 8:Int) c.ns (c.X.length:Int) s.lv s.pk c.words s.W=some (s.p,s.q,kt c s.W):=fun s en hi=>by
  unfold eS;exact nc (bV8 h (by omega) hi) rfl
 unfold dI;refine nc (cA0 h hm e) ?_;rw[dT,dT,dT];refine nc (nc hs (show cond (!true) (some true) (some (decide (c.mode=3)))=some false from by rw[aZ,zD,zA (by omega)])) ?_;rw[zD];refine nc (show(cond (decide (c.mode=2)) (some (IntKind.i64.wrap (aW a9 41))) (some c.len):Option Int)=some (l:Int)from by rw[zB hm,zC,hl]) ?_;refine nc (hsp (new2 c) false (ay6 h (by omega)).inv) ?_;refine nc (show gS c.mode (l:Int) (((kt c (new2 c).W).length:Nat):Int)=some (want,true)from by rw[lE,aX hns.1];exact hlaw) ?_;refine nc key ?_;rw[dT];show cond true _ _=_;rw[zC];refine nc (cn6 (l:=want) (by omega)) ?_;rw[zC]
 refine nc (show gx _ _ _ _ _ _ _ _ _ _ _ _ _ _ _ _ _ _ _ _ _ _ _ _ _ _ _ _ _ _ _ _ _=some true from by
  unfold gx;refine nc d2 ?_;rw[zC];refine nc (hsp s2 true w3.inv) ?_;have:s2.q=0:=congrArg Mc.q f3;show some (decide (s2.q=0))=_
  rw[zB this]) ?_
 rw[zC,aB9];rfl
theorem cJ5 (h:c.Ok)(hm:c.mode=3)(e:mJ c.mode c.X.length c.T.length c.R c.l c.Q c.k c.len c.words=(c.fixed,c.tp,c.sl,c.ns,0)): ∃x,fW c.mode c.X c.T c.R c.l c.Q c.k c.len c.words=some (.inr (.inl x)):=by
 refine⟨(c.mode,false,false,c.fixed,c.tp,c.sl,c.ns,c.mode,c.R,c.Q,c.len,c.words,c.len,c.X,c.T,c.l,c.k,c.P,c.tk,c.fixed,c.fixed,c.words,(new1 c).W), ?_⟩;unfold fW;refine nc (cN1 h hm e) ?_
 refine nc (show qK _ _ _ _ _ _ _ _ _ _ _ _ _ _ _ _ _ _ _ _ _ _ _ _ _ _ _ _ _ _ _ _ _ _ _ _=some (c.mode,false,false)from by
  unfold qK;rw[show ix c.mode 4=some 3 from by rw[hm];rfl]
  rfl) ?_
 rfl
theorem cK6 (h:c.Ok)(hm:c.mode=3)(e:mJ c.mode c.X.length c.T.length c.R c.l c.Q c.k c.len c.words=(c.fixed,c.tp,c.sl,c.ns,0)){b:Bool}(hs:ey c.mode c.X c.T c.R c.l c.Q c.k c.len c.words=some b)(a9:Int):dI c.mode c.X c.T c.R c.l c.Q c.k c.len c.words a9=some true:=by
 obtain⟨x,hx⟩:=cJ5 h hm e;unfold dI;refine nc hx ?_;rw[dT,ik];refine nc (nc hs (show cond (!b) (some true) (some (decide (c.mode=3)))=some true from by rw[zB hm];cases b<;>rfl)) ?_;rw[zC,aB9];rfl
theorem cK3 (h:c.Ok)(hm:c.mode≠3)(e:mJ c.mode c.X.length c.T.length c.R c.l c.Q c.k c.len c.words=(c.fixed,c.tp,c.sl,c.ns,0))(hs:ey c.mode c.X c.T c.R c.l c.Q c.k c.len c.words=some false)(a9:Int):dI c.mode c.X c.T c.R c.l c.Q c.k c.len c.words a9=some true:=by
 have hmm:=h.num.mode;have hfin: ∀b:Bool,(cond (!false) (some true) (some b):Option Bool)=some true:=fun b=>rfl
 by_cases h1:c.mode=1
 ·unfold dI;refine nc (cz9 h h1 e) ?_;rw[dT,dT,ik];refine nc (nc hs (hfin _)) ?_;rw[zC,aB9];rfl
 ·unfold dI;refine nc (cA0 h (by omega) e) ?_;rw[dT,dT,dT];refine nc (nc hs (hfin _)) ?_;rw[zC,aB9];rfl
end
theorem bC2 {a0:Int}{a1 a2:List Int}{a3:Int}{a4:List dR}{a5:Int}{a6:List dR}{a7 a8 a9:Int}(h4: ∀o∈a4,okV o)(h6: ∀o∈a6,okV o)(g4:a4.length≤3518437208780)(g6:a6.length≤3518437208780)(h9:0≤a9):dI a0 a1 a2 a3 a4 a5 a6 a7 a8 a9=some true:=by
 obtain⟨b,hs,hb⟩:=cy2 (a0:=a0) (a1:=a1) (a2:=a2) (a3:=a3) (a5:=a5) (a7:=a7) (a8:=a8) h4 h6;by_cases hbig:4096<a4.length∨4096<a6.length
 ·obtain⟨e,he,hp⟩:=cc2 (a0:=a0) (a1:=a1) (a2:=a2) (a3:=a3) (a5:=a5) (a7:=a7) (a8:=a8) g4 g6 hbig;exact bT6 he (bS4 he hp) hs
 have o4:OpsOk a4:=⟨by omega,h4⟩;have o6:OpsOk a6:=⟨by omega,h6⟩;by_cases hp:(mJ a0 a1.length a2.length a3 a4 a5 a6 a7 a8).2.2.2.2≠0
 ·refine bT6 hp (bS4 hp ?_) hs;unfold iK;rw[bi5 o4 o6];simp only[zG];rw[zB hp,zC]
 obtain⟨c,hc,e0,e1,e2,e3,e4,e5,e6,e7,e8,e9⟩:=cO1 o4 o6 (show(mJ a0 a1.length a2.length a3 a4 a5 a6 a7 a8).2.2.2.2=0 by omega);subst e0 e1 e2 e3 e4 e5 e6 e7 e8;by_cases hm:c.mode=3
 ·exact cK6 hc hm e9 hs a9
 cases b with
 |false=>exact cK3 hc hm e9 hs a9
 |true=>
  have hmm:=hc.num.mode;have hll:=hc.num.len;by_cases h1:c.mode=1
  ·exact cK4 hc h1 e9 hs (by rcases hb rfl with h|h<;>omega) a9
  ·exact cK5 hc (by omega) e9 hs h9
end
end Go.V
