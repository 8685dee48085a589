/- A part of the proof. No condition. -/
import Derived.Test.YtknphpcjacoaeaaGreatL4
set_option linter.unusedVariables false
set_option linter.unusedSimpArgs false
set_option linter.unusedSectionVars false
namespace Go.V
open Go.Ab
open Option renaming some->O,none->Y
open Bool renaming true->Za,false->Zb
open Decidable renaming decide->Zc
variable {a r t:Zd}{x y:Int}{i:Nat}{o:bu}
section
open Go.IntKind renaming wrap -> zH, i64 -> zI, u64 -> zJ
open Int renaming tdiv -> aD, tmod -> bB, add_mul -> bD, mul_add -> cB, mul_assoc -> cD, mul_left_comm -> dB, tdiv_eq_ediv_of_nonneg -> dD, tmod_eq_emod_of_nonneg -> eD
open Sum renaming inl -> aB
def zg (a:Int):Prop:=0<=a/\a<18446744073709551616
theorem wU (n:Int):zH zJ n=n % 18446744073709551616:=rfl
theorem QI {n:Int}(h:zg n):zH zJ n=n:=by rw[wU];unfold zg at h;omega
theorem dw1 (h:zg x):zH zJ (aD x 256)=x / 256:=by
 unfold zg at h;rw[dD h.1,wU];omega
theorem dw2 (h:zg x):zH zI (bB x 256)=x % 256:=by
 unfold zg at h;rw[eD h.1,Zi]
theorem zg.div (h:zg x):zg (x / 256):=by unfold zg at*;omega
variable {x s d0 d1 d2 d3 d4 d5 d6 d7 c0 c1 c2 c3 c4 c5 c6 c7 r0 r1 r2 r3 r4 r5 r6 r7 x0 x1 x2 x3 x4 x5 x6 x7 y0 y1 y2 y3 y4 y5 y6 y7 p0 p1 p2 p3 p4 p5 p6 p7:Int}
theorem bi3 (h:zg x):gv (0,x,d0,d1,d2,d3,d4,d5,d6,d7)=O (.inl (1,x / 256,x % 256,d1,d2,d3,d4,d5,d6,d7)):=by
 show O (aB (zH zI (0+1),zH zJ (aD x 256),zH zI (bB x 256),d1,d2,d3,d4,d5,d6,d7))=_;rw[dw1 h,dw2 h];rfl
theorem bi4 (h:zg x):gv (1,x,d0,d1,d2,d3,d4,d5,d6,d7)=O (.inl (2,x / 256,d0,x % 256,d2,d3,d4,d5,d6,d7)):=by
 show O (aB (zH zI (1+1),zH zJ (aD x 256),d0,zH zI (bB x 256),d2,d3,d4,d5,d6,d7))=_;rw[dw1 h,dw2 h];rfl
theorem bi5 (h:zg x):gv (2,x,d0,d1,d2,d3,d4,d5,d6,d7)=O (.inl (3,x / 256,d0,d1,x % 256,d3,d4,d5,d6,d7)):=by
 show O (aB (zH zI (2+1),zH zJ (aD x 256),d0,d1,zH zI (bB x 256),d3,d4,d5,d6,d7))=_;rw[dw1 h,dw2 h];rfl
theorem bi6 (h:zg x):gv (3,x,d0,d1,d2,d3,d4,d5,d6,d7)=O (.inl (4,x / 256,d0,d1,d2,x % 256,d4,d5,d6,d7)):=by
 show O (aB (zH zI (3+1),zH zJ (aD x 256),d0,d1,d2,zH zI (bB x 256),d4,d5,d6,d7))=_;rw[dw1 h,dw2 h];rfl
theorem bi7 (h:zg x):gv (4,x,d0,d1,d2,d3,d4,d5,d6,d7)=O (.inl (5,x / 256,d0,d1,d2,d3,x % 256,d5,d6,d7)):=by
 show O (aB (zH zI (4+1),zH zJ (aD x 256),d0,d1,d2,d3,zH zI (bB x 256),d5,d6,d7))=_;rw[dw1 h,dw2 h];rfl
theorem bi8 (h:zg x):gv (5,x,d0,d1,d2,d3,d4,d5,d6,d7)=O (.inl (6,x / 256,d0,d1,d2,d3,d4,x % 256,d6,d7)):=by
 show O (aB (zH zI (5+1),zH zJ (aD x 256),d0,d1,d2,d3,d4,zH zI (bB x 256),d6,d7))=_;rw[dw1 h,dw2 h];rfl
theorem bi9 (h:zg x):gv (6,x,d0,d1,d2,d3,d4,d5,d6,d7)=O (.inl (7,x / 256,d0,d1,d2,d3,d4,d5,x % 256,d7)):=by
 show O (aB (zH zI (6+1),zH zJ (aD x 256),d0,d1,d2,d3,d4,d5,zH zI (bB x 256),d7))=_;rw[dw1 h,dw2 h];rfl
theorem bj0 (h:zg x):gv (7,x,d0,d1,d2,d3,d4,d5,d6,d7)=O (.inl (8,x / 256,d0,d1,d2,d3,d4,d5,d6,x % 256)):=by
 show O (aB (zH zI (7+1),zH zJ (aD x 256),d0,d1,d2,d3,d4,d5,d6,zH zI (bB x 256)))=_;rw[dw1 h,dw2 h];rfl
def dgs (a:Int):Int×Int×Int×Int×Int×Int×Int×Int:=(a % 256,a / 256 % 256,a / 65536 % 256,a / 16777216 % 256,a / 4294967296 % 256,a / 1099511627776 % 256,a / 281474976710656 % 256,a / 72057594037927936 % 256)
theorem E4 {a:Int}(h:zg a):na a=O (dgs a):=by
 have c:=h;have d:=c.div;have e:=d.div;have g:=e.div;have j:=g.div;have k:=j.div;have p:=k.div;have B:=p.div;have b:=ie ((((((((Reach.one (bi3 (d0:=0) (d1:=0) (d2:=0) (d3:=0) (d4:=0) (d5:=0) (d6:=0) (d7:=0) c)).trans (Reach.one (bi4 d))).trans (Reach.one (bi5 e))).trans (Reach.one (bi6 g))).trans (Reach.one (bi7 j))).trans (Reach.one (bi8 k))).trans (Reach.one (bi9 p))).trans (Reach.one (bj0 B))) (by decide) rfl;unfold na;rw[b];simp only[zG];unfold dgs;unfold zg at h;have A:a / 256 / 256 / 256 / 256 / 256 / 256 / 256=a / 72057594037927936:=by omega
 have z:a / 256 / 256 / 256 / 256 / 256 / 256=a / 281474976710656:=by omega
 have w:a / 256 / 256 / 256 / 256 / 256=a / 1099511627776:=by omega
 have v:a / 256 / 256 / 256 / 256=a / 4294967296:=by omega
 have u:a / 256 / 256 / 256=a / 16777216:=by omega
 have q:a / 256 / 256=a / 65536:=by omega
 rw[A,z,w,v,u,q]
def Sm (c:Int):Prop:=0<=c/\c<=1000000000
theorem nw {k c n b:Int}(j:0<=k/\k<=1000000000)(e:Sm c)(p:0<=n/\n<b)(h:0<b/\b<=72057594037927936):zH zI (aD (zH zI (k+c)) 256)=(k+c) / 256/\IntKind.u64.wrap (n+(zH zJ ((zH zJ (bB (zH zI (k+c)) 256))*b)))=n+(k+c) % 256*b:=by
 unfold Sm at e;have d:0<=(k+c) % 256/\(k+c) % 256<=255:=by omega
 have g:0<=(k+c) % 256*b/\(k+c) % 256*b<=255*b:=⟨Int.mul_nonneg d.1 (by omega),Int.mul_le_mul_of_nonneg_right d.2 (by omega)⟩;rw[ad (n:=k+c) (by omega),dD (by omega),eD (by omega),Zi,QI (n:=(k+c) % 256) ⟨by omega,by omega⟩,QI (n:=(k+c) % 256*b) ⟨by omega,by omega⟩,QI (n:=n+(k+c) % 256*b) ⟨by omega,by omega⟩];exact⟨rfl,rfl⟩
theorem bm2 (h:0<=s/\s<=1000000000*1)(d:Sm c0):gw c0 c1 c2 c3 c4 c5 c6 c7 (0,s / 1,s % 1,1)=O (.inl (1,(s+1*c0) / 256,(s+1*c0) % 256,256)):=by
 show O (aB (zH zI (0+1),zH zI (aD (zH zI (s / 1+c0)) 256),zH zJ (s % 1+(zH zJ ((zH zJ (bB (zH zI (s / 1+c0)) 256))*1))),zH zJ (1*256)))=_;obtain⟨e,g⟩:=nw (k:=s / 1) (c:=c0) (n:=s % 1) (b:=1) (by omega) d (by omega) (by omega);rw[e,g];unfold Sm at d;rw[show(s / 1+c0) / 256=(s+1*c0) / 256 by omega,show s % 1+(s / 1+c0) % 256*1=(s+1*c0) % 256 by omega];rfl
theorem bm3 (h:0<=s/\s<=1000000000*256)(d:Sm c1):gw c0 c1 c2 c3 c4 c5 c6 c7 (1,s / 256,s % 256,256)=O (.inl (2,(s+256*c1) / 65536,(s+256*c1) % 65536,65536)):=by
 show O (aB (zH zI (1+1),zH zI (aD (zH zI (s / 256+c1)) 256),zH zJ (s % 256+(zH zJ ((zH zJ (bB (zH zI (s / 256+c1)) 256))*256))),zH zJ (256*256)))=_;obtain⟨e,g⟩:=nw (k:=s / 256) (c:=c1) (n:=s % 256) (b:=256) (by omega) d (by omega) (by omega);rw[e,g];unfold Sm at d;rw[show(s / 256+c1) / 256=(s+256*c1) / 65536 by omega,show s % 256+(s / 256+c1) % 256*256=(s+256*c1) % 65536 by omega];rfl
theorem bm4 (h:0<=s/\s<=1000000000*65536)(d:Sm c2):gw c0 c1 c2 c3 c4 c5 c6 c7 (2,s / 65536,s % 65536,65536)=O (.inl (3,(s+65536*c2) / 16777216,(s+65536*c2) % 16777216,16777216)):=by
 show O (aB (zH zI (2+1),zH zI (aD (zH zI (s / 65536+c2)) 256),zH zJ (s % 65536+(zH zJ ((zH zJ (bB (zH zI (s / 65536+c2)) 256))*65536))),zH zJ (65536*256)))=_;obtain⟨e,g⟩:=nw (k:=s / 65536) (c:=c2) (n:=s % 65536) (b:=65536) (by omega) d (by omega) (by omega);rw[e,g];unfold Sm at d;rw[show(s / 65536+c2) / 256=(s+65536*c2) / 16777216 by omega,show s % 65536+(s / 65536+c2) % 256*65536=(s+65536*c2) % 16777216 by omega];rfl
theorem bm5 (h:0<=s/\s<=1000000000*16777216)(d:Sm c3):gw c0 c1 c2 c3 c4 c5 c6 c7 (3,s / 16777216,s % 16777216,16777216)=O (.inl (4,(s+16777216*c3) / 4294967296,(s+16777216*c3) % 4294967296,4294967296)):=by
 show O (aB (zH zI (3+1),zH zI (aD (zH zI (s / 16777216+c3)) 256),zH zJ (s % 16777216+(zH zJ ((zH zJ (bB (zH zI (s / 16777216+c3)) 256))*16777216))),zH zJ (16777216*256)))=_;obtain⟨e,g⟩:=nw (k:=s / 16777216) (c:=c3) (n:=s % 16777216) (b:=16777216) (by omega) d (by omega) (by omega);rw[e,g];unfold Sm at d;rw[show(s / 16777216+c3) / 256=(s+16777216*c3) / 4294967296 by omega,show s % 16777216+(s / 16777216+c3) % 256*16777216=(s+16777216*c3) % 4294967296 by omega];rfl
theorem bm6 (h:0<=s/\s<=1000000000*4294967296)(d:Sm c4):gw c0 c1 c2 c3 c4 c5 c6 c7 (4,s / 4294967296,s % 4294967296,4294967296)=O (.inl (5,(s+4294967296*c4) / 1099511627776,(s+4294967296*c4) % 1099511627776,1099511627776)):=by
 show O (aB (zH zI (4+1),zH zI (aD (zH zI (s / 4294967296+c4)) 256),zH zJ (s % 4294967296+(zH zJ ((zH zJ (bB (zH zI (s / 4294967296+c4)) 256))*4294967296))),zH zJ (4294967296*256)))=_;obtain⟨e,g⟩:=nw (k:=s / 4294967296) (c:=c4) (n:=s % 4294967296) (b:=4294967296) (by omega) d (by omega) (by omega);rw[e,g];unfold Sm at d;rw[show(s / 4294967296+c4) / 256=(s+4294967296*c4) / 1099511627776 by omega,show s % 4294967296+(s / 4294967296+c4) % 256*4294967296=(s+4294967296*c4) % 1099511627776 by omega];rfl
theorem bm7 (h:0<=s/\s<=1000000000*1099511627776)(d:Sm c5):gw c0 c1 c2 c3 c4 c5 c6 c7 (5,s / 1099511627776,s % 1099511627776,1099511627776)=O (.inl (6,(s+1099511627776*c5) / 281474976710656,(s+1099511627776*c5) % 281474976710656,281474976710656)):=by
 show O (aB (zH zI (5+1),zH zI (aD (zH zI (s / 1099511627776+c5)) 256),zH zJ (s % 1099511627776+(zH zJ ((zH zJ (bB (zH zI (s / 1099511627776+c5)) 256))*1099511627776))),zH zJ (1099511627776*256)))=_;obtain⟨e,g⟩:=nw (k:=s / 1099511627776) (c:=c5) (n:=s % 1099511627776) (b:=1099511627776) (by omega) d (by omega) (by omega);rw[e,g];unfold Sm at d;rw[show(s / 1099511627776+c5) / 256=(s+1099511627776*c5) / 281474976710656 by omega,show s % 1099511627776+(s / 1099511627776+c5) % 256*1099511627776=(s+1099511627776*c5) % 281474976710656 by omega];rfl
theorem bm8 (h:0<=s/\s<=1000000000*281474976710656)(d:Sm c6):gw c0 c1 c2 c3 c4 c5 c6 c7 (6,s / 281474976710656,s % 281474976710656,281474976710656)=O (.inl (7,(s+281474976710656*c6) / 72057594037927936,(s+281474976710656*c6) % 72057594037927936,72057594037927936)):=by
 show O (aB (zH zI (6+1),zH zI (aD (zH zI (s / 281474976710656+c6)) 256),zH zJ (s % 281474976710656+(zH zJ ((zH zJ (bB (zH zI (s / 281474976710656+c6)) 256))*281474976710656))),zH zJ (281474976710656*256)))=_;obtain⟨e,g⟩:=nw (k:=s / 281474976710656) (c:=c6) (n:=s % 281474976710656) (b:=281474976710656) (by omega) d (by omega) (by omega);rw[e,g];unfold Sm at d;rw[show(s / 281474976710656+c6) / 256=(s+281474976710656*c6) / 72057594037927936 by omega,show s % 281474976710656+(s / 281474976710656+c6) % 256*281474976710656=(s+281474976710656*c6) % 72057594037927936 by omega];rfl
theorem bm9 (h:0<=s/\s<=1000000000*72057594037927936)(d:Sm c7):gw c0 c1 c2 c3 c4 c5 c6 c7 (7,s / 72057594037927936,s % 72057594037927936,72057594037927936)=O (.inl (8,(s+72057594037927936*c7) / 18446744073709551616,(s+72057594037927936*c7) % 18446744073709551616,0)):=by
 show O (aB (zH zI (7+1),zH zI (aD (zH zI (s / 72057594037927936+c7)) 256),zH zJ (s % 72057594037927936+(zH zJ ((zH zJ (bB (zH zI (s / 72057594037927936+c7)) 256))*72057594037927936))),zH zJ (72057594037927936*256)))=_;obtain⟨e,g⟩:=nw (k:=s / 72057594037927936) (c:=c7) (n:=s % 72057594037927936) (b:=72057594037927936) (by omega) d (by omega) (by omega);rw[e,g];unfold Sm at d;rw[show(s / 72057594037927936+c7) / 256=(s+72057594037927936*c7) / 18446744073709551616 by omega,show s % 72057594037927936+(s / 72057594037927936+c7) % 256*72057594037927936=(s+72057594037927936*c7) % 18446744073709551616 by omega];rfl
theorem MG (c:Sm c0)(d:Sm c1)(e:Sm c2)(g:Sm c3)(h:Sm c4)(j:Sm c5)(k:Sm c6)(p:Sm c7):ot c0 c1 c2 c3 c4 c5 c6 c7=O ((c0+256*c1+65536*c2+16777216*c3+4294967296*c4+1099511627776*c5+281474976710656*c6+72057594037927936*c7) % 18446744073709551616):=by
 unfold ot;have q:=c;unfold Sm at q;have u:=d;unfold Sm at u;have v:=e;unfold Sm at v;have w:=g;unfold Sm at w;have z:=h;unfold Sm at z;have A:=j;unfold Sm at A;have B:=k;unfold Sm at B;have C:=p;unfold Sm at C;have b:=ie ((((((((Reach.one (bm2 (c0:=c0) (c1:=c1) (c2:=c2) (c3:=c3) (c4:=c4) (c5:=c5) (c6:=c6) (c7:=c7) (s:=0) (by omega) c)).trans (Reach.one (bm3 (by omega) d))).trans (Reach.one (bm4 (by omega) e))).trans (Reach.one (bm5 (by omega) g))).trans (Reach.one (bm6 (by omega) h))).trans (Reach.one (bm7 (by omega) j))).trans (Reach.one (bm8 (by omega) k))).trans (Reach.one (bm9 (by omega) p))) (by decide) rfl;rw[show((0:Int),(0:Int),(0:Int),(1:Int))=(0,0 / 1,0 % 1,1)from rfl,b];simp only[zG,Int.zero_add,Int.one_mul]
def By (c:Int):Prop:=0<=c/\c<=255
theorem pl1 {x y:Int}(b:By x)(c:By y):zH zI (x+y)=x+y:=by unfold By at*;exact ad (by omega)
theorem ng1 {x:Int}(b:By x):zH zI (255-x)=255-x:=by unfold By at*;exact ad (by omega)
theorem tq {p x y:Int}(g:0<=p/\p<=1000000)(c:By x)(b:By y):zH zI (p+zH zI (x*y))=p+x*y/\0<=x*y/\x*y<=65025:=by
 unfold By at*;have d:=Int.mul_nonneg c.1 b.1;have e:x*y<=255*255:=Int.mul_le_mul c.2 b.2 b.1 (by omega);rw[ad (n:=x*y) (by omega),ad (n:=p+x*y) (by omega)];exact⟨rfl,d,by omega⟩
theorem bn3 (h:By d0)(k:By r0):iq (r0,r1,r2,r3,r4,r5,r6,r7) (0,d0,d1,d2,d3,d4,d5,d6,d7)=O (.inl (1,d0+r0,d1,d2,d3,d4,d5,d6,d7)):=by
 show O (aB (zH zI (0+1),zH zI (d0+r0),d1,d2,d3,d4,d5,d6,d7))=_;rw[pl1 h k];rfl
theorem bl3 (h:By d0):jp (0,d0,d1,d2,d3,d4,d5,d6,d7)=O (.inl (1,255-d0,d1,d2,d3,d4,d5,d6,d7)):=by
 show O (aB (zH zI (0+1),zH zI (255-d0),d1,d2,d3,d4,d5,d6,d7))=_;rw[ng1 h];rfl
theorem bn4 (h:By d1)(k:By r1):iq (r0,r1,r2,r3,r4,r5,r6,r7) (1,d0,d1,d2,d3,d4,d5,d6,d7)=O (.inl (2,d0,d1+r1,d2,d3,d4,d5,d6,d7)):=by
 show O (aB (zH zI (1+1),d0,zH zI (d1+r1),d2,d3,d4,d5,d6,d7))=_;rw[pl1 h k];rfl
theorem bl4 (h:By d1):jp (1,d0,d1,d2,d3,d4,d5,d6,d7)=O (.inl (2,d0,255-d1,d2,d3,d4,d5,d6,d7)):=by
 show O (aB (zH zI (1+1),d0,zH zI (255-d1),d2,d3,d4,d5,d6,d7))=_;rw[ng1 h];rfl
theorem bn5 (h:By d2)(k:By r2):iq (r0,r1,r2,r3,r4,r5,r6,r7) (2,d0,d1,d2,d3,d4,d5,d6,d7)=O (.inl (3,d0,d1,d2+r2,d3,d4,d5,d6,d7)):=by
 show O (aB (zH zI (2+1),d0,d1,zH zI (d2+r2),d3,d4,d5,d6,d7))=_;rw[pl1 h k];rfl
theorem bl5 (h:By d2):jp (2,d0,d1,d2,d3,d4,d5,d6,d7)=O (.inl (3,d0,d1,255-d2,d3,d4,d5,d6,d7)):=by
 show O (aB (zH zI (2+1),d0,d1,zH zI (255-d2),d3,d4,d5,d6,d7))=_;rw[ng1 h];rfl
theorem bn6 (h:By d3)(k:By r3):iq (r0,r1,r2,r3,r4,r5,r6,r7) (3,d0,d1,d2,d3,d4,d5,d6,d7)=O (.inl (4,d0,d1,d2,d3+r3,d4,d5,d6,d7)):=by
 show O (aB (zH zI (3+1),d0,d1,d2,zH zI (d3+r3),d4,d5,d6,d7))=_;rw[pl1 h k];rfl
theorem bl6 (h:By d3):jp (3,d0,d1,d2,d3,d4,d5,d6,d7)=O (.inl (4,d0,d1,d2,255-d3,d4,d5,d6,d7)):=by
 show O (aB (zH zI (3+1),d0,d1,d2,zH zI (255-d3),d4,d5,d6,d7))=_;rw[ng1 h];rfl
theorem bn7 (h:By d4)(k:By r4):iq (r0,r1,r2,r3,r4,r5,r6,r7) (4,d0,d1,d2,d3,d4,d5,d6,d7)=O (.inl (5,d0,d1,d2,d3,d4+r4,d5,d6,d7)):=by
 show O (aB (zH zI (4+1),d0,d1,d2,d3,zH zI (d4+r4),d5,d6,d7))=_;rw[pl1 h k];rfl
theorem bl7 (h:By d4):jp (4,d0,d1,d2,d3,d4,d5,d6,d7)=O (.inl (5,d0,d1,d2,d3,255-d4,d5,d6,d7)):=by
 show O (aB (zH zI (4+1),d0,d1,d2,d3,zH zI (255-d4),d5,d6,d7))=_;rw[ng1 h];rfl
theorem bn8 (h:By d5)(k:By r5):iq (r0,r1,r2,r3,r4,r5,r6,r7) (5,d0,d1,d2,d3,d4,d5,d6,d7)=O (.inl (6,d0,d1,d2,d3,d4,d5+r5,d6,d7)):=by
 show O (aB (zH zI (5+1),d0,d1,d2,d3,d4,zH zI (d5+r5),d6,d7))=_;rw[pl1 h k];rfl
theorem bl8 (h:By d5):jp (5,d0,d1,d2,d3,d4,d5,d6,d7)=O (.inl (6,d0,d1,d2,d3,d4,255-d5,d6,d7)):=by
 show O (aB (zH zI (5+1),d0,d1,d2,d3,d4,zH zI (255-d5),d6,d7))=_;rw[ng1 h];rfl
theorem bn9 (h:By d6)(k:By r6):iq (r0,r1,r2,r3,r4,r5,r6,r7) (6,d0,d1,d2,d3,d4,d5,d6,d7)=O (.inl (7,d0,d1,d2,d3,d4,d5,d6+r6,d7)):=by
 show O (aB (zH zI (6+1),d0,d1,d2,d3,d4,d5,zH zI (d6+r6),d7))=_;rw[pl1 h k];rfl
theorem bl9 (h:By d6):jp (6,d0,d1,d2,d3,d4,d5,d6,d7)=O (.inl (7,d0,d1,d2,d3,d4,d5,255-d6,d7)):=by
 show O (aB (zH zI (6+1),d0,d1,d2,d3,d4,d5,zH zI (255-d6),d7))=_;rw[ng1 h];rfl
theorem bo0 (h:By d7)(k:By r7):iq (r0,r1,r2,r3,r4,r5,r6,r7) (7,d0,d1,d2,d3,d4,d5,d6,d7)=O (.inl (8,d0,d1,d2,d3,d4,d5,d6,d7+r7)):=by
 show O (aB (zH zI (7+1),d0,d1,d2,d3,d4,d5,d6,zH zI (d7+r7)))=_;rw[pl1 h k];rfl
theorem bm0 (h:By d7):jp (7,d0,d1,d2,d3,d4,d5,d6,d7)=O (.inl (8,d0,d1,d2,d3,d4,d5,d6,255-d7)):=by
 show O (aB (zH zI (7+1),d0,d1,d2,d3,d4,d5,d6,zH zI (255-d7)))=_;rw[ng1 h];rfl
theorem qW (x:Int):By (x % 256):=by unfold By;omega
theorem Db {a b:Int}(c:zg a)(d:zg b):px a b=O (zH zJ (a+b)):=by
 unfold px;rw[E4 c,E4 d];simp only[zG,dgs];have g:am (iq (b % 256,b / 256 % 256,b / 65536 % 256,b / 16777216 % 256,b / 4294967296 % 256,b / 1099511627776 % 256,b / 281474976710656 % 256,b / 72057594037927936 % 256)) cj (0,a % 256,a / 256 % 256,a / 65536 % 256,a / 16777216 % 256,a / 4294967296 % 256,a / 1099511627776 % 256,a / 281474976710656 % 256,a / 72057594037927936 % 256)=O (a % 256+b % 256,a / 256 % 256+b / 256 % 256,a / 65536 % 256+b / 65536 % 256,a / 16777216 % 256+b / 16777216 % 256,a / 4294967296 % 256+b / 4294967296 % 256,a / 1099511627776 % 256+b / 1099511627776 % 256,a / 281474976710656 % 256+b / 281474976710656 % 256,a / 72057594037927936 % 256+b / 72057594037927936 % 256):=ie ((((((((Reach.one (bn3 (qW _) (qW _))).trans (Reach.one (bn4 (qW _) (qW _)))).trans (Reach.one (bn5 (qW _) (qW _)))).trans (Reach.one (bn6 (qW _) (qW _)))).trans (Reach.one (bn7 (qW _) (qW _)))).trans (Reach.one (bn8 (qW _) (qW _)))).trans (Reach.one (bn9 (qW _) (qW _)))).trans (Reach.one (bo0 (qW _) (qW _)))) (by decide) rfl
 rw[g];simp only[zG];rw[MG (by unfold Sm;omega) (by unfold Sm;omega) (by unfold Sm;omega) (by unfold Sm;omega) (by unfold Sm;omega) (by unfold Sm;omega) (by unfold Sm;omega) (by unfold Sm;omega)];simp only[zG];unfold zg at c d;rw[wU]
 congr 1
 have e: ∀x:Int,0<=x/\x<18446744073709551616->x=x % 256+256*(x / 256 % 256)+65536*(x / 65536 % 256)+16777216*(x / 16777216 % 256)+4294967296*(x / 4294967296 % 256)+1099511627776*(x / 1099511627776 % 256)+281474976710656*(x / 281474976710656 % 256)+72057594037927936*(x / 72057594037927936 % 256):=λx h=>by omega
 have J:=e a c;have K:=e b d;generalize a % 256=j at*;generalize a / 256 % 256=k at*;generalize a / 65536 % 256=p at*;generalize a / 16777216 % 256=q at*;generalize a / 4294967296 % 256=u at*;generalize a / 1099511627776 % 256=v at*;generalize a / 281474976710656 % 256=w at*;generalize a / 72057594037927936 % 256=z at*;generalize b % 256=A at*;generalize b / 256 % 256=B at*;generalize b / 65536 % 256=C at*;generalize b / 16777216 % 256=D at*;generalize b / 4294967296 % 256=E at*;generalize b / 1099511627776 % 256=F at*;generalize b / 281474976710656 % 256=H at*;generalize b / 72057594037927936 % 256=I at*;omega
theorem MN {a:Int}(c:zg a):wy a=O (zH zJ (-a)):=by
 unfold wy;rw[E4 c];simp only[zG,dgs];have b:am jp cj (0,a % 256,a / 256 % 256,a / 65536 % 256,a / 16777216 % 256,a / 4294967296 % 256,a / 1099511627776 % 256,a / 281474976710656 % 256,a / 72057594037927936 % 256)=O (255-a % 256,255-a / 256 % 256,255-a / 65536 % 256,255-a / 16777216 % 256,255-a / 4294967296 % 256,255-a / 1099511627776 % 256,255-a / 281474976710656 % 256,255-a / 72057594037927936 % 256):=ie ((((((((Reach.one (bl3 (qW _))).trans (Reach.one (bl4 (qW _)))).trans (Reach.one (bl5 (qW _)))).trans (Reach.one (bl6 (qW _)))).trans (Reach.one (bl7 (qW _)))).trans (Reach.one (bl8 (qW _)))).trans (Reach.one (bl9 (qW _)))).trans (Reach.one (bm0 (qW _)))) (by decide) rfl;rw[b];simp only[zG];rw[ad (n:=255-a % 256+1) (by omega),MG (by unfold Sm;omega) (by unfold Sm;omega) (by unfold Sm;omega) (by unfold Sm;omega) (by unfold Sm;omega) (by unfold Sm;omega) (by unfold Sm;omega) (by unfold Sm;omega)]
 simp only[zG];unfold zg at c;rw[wU]
 congr 1
 have u:a=a % 256+256*(a / 256 % 256)+65536*(a / 65536 % 256)+16777216*(a / 16777216 % 256)+4294967296*(a / 4294967296 % 256)+1099511627776*(a / 1099511627776 % 256)+281474976710656*(a / 281474976710656 % 256)+72057594037927936*(a / 72057594037927936 % 256):=by omega
 generalize a % 256=d at*;generalize a / 256 % 256=e at*;generalize a / 65536 % 256=g at*;generalize a / 16777216 % 256=h at*;generalize a / 4294967296 % 256=j at*;generalize a / 1099511627776 % 256=k at*;generalize a / 281474976710656 % 256=p at*;generalize a / 72057594037927936 % 256=q at*;omega
theorem aN8 (b:0<=p0/\p0<=1000000)(c:By x0)(d:By y0):ai (x0,x1,x2,x3,x4,x5,x6,x7) (y0,y1,y2,y3,y4,y5,y6,y7) 0 (0,p0,p1,p2,p3,p4,p5,p6,p7)=O (.inl (1,p0+x0*y0,p1,p2,p3,p4,p5,p6,p7)):=by
 show O (aB (zH zI (0+1),zH zI (p0+zH zI (x0*y0)),p1,p2,p3,p4,p5,p6,p7))=_;rw[(tq b c d).1];rfl
theorem aN9 (b:0<=p1/\p1<=1000000)(c:By x0)(d:By y1):ai (x0,x1,x2,x3,x4,x5,x6,x7) (y0,y1,y2,y3,y4,y5,y6,y7) 0 (1,p0,p1,p2,p3,p4,p5,p6,p7)=O (.inl (2,p0,p1+x0*y1,p2,p3,p4,p5,p6,p7)):=by
 show O (aB (zH zI (1+1),p0,zH zI (p1+zH zI (x0*y1)),p2,p3,p4,p5,p6,p7))=_;rw[(tq b c d).1];rfl
theorem aO0 (b:0<=p2/\p2<=1000000)(c:By x0)(d:By y2):ai (x0,x1,x2,x3,x4,x5,x6,x7) (y0,y1,y2,y3,y4,y5,y6,y7) 0 (2,p0,p1,p2,p3,p4,p5,p6,p7)=O (.inl (3,p0,p1,p2+x0*y2,p3,p4,p5,p6,p7)):=by
 show O (aB (zH zI (2+1),p0,p1,zH zI (p2+zH zI (x0*y2)),p3,p4,p5,p6,p7))=_;rw[(tq b c d).1];rfl
theorem aO1 (b:0<=p3/\p3<=1000000)(c:By x0)(d:By y3):ai (x0,x1,x2,x3,x4,x5,x6,x7) (y0,y1,y2,y3,y4,y5,y6,y7) 0 (3,p0,p1,p2,p3,p4,p5,p6,p7)=O (.inl (4,p0,p1,p2,p3+x0*y3,p4,p5,p6,p7)):=by
 show O (aB (zH zI (3+1),p0,p1,p2,zH zI (p3+zH zI (x0*y3)),p4,p5,p6,p7))=_;rw[(tq b c d).1];rfl
theorem aO2 (b:0<=p4/\p4<=1000000)(c:By x0)(d:By y4):ai (x0,x1,x2,x3,x4,x5,x6,x7) (y0,y1,y2,y3,y4,y5,y6,y7) 0 (4,p0,p1,p2,p3,p4,p5,p6,p7)=O (.inl (5,p0,p1,p2,p3,p4+x0*y4,p5,p6,p7)):=by
 show O (aB (zH zI (4+1),p0,p1,p2,p3,zH zI (p4+zH zI (x0*y4)),p5,p6,p7))=_;rw[(tq b c d).1];rfl
theorem aO3 (b:0<=p5/\p5<=1000000)(c:By x0)(d:By y5):ai (x0,x1,x2,x3,x4,x5,x6,x7) (y0,y1,y2,y3,y4,y5,y6,y7) 0 (5,p0,p1,p2,p3,p4,p5,p6,p7)=O (.inl (6,p0,p1,p2,p3,p4,p5+x0*y5,p6,p7)):=by
 show O (aB (zH zI (5+1),p0,p1,p2,p3,p4,zH zI (p5+zH zI (x0*y5)),p6,p7))=_;rw[(tq b c d).1];rfl
theorem aO4 (b:0<=p6/\p6<=1000000)(c:By x0)(d:By y6):ai (x0,x1,x2,x3,x4,x5,x6,x7) (y0,y1,y2,y3,y4,y5,y6,y7) 0 (6,p0,p1,p2,p3,p4,p5,p6,p7)=O (.inl (7,p0,p1,p2,p3,p4,p5,p6+x0*y6,p7)):=by
 show O (aB (zH zI (6+1),p0,p1,p2,p3,p4,p5,zH zI (p6+zH zI (x0*y6)),p7))=_;rw[(tq b c d).1];rfl
theorem aO5 (b:0<=p7/\p7<=1000000)(c:By x0)(d:By y7):ai (x0,x1,x2,x3,x4,x5,x6,x7) (y0,y1,y2,y3,y4,y5,y6,y7) 0 (7,p0,p1,p2,p3,p4,p5,p6,p7)=O (.inl (8,p0,p1,p2,p3,p4,p5,p6,p7+x0*y7)):=by
 show O (aB (zH zI (7+1),p0,p1,p2,p3,p4,p5,p6,zH zI (p7+zH zI (x0*y7))))=_;rw[(tq b c d).1];rfl
theorem bo1 (d:0<=p0/\p0<=1000000)(e:0<=p1/\p1<=1000000)(g:0<=p2/\p2<=1000000)(h:0<=p3/\p3<=1000000)(j:0<=p4/\p4<=1000000)(k:0<=p5/\p5<=1000000)(p:0<=p6/\p6<=1000000)(q:0<=p7/\p7<=1000000)(b:By x0)(u:By y0)(v:By y1)(w:By y2)(z:By y3)(A:By y4)(B:By y5)(C:By y6)(D:By y7):fe (x0,x1,x2,x3,x4,x5,x6,x7) (y0,y1,y2,y3,y4,y5,y6,y7) (0,p0,p1,p2,p3,p4,p5,p6,p7)=O (.inl (1,p0+x0*y0,p1+x0*y1,p2+x0*y2,p3+x0*y3,p4+x0*y4,p5+x0*y5,p6+x0*y6,p7+x0*y7)):=by
 have c:am (ai (x0,x1,x2,x3,x4,x5,x6,x7) (y0,y1,y2,y3,y4,y5,y6,y7) 0) cj (0,p0,p1,p2,p3,p4,p5,p6,p7)=O (p0+x0*y0,p1+x0*y1,p2+x0*y2,p3+x0*y3,p4+x0*y4,p5+x0*y5,p6+x0*y6,p7+x0*y7):=ie ((((((((Reach.one (aN8 d b u)).trans (Reach.one (aN9 e b v))).trans (Reach.one (aO0 g b w))).trans (Reach.one (aO1 h b z))).trans (Reach.one (aO2 j b A))).trans (Reach.one (aO3 k b B))).trans (Reach.one (aO4 p b C))).trans (Reach.one (aO5 q b D))) (by decide) rfl;show(am (ai (x0,x1,x2,x3,x4,x5,x6,x7) (y0,y1,y2,y3,y4,y5,y6,y7) 0) cj (0,p0,p1,p2,p3,p4,p5,p6,p7)).bind (λr=>O (aB (zH zI (0+1),r.1,r.2.1,r.2.2.1,r.2.2.2.1,r.2.2.2.2.1,r.2.2.2.2.2.1,r.2.2.2.2.2.2.1,r.2.2.2.2.2.2.2)))=_;rw[c];rfl
theorem aO6 (b:0<=p1/\p1<=1000000)(c:By x1)(d:By y0):ai (x0,x1,x2,x3,x4,x5,x6,x7) (y0,y1,y2,y3,y4,y5,y6,y7) 1 (0,p0,p1,p2,p3,p4,p5,p6,p7)=O (.inl (1,p0,p1+x1*y0,p2,p3,p4,p5,p6,p7)):=by
 show O (aB (zH zI (0+1),p0,zH zI (p1+zH zI (x1*y0)),p2,p3,p4,p5,p6,p7))=_;rw[(tq b c d).1];rfl
theorem aO7 (b:0<=p2/\p2<=1000000)(c:By x1)(d:By y1):ai (x0,x1,x2,x3,x4,x5,x6,x7) (y0,y1,y2,y3,y4,y5,y6,y7) 1 (1,p0,p1,p2,p3,p4,p5,p6,p7)=O (.inl (2,p0,p1,p2+x1*y1,p3,p4,p5,p6,p7)):=by
 show O (aB (zH zI (1+1),p0,p1,zH zI (p2+zH zI (x1*y1)),p3,p4,p5,p6,p7))=_;rw[(tq b c d).1];rfl
theorem aO8 (b:0<=p3/\p3<=1000000)(c:By x1)(d:By y2):ai (x0,x1,x2,x3,x4,x5,x6,x7) (y0,y1,y2,y3,y4,y5,y6,y7) 1 (2,p0,p1,p2,p3,p4,p5,p6,p7)=O (.inl (3,p0,p1,p2,p3+x1*y2,p4,p5,p6,p7)):=by
 show O (aB (zH zI (2+1),p0,p1,p2,zH zI (p3+zH zI (x1*y2)),p4,p5,p6,p7))=_;rw[(tq b c d).1];rfl
theorem aO9 (b:0<=p4/\p4<=1000000)(c:By x1)(d:By y3):ai (x0,x1,x2,x3,x4,x5,x6,x7) (y0,y1,y2,y3,y4,y5,y6,y7) 1 (3,p0,p1,p2,p3,p4,p5,p6,p7)=O (.inl (4,p0,p1,p2,p3,p4+x1*y3,p5,p6,p7)):=by
 show O (aB (zH zI (3+1),p0,p1,p2,p3,zH zI (p4+zH zI (x1*y3)),p5,p6,p7))=_;rw[(tq b c d).1];rfl
theorem aP0 (b:0<=p5/\p5<=1000000)(c:By x1)(d:By y4):ai (x0,x1,x2,x3,x4,x5,x6,x7) (y0,y1,y2,y3,y4,y5,y6,y7) 1 (4,p0,p1,p2,p3,p4,p5,p6,p7)=O (.inl (5,p0,p1,p2,p3,p4,p5+x1*y4,p6,p7)):=by
 show O (aB (zH zI (4+1),p0,p1,p2,p3,p4,zH zI (p5+zH zI (x1*y4)),p6,p7))=_;rw[(tq b c d).1];rfl
theorem aP1 (b:0<=p6/\p6<=1000000)(c:By x1)(d:By y5):ai (x0,x1,x2,x3,x4,x5,x6,x7) (y0,y1,y2,y3,y4,y5,y6,y7) 1 (5,p0,p1,p2,p3,p4,p5,p6,p7)=O (.inl (6,p0,p1,p2,p3,p4,p5,p6+x1*y5,p7)):=by
 show O (aB (zH zI (5+1),p0,p1,p2,p3,p4,p5,zH zI (p6+zH zI (x1*y5)),p7))=_;rw[(tq b c d).1];rfl
theorem aP2 (b:0<=p7/\p7<=1000000)(c:By x1)(d:By y6):ai (x0,x1,x2,x3,x4,x5,x6,x7) (y0,y1,y2,y3,y4,y5,y6,y7) 1 (6,p0,p1,p2,p3,p4,p5,p6,p7)=O (.inl (7,p0,p1,p2,p3,p4,p5,p6,p7+x1*y6)):=by
 show O (aB (zH zI (6+1),p0,p1,p2,p3,p4,p5,p6,zH zI (p7+zH zI (x1*y6))))=_;rw[(tq b c d).1];rfl
theorem bo2 (d:0<=p1/\p1<=1000000)(e:0<=p2/\p2<=1000000)(g:0<=p3/\p3<=1000000)(h:0<=p4/\p4<=1000000)(j:0<=p5/\p5<=1000000)(k:0<=p6/\p6<=1000000)(p:0<=p7/\p7<=1000000)(b:By x1)(q:By y0)(u:By y1)(v:By y2)(w:By y3)(z:By y4)(A:By y5)(B:By y6):fe (x0,x1,x2,x3,x4,x5,x6,x7) (y0,y1,y2,y3,y4,y5,y6,y7) (1,p0,p1,p2,p3,p4,p5,p6,p7)=O (.inl (2,p0,p1+x1*y0,p2+x1*y1,p3+x1*y2,p4+x1*y3,p5+x1*y4,p6+x1*y5,p7+x1*y6)):=by
 have c:am (ai (x0,x1,x2,x3,x4,x5,x6,x7) (y0,y1,y2,y3,y4,y5,y6,y7) 1) cj (0,p0,p1,p2,p3,p4,p5,p6,p7)=O (p0,p1+x1*y0,p2+x1*y1,p3+x1*y2,p4+x1*y3,p5+x1*y4,p6+x1*y5,p7+x1*y6):=ie (((((((Reach.one (aO6 d b q)).trans (Reach.one (aO7 e b u))).trans (Reach.one (aO8 g b v))).trans (Reach.one (aO9 h b w))).trans (Reach.one (aP0 j b z))).trans (Reach.one (aP1 k b A))).trans (Reach.one (aP2 p b B))) (by decide) rfl;show(am (ai (x0,x1,x2,x3,x4,x5,x6,x7) (y0,y1,y2,y3,y4,y5,y6,y7) 1) cj (0,p0,p1,p2,p3,p4,p5,p6,p7)).bind (λr=>O (aB (zH zI (1+1),r.1,r.2.1,r.2.2.1,r.2.2.2.1,r.2.2.2.2.1,r.2.2.2.2.2.1,r.2.2.2.2.2.2.1,r.2.2.2.2.2.2.2)))=_;rw[c];rfl
theorem aP3 (b:0<=p2/\p2<=1000000)(c:By x2)(d:By y0):ai (x0,x1,x2,x3,x4,x5,x6,x7) (y0,y1,y2,y3,y4,y5,y6,y7) 2 (0,p0,p1,p2,p3,p4,p5,p6,p7)=O (.inl (1,p0,p1,p2+x2*y0,p3,p4,p5,p6,p7)):=by
 show O (aB (zH zI (0+1),p0,p1,zH zI (p2+zH zI (x2*y0)),p3,p4,p5,p6,p7))=_;rw[(tq b c d).1];rfl
theorem aP4 (b:0<=p3/\p3<=1000000)(c:By x2)(d:By y1):ai (x0,x1,x2,x3,x4,x5,x6,x7) (y0,y1,y2,y3,y4,y5,y6,y7) 2 (1,p0,p1,p2,p3,p4,p5,p6,p7)=O (.inl (2,p0,p1,p2,p3+x2*y1,p4,p5,p6,p7)):=by
 show O (aB (zH zI (1+1),p0,p1,p2,zH zI (p3+zH zI (x2*y1)),p4,p5,p6,p7))=_;rw[(tq b c d).1];rfl
theorem aP5 (b:0<=p4/\p4<=1000000)(c:By x2)(d:By y2):ai (x0,x1,x2,x3,x4,x5,x6,x7) (y0,y1,y2,y3,y4,y5,y6,y7) 2 (2,p0,p1,p2,p3,p4,p5,p6,p7)=O (.inl (3,p0,p1,p2,p3,p4+x2*y2,p5,p6,p7)):=by
 show O (aB (zH zI (2+1),p0,p1,p2,p3,zH zI (p4+zH zI (x2*y2)),p5,p6,p7))=_;rw[(tq b c d).1];rfl
theorem aP6 (b:0<=p5/\p5<=1000000)(c:By x2)(d:By y3):ai (x0,x1,x2,x3,x4,x5,x6,x7) (y0,y1,y2,y3,y4,y5,y6,y7) 2 (3,p0,p1,p2,p3,p4,p5,p6,p7)=O (.inl (4,p0,p1,p2,p3,p4,p5+x2*y3,p6,p7)):=by
 show O (aB (zH zI (3+1),p0,p1,p2,p3,p4,zH zI (p5+zH zI (x2*y3)),p6,p7))=_;rw[(tq b c d).1];rfl
theorem aP7 (b:0<=p6/\p6<=1000000)(c:By x2)(d:By y4):ai (x0,x1,x2,x3,x4,x5,x6,x7) (y0,y1,y2,y3,y4,y5,y6,y7) 2 (4,p0,p1,p2,p3,p4,p5,p6,p7)=O (.inl (5,p0,p1,p2,p3,p4,p5,p6+x2*y4,p7)):=by
 show O (aB (zH zI (4+1),p0,p1,p2,p3,p4,p5,zH zI (p6+zH zI (x2*y4)),p7))=_;rw[(tq b c d).1];rfl
theorem aP8 (b:0<=p7/\p7<=1000000)(c:By x2)(d:By y5):ai (x0,x1,x2,x3,x4,x5,x6,x7) (y0,y1,y2,y3,y4,y5,y6,y7) 2 (5,p0,p1,p2,p3,p4,p5,p6,p7)=O (.inl (6,p0,p1,p2,p3,p4,p5,p6,p7+x2*y5)):=by
 show O (aB (zH zI (5+1),p0,p1,p2,p3,p4,p5,p6,zH zI (p7+zH zI (x2*y5))))=_;rw[(tq b c d).1];rfl
theorem bo3 (d:0<=p2/\p2<=1000000)(e:0<=p3/\p3<=1000000)(g:0<=p4/\p4<=1000000)(h:0<=p5/\p5<=1000000)(j:0<=p6/\p6<=1000000)(k:0<=p7/\p7<=1000000)(b:By x2)(p:By y0)(q:By y1)(u:By y2)(v:By y3)(w:By y4)(z:By y5):fe (x0,x1,x2,x3,x4,x5,x6,x7) (y0,y1,y2,y3,y4,y5,y6,y7) (2,p0,p1,p2,p3,p4,p5,p6,p7)=O (.inl (3,p0,p1,p2+x2*y0,p3+x2*y1,p4+x2*y2,p5+x2*y3,p6+x2*y4,p7+x2*y5)):=by
 have c:am (ai (x0,x1,x2,x3,x4,x5,x6,x7) (y0,y1,y2,y3,y4,y5,y6,y7) 2) cj (0,p0,p1,p2,p3,p4,p5,p6,p7)=O (p0,p1,p2+x2*y0,p3+x2*y1,p4+x2*y2,p5+x2*y3,p6+x2*y4,p7+x2*y5):=ie ((((((Reach.one (aP3 d b p)).trans (Reach.one (aP4 e b q))).trans (Reach.one (aP5 g b u))).trans (Reach.one (aP6 h b v))).trans (Reach.one (aP7 j b w))).trans (Reach.one (aP8 k b z))) (by decide) rfl;show(am (ai (x0,x1,x2,x3,x4,x5,x6,x7) (y0,y1,y2,y3,y4,y5,y6,y7) 2) cj (0,p0,p1,p2,p3,p4,p5,p6,p7)).bind (λr=>O (aB (zH zI (2+1),r.1,r.2.1,r.2.2.1,r.2.2.2.1,r.2.2.2.2.1,r.2.2.2.2.2.1,r.2.2.2.2.2.2.1,r.2.2.2.2.2.2.2)))=_;rw[c];rfl
theorem aP9 (b:0<=p3/\p3<=1000000)(c:By x3)(d:By y0):ai (x0,x1,x2,x3,x4,x5,x6,x7) (y0,y1,y2,y3,y4,y5,y6,y7) 3 (0,p0,p1,p2,p3,p4,p5,p6,p7)=O (.inl (1,p0,p1,p2,p3+x3*y0,p4,p5,p6,p7)):=by
 show O (aB (zH zI (0+1),p0,p1,p2,zH zI (p3+zH zI (x3*y0)),p4,p5,p6,p7))=_;rw[(tq b c d).1];rfl
theorem aQ0 (b:0<=p4/\p4<=1000000)(c:By x3)(d:By y1):ai (x0,x1,x2,x3,x4,x5,x6,x7) (y0,y1,y2,y3,y4,y5,y6,y7) 3 (1,p0,p1,p2,p3,p4,p5,p6,p7)=O (.inl (2,p0,p1,p2,p3,p4+x3*y1,p5,p6,p7)):=by
 show O (aB (zH zI (1+1),p0,p1,p2,p3,zH zI (p4+zH zI (x3*y1)),p5,p6,p7))=_;rw[(tq b c d).1];rfl
theorem aQ1 (b:0<=p5/\p5<=1000000)(c:By x3)(d:By y2):ai (x0,x1,x2,x3,x4,x5,x6,x7) (y0,y1,y2,y3,y4,y5,y6,y7) 3 (2,p0,p1,p2,p3,p4,p5,p6,p7)=O (.inl (3,p0,p1,p2,p3,p4,p5+x3*y2,p6,p7)):=by
 show O (aB (zH zI (2+1),p0,p1,p2,p3,p4,zH zI (p5+zH zI (x3*y2)),p6,p7))=_;rw[(tq b c d).1];rfl
theorem aQ2 (b:0<=p6/\p6<=1000000)(c:By x3)(d:By y3):ai (x0,x1,x2,x3,x4,x5,x6,x7) (y0,y1,y2,y3,y4,y5,y6,y7) 3 (3,p0,p1,p2,p3,p4,p5,p6,p7)=O (.inl (4,p0,p1,p2,p3,p4,p5,p6+x3*y3,p7)):=by
 show O (aB (zH zI (3+1),p0,p1,p2,p3,p4,p5,zH zI (p6+zH zI (x3*y3)),p7))=_;rw[(tq b c d).1];rfl
theorem aQ3 (b:0<=p7/\p7<=1000000)(c:By x3)(d:By y4):ai (x0,x1,x2,x3,x4,x5,x6,x7) (y0,y1,y2,y3,y4,y5,y6,y7) 3 (4,p0,p1,p2,p3,p4,p5,p6,p7)=O (.inl (5,p0,p1,p2,p3,p4,p5,p6,p7+x3*y4)):=by
 show O (aB (zH zI (4+1),p0,p1,p2,p3,p4,p5,p6,zH zI (p7+zH zI (x3*y4))))=_;rw[(tq b c d).1];rfl
theorem bo4 (d:0<=p3/\p3<=1000000)(e:0<=p4/\p4<=1000000)(g:0<=p5/\p5<=1000000)(h:0<=p6/\p6<=1000000)(j:0<=p7/\p7<=1000000)(b:By x3)(k:By y0)(p:By y1)(q:By y2)(u:By y3)(v:By y4):fe (x0,x1,x2,x3,x4,x5,x6,x7) (y0,y1,y2,y3,y4,y5,y6,y7) (3,p0,p1,p2,p3,p4,p5,p6,p7)=O (.inl (4,p0,p1,p2,p3+x3*y0,p4+x3*y1,p5+x3*y2,p6+x3*y3,p7+x3*y4)):=by
 have c:am (ai (x0,x1,x2,x3,x4,x5,x6,x7) (y0,y1,y2,y3,y4,y5,y6,y7) 3) cj (0,p0,p1,p2,p3,p4,p5,p6,p7)=O (p0,p1,p2,p3+x3*y0,p4+x3*y1,p5+x3*y2,p6+x3*y3,p7+x3*y4):=ie (((((Reach.one (aP9 d b k)).trans (Reach.one (aQ0 e b p))).trans (Reach.one (aQ1 g b q))).trans (Reach.one (aQ2 h b u))).trans (Reach.one (aQ3 j b v))) (by decide) rfl;show(am (ai (x0,x1,x2,x3,x4,x5,x6,x7) (y0,y1,y2,y3,y4,y5,y6,y7) 3) cj (0,p0,p1,p2,p3,p4,p5,p6,p7)).bind (λr=>O (aB (zH zI (3+1),r.1,r.2.1,r.2.2.1,r.2.2.2.1,r.2.2.2.2.1,r.2.2.2.2.2.1,r.2.2.2.2.2.2.1,r.2.2.2.2.2.2.2)))=_;rw[c];rfl
theorem aQ4 (b:0<=p4/\p4<=1000000)(c:By x4)(d:By y0):ai (x0,x1,x2,x3,x4,x5,x6,x7) (y0,y1,y2,y3,y4,y5,y6,y7) 4 (0,p0,p1,p2,p3,p4,p5,p6,p7)=O (.inl (1,p0,p1,p2,p3,p4+x4*y0,p5,p6,p7)):=by
 show O (aB (zH zI (0+1),p0,p1,p2,p3,zH zI (p4+zH zI (x4*y0)),p5,p6,p7))=_;rw[(tq b c d).1];rfl
theorem aQ5 (b:0<=p5/\p5<=1000000)(c:By x4)(d:By y1):ai (x0,x1,x2,x3,x4,x5,x6,x7) (y0,y1,y2,y3,y4,y5,y6,y7) 4 (1,p0,p1,p2,p3,p4,p5,p6,p7)=O (.inl (2,p0,p1,p2,p3,p4,p5+x4*y1,p6,p7)):=by
 show O (aB (zH zI (1+1),p0,p1,p2,p3,p4,zH zI (p5+zH zI (x4*y1)),p6,p7))=_;rw[(tq b c d).1];rfl
theorem aQ6 (b:0<=p6/\p6<=1000000)(c:By x4)(d:By y2):ai (x0,x1,x2,x3,x4,x5,x6,x7) (y0,y1,y2,y3,y4,y5,y6,y7) 4 (2,p0,p1,p2,p3,p4,p5,p6,p7)=O (.inl (3,p0,p1,p2,p3,p4,p5,p6+x4*y2,p7)):=by
 show O (aB (zH zI (2+1),p0,p1,p2,p3,p4,p5,zH zI (p6+zH zI (x4*y2)),p7))=_;rw[(tq b c d).1];rfl
theorem aQ7 (b:0<=p7/\p7<=1000000)(c:By x4)(d:By y3):ai (x0,x1,x2,x3,x4,x5,x6,x7) (y0,y1,y2,y3,y4,y5,y6,y7) 4 (3,p0,p1,p2,p3,p4,p5,p6,p7)=O (.inl (4,p0,p1,p2,p3,p4,p5,p6,p7+x4*y3)):=by
 show O (aB (zH zI (3+1),p0,p1,p2,p3,p4,p5,p6,zH zI (p7+zH zI (x4*y3))))=_;rw[(tq b c d).1];rfl
theorem bo5 (d:0<=p4/\p4<=1000000)(e:0<=p5/\p5<=1000000)(g:0<=p6/\p6<=1000000)(h:0<=p7/\p7<=1000000)(b:By x4)(j:By y0)(k:By y1)(p:By y2)(q:By y3):fe (x0,x1,x2,x3,x4,x5,x6,x7) (y0,y1,y2,y3,y4,y5,y6,y7) (4,p0,p1,p2,p3,p4,p5,p6,p7)=O (.inl (5,p0,p1,p2,p3,p4+x4*y0,p5+x4*y1,p6+x4*y2,p7+x4*y3)):=by
 have c:am (ai (x0,x1,x2,x3,x4,x5,x6,x7) (y0,y1,y2,y3,y4,y5,y6,y7) 4) cj (0,p0,p1,p2,p3,p4,p5,p6,p7)=O (p0,p1,p2,p3,p4+x4*y0,p5+x4*y1,p6+x4*y2,p7+x4*y3):=ie ((((Reach.one (aQ4 d b j)).trans (Reach.one (aQ5 e b k))).trans (Reach.one (aQ6 g b p))).trans (Reach.one (aQ7 h b q))) (by decide) rfl;show(am (ai (x0,x1,x2,x3,x4,x5,x6,x7) (y0,y1,y2,y3,y4,y5,y6,y7) 4) cj (0,p0,p1,p2,p3,p4,p5,p6,p7)).bind (λr=>O (aB (zH zI (4+1),r.1,r.2.1,r.2.2.1,r.2.2.2.1,r.2.2.2.2.1,r.2.2.2.2.2.1,r.2.2.2.2.2.2.1,r.2.2.2.2.2.2.2)))=_;rw[c];rfl
theorem aQ8 (b:0<=p5/\p5<=1000000)(c:By x5)(d:By y0):ai (x0,x1,x2,x3,x4,x5,x6,x7) (y0,y1,y2,y3,y4,y5,y6,y7) 5 (0,p0,p1,p2,p3,p4,p5,p6,p7)=O (.inl (1,p0,p1,p2,p3,p4,p5+x5*y0,p6,p7)):=by
 show O (aB (zH zI (0+1),p0,p1,p2,p3,p4,zH zI (p5+zH zI (x5*y0)),p6,p7))=_;rw[(tq b c d).1];rfl
theorem aQ9 (b:0<=p6/\p6<=1000000)(c:By x5)(d:By y1):ai (x0,x1,x2,x3,x4,x5,x6,x7) (y0,y1,y2,y3,y4,y5,y6,y7) 5 (1,p0,p1,p2,p3,p4,p5,p6,p7)=O (.inl (2,p0,p1,p2,p3,p4,p5,p6+x5*y1,p7)):=by
 show O (aB (zH zI (1+1),p0,p1,p2,p3,p4,p5,zH zI (p6+zH zI (x5*y1)),p7))=_;rw[(tq b c d).1];rfl
theorem aR0 (b:0<=p7/\p7<=1000000)(c:By x5)(d:By y2):ai (x0,x1,x2,x3,x4,x5,x6,x7) (y0,y1,y2,y3,y4,y5,y6,y7) 5 (2,p0,p1,p2,p3,p4,p5,p6,p7)=O (.inl (3,p0,p1,p2,p3,p4,p5,p6,p7+x5*y2)):=by
 show O (aB (zH zI (2+1),p0,p1,p2,p3,p4,p5,p6,zH zI (p7+zH zI (x5*y2))))=_;rw[(tq b c d).1];rfl
theorem bo6 (d:0<=p5/\p5<=1000000)(e:0<=p6/\p6<=1000000)(g:0<=p7/\p7<=1000000)(b:By x5)(h:By y0)(j:By y1)(k:By y2):fe (x0,x1,x2,x3,x4,x5,x6,x7) (y0,y1,y2,y3,y4,y5,y6,y7) (5,p0,p1,p2,p3,p4,p5,p6,p7)=O (.inl (6,p0,p1,p2,p3,p4,p5+x5*y0,p6+x5*y1,p7+x5*y2)):=by
 have c:am (ai (x0,x1,x2,x3,x4,x5,x6,x7) (y0,y1,y2,y3,y4,y5,y6,y7) 5) cj (0,p0,p1,p2,p3,p4,p5,p6,p7)=O (p0,p1,p2,p3,p4,p5+x5*y0,p6+x5*y1,p7+x5*y2):=ie (((Reach.one (aQ8 d b h)).trans (Reach.one (aQ9 e b j))).trans (Reach.one (aR0 g b k))) (by decide) rfl;show(am (ai (x0,x1,x2,x3,x4,x5,x6,x7) (y0,y1,y2,y3,y4,y5,y6,y7) 5) cj (0,p0,p1,p2,p3,p4,p5,p6,p7)).bind (λr=>O (aB (zH zI (5+1),r.1,r.2.1,r.2.2.1,r.2.2.2.1,r.2.2.2.2.1,r.2.2.2.2.2.1,r.2.2.2.2.2.2.1,r.2.2.2.2.2.2.2)))=_;rw[c];rfl
theorem aR1 (b:0<=p6/\p6<=1000000)(c:By x6)(d:By y0):ai (x0,x1,x2,x3,x4,x5,x6,x7) (y0,y1,y2,y3,y4,y5,y6,y7) 6 (0,p0,p1,p2,p3,p4,p5,p6,p7)=O (.inl (1,p0,p1,p2,p3,p4,p5,p6+x6*y0,p7)):=by
 show O (aB (zH zI (0+1),p0,p1,p2,p3,p4,p5,zH zI (p6+zH zI (x6*y0)),p7))=_;rw[(tq b c d).1];rfl
theorem aR2 (b:0<=p7/\p7<=1000000)(c:By x6)(d:By y1):ai (x0,x1,x2,x3,x4,x5,x6,x7) (y0,y1,y2,y3,y4,y5,y6,y7) 6 (1,p0,p1,p2,p3,p4,p5,p6,p7)=O (.inl (2,p0,p1,p2,p3,p4,p5,p6,p7+x6*y1)):=by
 show O (aB (zH zI (1+1),p0,p1,p2,p3,p4,p5,p6,zH zI (p7+zH zI (x6*y1))))=_;rw[(tq b c d).1];rfl
theorem bo7 (d:0<=p6/\p6<=1000000)(e:0<=p7/\p7<=1000000)(c:By x6)(g:By y0)(h:By y1):fe (x0,x1,x2,x3,x4,x5,x6,x7) (y0,y1,y2,y3,y4,y5,y6,y7) (6,p0,p1,p2,p3,p4,p5,p6,p7)=O (.inl (7,p0,p1,p2,p3,p4,p5,p6+x6*y0,p7+x6*y1)):=by
 have b:am (ai (x0,x1,x2,x3,x4,x5,x6,x7) (y0,y1,y2,y3,y4,y5,y6,y7) 6) cj (0,p0,p1,p2,p3,p4,p5,p6,p7)=O (p0,p1,p2,p3,p4,p5,p6+x6*y0,p7+x6*y1):=ie ((Reach.one (aR1 d c g)).trans (Reach.one (aR2 e c h))) (by decide) rfl;show(am (ai (x0,x1,x2,x3,x4,x5,x6,x7) (y0,y1,y2,y3,y4,y5,y6,y7) 6) cj (0,p0,p1,p2,p3,p4,p5,p6,p7)).bind (λr=>O (aB (zH zI (6+1),r.1,r.2.1,r.2.2.1,r.2.2.2.1,r.2.2.2.2.1,r.2.2.2.2.2.1,r.2.2.2.2.2.2.1,r.2.2.2.2.2.2.2)))=_;rw[b];rfl
theorem aR3 (b:0<=p7/\p7<=1000000)(c:By x7)(d:By y0):ai (x0,x1,x2,x3,x4,x5,x6,x7) (y0,y1,y2,y3,y4,y5,y6,y7) 7 (0,p0,p1,p2,p3,p4,p5,p6,p7)=O (.inl (1,p0,p1,p2,p3,p4,p5,p6,p7+x7*y0)):=by
 show O (aB (zH zI (0+1),p0,p1,p2,p3,p4,p5,p6,zH zI (p7+zH zI (x7*y0))))=_;rw[(tq b c d).1];rfl
theorem bo8 (c:0<=p7/\p7<=1000000)(d:By x7)(e:By y0):fe (x0,x1,x2,x3,x4,x5,x6,x7) (y0,y1,y2,y3,y4,y5,y6,y7) (7,p0,p1,p2,p3,p4,p5,p6,p7)=O (.inl (8,p0,p1,p2,p3,p4,p5,p6,p7+x7*y0)):=by
 have b:am (ai (x0,x1,x2,x3,x4,x5,x6,x7) (y0,y1,y2,y3,y4,y5,y6,y7) 7) cj (0,p0,p1,p2,p3,p4,p5,p6,p7)=O (p0,p1,p2,p3,p4,p5,p6,p7+x7*y0):=ie (Reach.one (aR3 c d e)) (by decide) rfl;show(am (ai (x0,x1,x2,x3,x4,x5,x6,x7) (y0,y1,y2,y3,y4,y5,y6,y7) 7) cj (0,p0,p1,p2,p3,p4,p5,p6,p7)).bind (λr=>O (aB (zH zI (7+1),r.1,r.2.1,r.2.2.1,r.2.2.2.1,r.2.2.2.2.1,r.2.2.2.2.2.1,r.2.2.2.2.2.2.1,r.2.2.2.2.2.2.2)))=_;rw[b];rfl
theorem aK2 (x0 x1 x2 x3 x4 x5 x6 x7 y0 y1 y2 y3 y4 y5 y6 y7:Int):((0+x0*y0)+256*(0+x0*y1+x1*y0)+65536*(0+x0*y2+x1*y1+x2*y0)+16777216*(0+x0*y3+x1*y2+x2*y1+x3*y0)+4294967296*(0+x0*y4+x1*y3+x2*y2+x3*y1+x4*y0)+1099511627776*(0+x0*y5+x1*y4+x2*y3+x3*y2+x4*y1+x5*y0)+281474976710656*(0+x0*y6+x1*y5+x2*y4+x3*y3+x4*y2+x5*y1+x6*y0)+72057594037927936*(0+x0*y7+x1*y6+x2*y5+x3*y4+x4*y3+x5*y2+x6*y1+x7*y0)) % 18446744073709551616=((x0+256*x1+65536*x2+16777216*x3+4294967296*x4+1099511627776*x5+281474976710656*x6+72057594037927936*x7)*(y0+256*y1+65536*y2+16777216*y3+4294967296*y4+1099511627776*y5+281474976710656*y6+72057594037927936*y7)) % 18446744073709551616:=by
 have b: ∀x:Int,x*(y0+256*y1+65536*y2+16777216*y3+4294967296*y4+1099511627776*y5+281474976710656*y6+72057594037927936*y7)=x*y0+256*(x*y1)+65536*(x*y2)+16777216*(x*y3)+4294967296*(x*y4)+1099511627776*(x*y5)+281474976710656*(x*y6)+72057594037927936*(x*y7):=λx=>by
  rw[cB,cB,cB,cB,cB,cB,cB,dB x 256 y1,dB x 65536 y2,dB x 16777216 y3,dB x 4294967296 y4,dB x 1099511627776 y5,dB x 281474976710656 y6,dB x 72057594037927936 y7]
 have c: ∀y:Int,(x0+256*x1+65536*x2+16777216*x3+4294967296*x4+1099511627776*x5+281474976710656*x6+72057594037927936*x7)*y=x0*y+256*(x1*y)+65536*(x2*y)+16777216*(x3*y)+4294967296*(x4*y)+1099511627776*(x5*y)+281474976710656*(x6*y)+72057594037927936*(x7*y):=λy=>by
  rw[bD,bD,bD,bD,bD,bD,bD,cD 256 x1 y,cD 65536 x2 y,cD 16777216 x3 y,cD 4294967296 x4 y,cD 1099511627776 x5 y,cD 281474976710656 x6 y,cD 72057594037927936 x7 y]
 rw[c,b x0,b x1,b x2,b x3,b x4,b x5,b x6,b x7];generalize x0*y0=T;generalize x0*y1=U;generalize x0*y2=V;generalize x0*y3=W;generalize x0*y4=X;generalize x0*y5=Z;generalize x0*y6=z06;generalize x0*y7=z07;generalize x1*y0=z10;generalize x1*y1=z11;generalize x1*y2=z12;generalize x1*y3=z13;generalize x1*y4=z14;generalize x1*y5=z15;generalize x1*y6=z16;generalize x1*y7=d;generalize x2*y0=z20;generalize x2*y1=z21;generalize x2*y2=z22;generalize x2*y3=z23;generalize x2*y4=z24;generalize x2*y5=z25;generalize x2*y6=e;generalize x2*y7=g;generalize x3*y0=z30;generalize x3*y1=z31;generalize x3*y2=z32;generalize x3*y3=z33;generalize x3*y4=z34;generalize x3*y5=h;generalize x3*y6=j;generalize x3*y7=k;generalize x4*y0=z40;generalize x4*y1=z41;generalize x4*y2=z42;generalize x4*y3=z43;generalize x4*y4=p;generalize x4*y5=q;generalize x4*y6=u;generalize x4*y7=v;generalize x5*y0=z50;generalize x5*y1=z51;generalize x5*y2=z52;generalize x5*y3=w;generalize x5*y4=z54
 generalize x5*y5=z;generalize x5*y6=A;generalize x5*y7=B;generalize x6*y0=z60;generalize x6*y1=z61;generalize x6*y2=C;generalize x6*y3=D;generalize x6*y4=E;generalize x6*y5=F;generalize x6*y6=H;generalize x6*y7=I;generalize x7*y0=z70;generalize x7*y1=J;generalize x7*y2=K;generalize x7*y3=L;generalize x7*y4=M;generalize x7*y5=N;generalize x7*y6=Q;generalize x7*y7=S;refine(Int.add_mul_emod_self_right _ (1*d+1*e+256*g+1*h+256*j+65536*k+1*p+256*q+65536*u+16777216*v+1*w+256*z54+65536*z+16777216*A+4294967296*B+1*C+256*D+65536*E+16777216*F+4294967296*H+1099511627776*I+1*J+256*K+65536*L+16777216*M+4294967296*N+1099511627776*Q+281474976710656*S) _).symm.trans ?_
 congr 1
 omega
theorem IA {a b:Int}(ha:zg a)(hb:zg b):sF a b=O (zH zJ (a*b)):=by
 unfold sF;rw[E4 ha,E4 hb];simp only[zG,dgs];unfold zg at ha hb;have e: ∀x:Int,0<=x/\x<18446744073709551616->x=x % 256+256*(x / 256 % 256)+65536*(x / 65536 % 256)+16777216*(x / 16777216 % 256)+4294967296*(x / 4294967296 % 256)+1099511627776*(x / 1099511627776 % 256)+281474976710656*(x / 281474976710656 % 256)+72057594037927936*(x / 72057594037927936 % 256):=λx h=>by omega
 have ea:=e a ha;have eb:=e b hb;rw[wU];clear e;have I:By (a % 256):=qW _;have J:By (a / 256 % 256):=qW _;have K:By (a / 65536 % 256):=qW _;have L:By (a / 16777216 % 256):=qW _;have M:By (a / 4294967296 % 256):=qW _;have N:By (a / 1099511627776 % 256):=qW _;have Q:By (a / 281474976710656 % 256):=qW _;have S:By (a / 72057594037927936 % 256):=qW _;have T:By (b % 256):=qW _;have U:By (b / 256 % 256):=qW _;have V:By (b / 65536 % 256):=qW _;have W:By (b / 16777216 % 256):=qW _;have X:By (b / 4294967296 % 256):=qW _;have Z:By (b / 1099511627776 % 256):=qW _;have qb6:By (b / 281474976710656 % 256):=qW _;have qb7:By (b / 72057594037927936 % 256):=qW _
 suffices hs: ∀x0 x1 x2 x3 x4 x5 x6 x7 y0 y1 y2 y3 y4 y5 y6 y7:Int,By x0->By x1->By x2->By x3->By x4->By x5->By x6->By x7->By y0->By y1->By y2->By y3->By y4->By y5->By y6->By y7->(am (fe (x0,x1,x2,x3,x4,x5,x6,x7) (y0,y1,y2,y3,y4,y5,y6,y7)) cj (0,0,0,0,0,0,0,0,0)).bind (λv=>(ot v.1 v.2.1 v.2.2.1 v.2.2.2.1 v.2.2.2.2.1 v.2.2.2.2.2.1 v.2.2.2.2.2.2.1 v.2.2.2.2.2.2.2).bind λr30=>O r30)=O (((x0+256*x1+65536*x2+16777216*x3+4294967296*x4+1099511627776*x5+281474976710656*x6+72057594037927936*x7)*(y0+256*y1+65536*y2+16777216*y3+4294967296*y4+1099511627776*y5+281474976710656*y6+72057594037927936*y7)) % 18446744073709551616)by
  have:=hs _ _ _ _ _ _ _ _ _ _ _ _ _ _ _ _ I J K L M N Q S T U V W X Z qb6 qb7;rw[<-ea,<-eb]at this;exact this
 clear ea eb ha hb I T J U K V L W M X N Z Q qb6 S qb7;intro x0 x1 x2 x3 x4 x5 x6 x7 y0 y1 y2 y3 y4 y5 y6 y7 k q w z B C E F c d g j u A D H;have z00:=(tq (p:=0) (by omega) k c).2;have z01:=(tq (p:=0) (by omega) k d).2;have z02:=(tq (p:=0) (by omega) k g).2;have z03:=(tq (p:=0) (by omega) k j).2;have z04:=(tq (p:=0) (by omega) k u).2;have z05:=(tq (p:=0) (by omega) k A).2;have z06:=(tq (p:=0) (by omega) k D).2;have z07:=(tq (p:=0) (by omega) k H).2;have z10:=(tq (p:=0) (by omega) q c).2;have z11:=(tq (p:=0) (by omega) q d).2;have z12:=(tq (p:=0) (by omega) q g).2;have z13:=(tq (p:=0) (by omega) q j).2;have z14:=(tq (p:=0) (by omega) q u).2;have z15:=(tq (p:=0) (by omega) q A).2;have z16:=(tq (p:=0) (by omega) q D).2;have z20:=(tq (p:=0) (by omega) w c).2;have z21:=(tq (p:=0) (by omega) w d).2;have z22:=(tq (p:=0) (by omega) w g).2;have z23:=(tq (p:=0) (by omega) w j).2
 have z24:=(tq (p:=0) (by omega) w u).2;have z25:=(tq (p:=0) (by omega) w A).2;have z30:=(tq (p:=0) (by omega) z c).2;have z31:=(tq (p:=0) (by omega) z d).2;have z32:=(tq (p:=0) (by omega) z g).2;have z33:=(tq (p:=0) (by omega) z j).2;have z34:=(tq (p:=0) (by omega) z u).2;have z40:=(tq (p:=0) (by omega) B c).2;have z41:=(tq (p:=0) (by omega) B d).2;have z42:=(tq (p:=0) (by omega) B g).2;have z43:=(tq (p:=0) (by omega) B j).2;have z50:=(tq (p:=0) (by omega) C c).2;have z51:=(tq (p:=0) (by omega) C d).2;have z52:=(tq (p:=0) (by omega) C g).2;have z60:=(tq (p:=0) (by omega) E c).2;have z61:=(tq (p:=0) (by omega) E d).2;have z70:=(tq (p:=0) (by omega) F c).2;have key:am (fe (x0,x1,x2,x3,x4,x5,x6,x7) (y0,y1,y2,y3,y4,y5,y6,y7)) cj (0,0,0,0,0,0,0,0,0)=O (0+x0*y0,0+x0*y1+x1*y0,0+x0*y2+x1*y1+x2*y0,0+x0*y3+x1*y2+x2*y1+x3*y0,0+x0*y4+x1*y3+x2*y2+x3*y1+x4*y0,0+x0*y5+x1*y4+x2*y3+x3*y2+x4*y1+x5*y0,0+x0*y6+x1*y5+x2*y4+x3*y3+x4*y2+x5*y1+x6*y0,0+x0*y7+x1*y6+x2*y5+x3*y4+x4*y3+x5*y2+x6*y1+x7*y0):=ie ((((((((Reach.one (bo1 (by omega) (by omega) (by omega) (by omega) (by omega) (by omega) (by omega) (by omega) k c d g j u A D H)).trans (Reach.one (bo2 (by omega) (by omega) (by omega) (by omega) (by omega) (by omega) (by omega) q c d g j u A D))).trans (Reach.one (bo3 (by omega) (by omega) (by omega) (by omega) (by omega) (by omega) w c d g j u A))).trans (Reach.one (bo4 (by omega) (by omega) (by omega) (by omega) (by omega) z c d g j u))).trans (Reach.one (bo5 (by omega) (by omega) (by omega) (by omega) B c d g j))).trans (Reach.one (bo6 (by omega) (by omega) (by omega) C c d g))).trans (Reach.one (bo7 (by omega) (by omega) E c d))).trans (Reach.one (bo8 (by omega) F c))) (by decide) rfl
 rw[key];simp only[zG];rw[MG (by unfold Sm;omega) (by unfold Sm;omega) (by unfold Sm;omega) (by unfold Sm;omega) (by unfold Sm;omega) (by unfold Sm;omega) (by unfold Sm;omega) (by unfold Sm;omega),<-aK2];rfl
end
section
open List renaming replicate -> aB, append_assoc -> aD, getElem?_append_right -> bD, append_nil -> cD, getElem?_eq_getElem -> fB, getElem_mem -> fD
open Nat renaming le_refl -> bB, sub_self -> cB, add_zero -> dB, mul_comm -> dD, succ_mul -> eD, eq_zero_or_pos -> gB, le_mul_of_pos_left -> gD, mul_le_mul_right -> iA
set_option maxRecDepth 100000
theorem aZ1 (k:Int): ∃x,i4 k=O (Zc (1<=k/\k<=6),x):=by
 have h: ∀b c:Bool×Bool×Bool,∀p q:Bool,p=q->∃x,(O (p,b):Option (Bool×Bool×Bool×Bool))=O (q,x):=λb _ p q e=>⟨b,by rw[e]⟩
 unfold i4;simp only[ag]
 repeat' split
 all_goals (simp only[zG,ej,bg,ag])
 all_goals (repeat' split)
 all_goals (refine h _ (Za,Za,Za) _ _ ?_;symm;first|exact zB (by omega)|exact zA (by omega))
section
variable {l:List bu} {R:Int} {f:Fo}
theorem Wq (j:Prg R l f): ∃m S,mM l=O (0,m)/\MOK l m/\zK l=O (0,S)/\YO l m S:=by
 have N:=j.ops.len;have H:br l 0=O 0:=by rw[<-j.src];exact Fo.scan0 j.ok
 rcases IB (l:=l) (by omega)with⟨_,m,Q,E⟩|⟨h,_⟩
 .obtain⟨r,hr,r1,r2,r3⟩:=LM (l:=l) (by omega) j.ops.v;have T:=j.w;rcases r3 with⟨r3,_⟩|⟨_,_,r4,r5,r6⟩
  .rw[T]at r3;exact(r3 rfl).elim
  refine⟨m,r.2.2.1,Q,E, ?_,aU4 E r4 (λo ho=>j.ops.v o ho) r6⟩;unfold zK;rw[B6 N j.ops.v,T];simp only[zG];rw[zA (by simp),zD,Q];simp only[zG]
  have z:=cx (f:=ue l (0,m)) (n:=l.length) (λi=>r.2.2.1.take i) (c:=r.2.2.1) (by omega)
   (λi hi=>by
    obtain⟨a,b,B,h2,M⟩:=r6 i hi
    have C:(if l[i].1=7 then(pW l m (i:Int))else O (if l[i].1=0 then 0 else 1))=O a:=by
     by_cases k:l[i].1=7
     .rw[zE k];obtain⟨p,e,A,b',w,mi,q1,q2,q3,q4,q5,q6,q7,q8,q9,J⟩:=Gh N j.ops.v E H hi k;obtain⟨D,Z⟩:=(M hi).1 k p e A q1 q2 q3;obtain⟨W,X⟩:=J _ D;rw[q6,W]
      have F:0<=b:=by
       obtain⟨K,V,w2⟩: ∃K,KA b=K/\0<=K:=⟨w,X.symm,q9⟩
       unfold KA at V;split at V<;>omega
      rw[(Lb F (j.ops.v _ (fD hi)).1 Z).1]
     .rw[zF k];obtain⟨_,D⟩:=(M hi).2 k;rw[D]
    have hk0:0<=l[i].1/\l[i].1<=7:=by
     have: ∀(l:List bu) (d:Nat),br l d≠Y->∀o∈l,0<=o.1/\o.1<=7:=by
      intro l;induction l with
      |nil=>intro d _ o ho;cases ho
      |cons x l I=>
       intro d g o ho;simp only[br]at g;split at g
       .exact(g rfl).elim
       rename_i U;rcases List.mem_cons.1 ho with rfl|ho
       .omega
       .split at g
        .split at g
         .exact(g rfl).elim
         .exact I _ g o ho
        .split at g
         .exact I _ g o ho
         .exact I _ g o ho
     exact this l 0 (by rw[H];simp) _ (fD hi)
    unfold ue;simp only[ag];rw[Zg,bh hi];simp only[zG]
    have u:(if l[i].1=7 then((pW l m (i:Int)).bind λr7=>O r7)else((i4 l[i].1).bind λr9=>cond r9.1 (O (1:Int)) (O 0)))=O a:=by
     by_cases k:l[i].1=7
     .rw[zE k]at C⊢;rw[C];rfl
     .rw[zF k]at C⊢;obtain⟨x,U⟩:=aZ1 l[i].1;rw[U];simp only[zG];rw[<-C];by_cases L:l[i].1=0
      .rw[zE L,Ze];rfl
      .rw[zF L,Zf];rfl
    rw[u];simp only[zG];rw[ca (by rw[List.length_take];omega) (by omega),Zi]
    have:r.2.2.1.take (i+1)=r.2.2.1.take i++[a]:=by
     have q:i<r.2.2.1.length:=by omega
     rw[fB q]at B;injection B with B
     rw[List.take_succ_eq_append_getElem q,B]
    rw[this,show(i:Int)+1=((i+1:Nat):Int)by omega])
   (by
    unfold ue
    rw[Ze,zD,List.take_of_length_le (by omega)])
  rw[List.take_zero]at z;rw[z];rfl
 .exact(h H).elim
theorem Uv {m S:Zd}{out:List bu}(v:l.length<=1000)(w:out.length<=1000){x:bu}(k:l[i]?=O x)(h:x.1≠7∨∃n,S[i]?=O n/\n≠0):
  nz l (0,m) (0,S) ((i:Int),out)=O (.inl (((i+1:Nat):Int),out++[x])):=by
 obtain⟨hi,b⟩:=List.getElem?_eq_some_iff.1 k;unfold nz;simp only[ag];rw[Zg,bh hi,b];simp only[zG]
 have j:(if x.1=7 then((ix (i:Int) S.length).bind λp=>(S[p]?).bind λu=>if u=0 then((ix (i:Int) m.length).bind λq=>(m[q]?).bind λd=>O (.inl d))else O (.inr (i:Int)))else O (.inr (i:Int)))=O (Sum.inr (i:Int):Int⊕Int):=by
  by_cases c:x.1=7
  .rcases h with h|⟨n,e,g⟩
   .exact(h c).elim
   rw[zE c,bi (List.getElem?_eq_some_iff.1 e).1];simp only[zG];rw[e];simp only[zG];rw[zF g]
  .rw[zF c]
 rw[j];simp only[zG,bg];rw[bh hi,b];simp only[zG];rw[ca (by omega) (by omega),Zi];rfl
theorem aM4 {m S:Zd}{j:Nat}{out:List bu}(k:l.length<=1000){x:bu}(g:l[i]?=O x)(e:x.1=7)(d:S[i]?=O 0)(c:m[i]?=O (j:Int))(h:j<=1000):
  nz l (0,m) (0,S) ((i:Int),out)=O (.inl (((j+1:Nat):Int),out)):=by
 obtain⟨hi,b⟩:=List.getElem?_eq_some_iff.1 g;unfold nz;simp only[ag];rw[Zg,bh hi,b];simp only[zG];rw[zE e,bi (List.getElem?_eq_some_iff.1 d).1];simp only[zG];rw[d];simp only[zG];rw[zE trivial,bi (List.getElem?_eq_some_iff.1 c).1];simp only[zG];rw[c];simp only[zG,ej];rw[Zi];rfl
theorem P4 {m S:Zd}(d:l.length<=1000)(p:YO l m S): ∀(f:Fo) (A B:List bu) (out:List bu),l=A++f.src++B->f.Ok->out.length<=A.length->
  ∃k,k<=f.len/\Reach (nz l (0,m) (0,S)) k ((A.length:Int),out) (((A.length+f.len:Nat):Int),out++f.bare.src)
 | .nil,A,B,out,c,_,_=>by
  refine⟨0,bB _, ?_⟩;simp only[Fo.bare,Fo.src,Fo.len,cD,dB];exact Reach.refl
 | .op o r,A,B,out,c,q,T=>by
  have w:(A++[o]).length=A.length+1:=by simp
  have D:l.length=A.length+(r.len+1)+B.length:=by rw[c];simp[Fo.src,Fo.src_len];omega
  have u:l[A.length]?=O o:=by rw[c,aD,bD (bB _),cB];rfl
  obtain⟨k,H,v⟩:=P4 d p r (A++[o]) B (out++[o]) (by rw[c];simp[Fo.src]) q.2 (by simp;omega);refine⟨1+k,by simp only[Fo.len];omega, ?_⟩;have g:=(Reach.one (Uv (m:=m) (S:=S) (out:=out) d (by omega) u (.inl (by have:=q.1;omega)))).trans (show Reach _ k _ _ from by rw[w]at v;exact v);simp only[Fo.bare,Fo.src,Fo.len];rw[show A.length+(r.len+1)=A.length+1+r.len by omega];rw[aD]at g;exact g
 | .rep o b e r,A,B,out,c,q,T=>by
  obtain⟨⟨H,v⟩,J,K⟩:=q;have D:l.length=A.length+(b.len+r.len+2)+B.length:=by rw[c];simp[Fo.src,Fo.src_len];omega
  have u:l[A.length]?=O o:=by rw[c,aD,bD (bB _),cB];rfl
  obtain⟨Q,C⟩:=p.2.2 A (r.src++B) o e b (by rw[c];simp[Fo.src]) J H v;have j:(A++o::(b.src++[e])).length=A.length+1+b.len+1:=by simp[Fo.src_len];omega
  simp only[Fo.bare,Fo.len];by_cases F:b.n*tt o=0
  .rw[zE F];rw[F]at C;obtain⟨k,M,h⟩:=P4 d p r (A++o::(b.src++[e])) B out (by rw[c];simp[Fo.src]) K (by omega);refine⟨1+k,by omega, ?_⟩;have g:=(Reach.one (aM4 (out:=out) d u H C Q (by omega))).trans (show Reach _ k _ _ from by rw[j]at h;exact h);rw[show A.length+(b.len+r.len+2)=A.length+1+b.len+1+r.len by omega];exact g
  .rw[zF F];have w:(A++[o]).length=A.length+1:=by simp
   have z:(A++o::b.src).length=A.length+1+b.len:=by simp[Fo.src_len];omega
   have E:l[A.length+1+b.len]?=O e:=by
    rw[show l=(A++o::b.src)++(e::(r.src++B))by rw[c];simp[Fo.src],<-z,bD (bB _),cB];rfl
   obtain⟨U,V,I⟩:=P4 d p b (A++[o]) (e::(r.src++B)) (out++[o]) (by rw[c];simp[Fo.src]) J (by simp;omega);rw[w]at I;have N:=b.bare_len;obtain⟨k,M,h⟩:=P4 d p r (A++o::(b.src++[e])) B (out++[o]++b.bare.src++[e]) (by rw[c];simp[Fo.src]) K (by simp[Fo.src_len];omega);rw[j]at h;refine⟨1+U+1+k,by omega, ?_⟩;have g:=(((Reach.one (Uv (m:=m) (out:=out) d (by omega) u (.inr ⟨_,C,by omega⟩))).trans I).trans (Reach.one (Uv (m:=m) (S:=S) d (by simp[Fo.src_len];omega) E (.inl (by omega))))).trans h;rw[show A.length+(b.len+r.len+2)=A.length+1+b.len+1+r.len by omega];have L:out++[o]++b.bare.src++[e]++r.bare.src=out++(Fo.rep o b.bare e r.bare).src:=by simp[Fo.src]
   rw[L]at g;exact g
theorem Yf (b:Prg R l f):BE l=O f.bare.src:=by
 obtain⟨m,S,e,p,g,h⟩:=Wq b;have q:=b.ops.len;unfold BE;rw[e,g];simp only[zG];obtain⟨k,u,j⟩:=P4 (by omega) h f [] [] [] (by simp[b.src]) b.ok (by simp);have d:f.len=l.length:=by rw[<-Fo.src_len,b.src]
 have:=ie (c:=f.bare.src) j (by omega) (by
  simp only[nz];rw[zA (by rw[d];simp),zD]
  rfl)
 rw[show((0:Int),([]:List bu))=((([]:List bu).length:Int),([]:List bu))from rfl,this];rfl
end
section
variable {l:List bu} {m:Zd}
def MOf (l:List bu)(m:Zd):Prop:= ∀(A B:List bu) (o e:bu) (b:Fo),l=A++o::(b.src++e::B)->b.Ok->o.1=7->e.1=0->m[A.length]?=O ((A.length+1+b.len:Nat):Int)
theorem mOf (q:MOK l m):MOf l m:=λA B o e b g j u p=>by
 have h:l.length=A.length+1+(b.len+(B.length+1)):=by rw[g];simp[Fo.src_len];omega
 have d:A.length<l.length:=by omega
 have c:l[A.length]=o:=by
  have:l[A.length]?=O o:=by rw[g,bD (bB _),cB];rfl
  rw[fB d]at this;injection this
 have k:l.drop (A.length+1)=b.src++e::B:=by rw[g,List.drop_append,List.drop_of_length_le (by omega),show A.length+1-A.length=1 by omega];rfl
 have:=q.at' A.length d (by rw[c];exact u) b.src e B k p (Fo.scan0 j);rw[Fo.src_len]at this;exact this
theorem aJ2 {K:List bu->Zd->Int->Int->Option (List bu×Int)}{st:Nat}{a3:Int}{out:List bu}(h:l.length<=1000)(j:out.length<=1000000)(e:st<=1000000000000){x:bu}(g:l[i]?=O x)(d:x.1≠7)(c:(i:Int)<a3):
  mg K l m a3 ((i:Int),(st:Int),out)=O (.inl (((i+1:Nat):Int),((st+1:Nat):Int),out++[x])):=by
 obtain⟨hi,b⟩:=List.getElem?_eq_some_iff.1 g;unfold mg;simp only[ag];rw[zE c,bh hi,b];simp only[zG];rw[zE d,ca (by omega) (by omega),Zi,Zi];rfl
theorem VO {u:List bu}{nb:Nat}{s:Int×Int×List bu}(j:s.1=(i:Int)){x:bu}(z:l[i]?=O x)(p:Uq x)(st:Nat)(out:List bu)(v:st+tt x*(nb+1)<=1000000000000)(C:out.length+tt x*u.length<=1000000)(w:tt x<=100000):
  am (sr l s (u,(nb:Int))) cj (0,(st:Int),out)=O (((st+tt x*(nb+1):Nat):Int),out++(aB (tt x) u).flatten):=by
 obtain⟨hi,e⟩:=List.getElem?_eq_some_iff.1 z;unfold Uq at p;have d:x.2.2.2.2=((tt x:Nat):Int):=(Int.toNat_of_nonneg p.1).symm
 have g:=cx (f:=sr l s (u,(nb:Int))) (n:=tt x) (λk=>(((st+k*(nb+1):Nat):Int),out++(aB k u).flatten)) (c:=(((st+tt x*(nb+1):Nat):Int),out++(aB (tt x) u).flatten)) (by omega)
  (λk h=>by
   have A:k*(nb+1)+(nb+1)<=tt x*(nb+1):=by
    rw[<-eD];exact iA _ h
   have B:k*u.length+u.length<=tt x*u.length:=by
    rw[<-eD];exact iA _ h
   unfold sr;simp only;rw[j,bh hi,e];simp only[zG,ag];rw[zE (by rw[d];omega)];have b:(out++(aB k u).flatten).length=out.length+k*u.length:=by simp
   rw[b]
   have q:ip (out.length+k*u.length+u.length) 40=Za:=by
    unfold ip;rw[Zf];rfl
   rw[show∀y:Option ((Int×Int×List bu)⊕(Int×List bu)),gd (ip (out.length+k*u.length+u.length) 40) y=y from λy=>by rw[q];rfl];rw[QI ⟨by omega,by omega⟩,ad (n:=((st+k*(nb+1):Nat):Int)+nb) (by omega),Zi];rw[show(k:Int)+1=((k+1:Nat):Int)by omega,show((st+k*(nb+1):Nat):Int)+nb+1=((st+(k+1)*(nb+1):Nat):Int)by rw[eD];omega,aD]
   rw[show(aB (k+1) u).flatten=(aB k u).flatten++u by
    rw[List.replicate_succ',List.flatten_append];simp])
  (by
   unfold sr;simp only;rw[j,bh hi,e];simp only[zG,ag]
   rw[zF (by rw[d];omega)])
 simp only[Nat.zero_mul,dB,List.replicate_zero,List.flatten_nil,cD]at g;exact g
theorem oK : ∀g:Fo,g.unroll.length=g.n
 | .nil=>rfl
 | .op o r=>by simp only[Fo.unroll,Fo.n,List.length_cons,oK r];omega
 | .rep o b e r=>by simp[Fo.unroll,Fo.n,oK r,oK b,dD]
theorem Ls (H:l.length<=1000)(D:MOf l m): ∀(g:Fo) (p:Nat) (A B:List bu) (st:Nat) (out:List bu) (a3:Int),l=A++g.src++B->g.Ok->g.Pos->(∀o∈g.src,Uq o)->g.hi<=p->out.length+g.n<=100000->st+g.steps<=1000000000000->((A.length+g.len:Nat):Int)<=a3->
  ∃k,k<=g.len/\Reach (mg (i3 p) l m a3) k ((A.length:Int),(st:Int),out) (((A.length+g.len:Nat):Int),((st+g.steps:Nat):Int),out++g.unroll)
 | .nil,p,A,B,st,out,a3,h,_,_,_,_,_,_,_=>by
  refine⟨0,bB _, ?_⟩;simp only[Fo.unroll,Fo.steps,Fo.len,cD,dB];exact Reach.refl
 | .op o r,p,A,B,st,out,a3,h,F,S,C,E,Q,q,J=>by
  simp only[Fo.n,Fo.steps,Fo.len,Fo.hi]at Q q J E;have v:(A++[o]).length=A.length+1:=by simp
  have M:l.length=A.length+(r.len+1)+B.length:=by rw[h];simp[Fo.src,Fo.src_len];omega
  have j:l[A.length]?=O o:=by rw[h,aD,bD (bB _),cB];rfl
  obtain⟨k,W,I⟩:=Ls H D r p (A++[o]) B (st+1) (out++[o]) a3 (by rw[h];simp[Fo.src]) F.2 S (λx j=>C x (by simp[Fo.src,j])) E (by simp;omega) (by omega) (by rw[v];omega);refine⟨1+k,by simp only[Fo.len];omega, ?_⟩;have h1:=(Reach.one (aJ2 (m:=m) (K:=i3 p) (a3:=a3) (out:=out) (st:=st) H (by omega) (by omega) j (by have:=F.1;omega) (by omega))).trans (show Reach _ k _ _ from by rw[v]at I;exact I);simp only[Fo.unroll,Fo.steps,Fo.len];rw[show A.length+(r.len+1)=A.length+1+r.len by omega,show st+(1+r.steps)=st+1+r.steps by omega];rw[aD]at h1;exact h1
 | .rep o b e r,p,A,B,st,out,a3,h,F,S,C,E,Q,q,J=>by
  obtain⟨⟨W,I⟩,X,k4⟩:=F;obtain⟨p1,p2,p3⟩:=S;simp only[Fo.n,Fo.steps,Fo.len,Fo.hi]at Q q J E;have M:l.length=A.length+(b.len+r.len+2)+B.length:=by rw[h];simp[Fo.src,Fo.src_len];omega
  have j:l[A.length]?=O o:=by rw[h,aD,bD (bB _),cB];rfl
  have hm:=D A (r.src++B) o e b (by rw[h];simp[Fo.src]) X W I;have v:(A++[o]).length=A.length+1:=by simp
  have w:(A++o::(b.src++[e])).length=A.length+1+b.len+1:=by simp[Fo.src_len];omega
  obtain⟨g,rfl⟩: ∃g,p=g+1:=⟨p-1,by omega⟩
  have d:0<tt o/\0<b.n:=by
   rcases gB (tt o)with h0|h0
   .rw[h0,Nat.mul_zero]at p1;omega
   rcases gB b.n with h1|h1
   .rw[h1,Nat.zero_mul]at p1;omega
   exact⟨h0,h1⟩
  have Z:b.n<=b.n*tt o:=Nat.le_mul_of_pos_right _ d.1;have hvn:tt o<=b.n*tt o:=gD _ d.2;have hbs:b.steps+1<=tt o*(b.steps+1):=gD _ d.1;obtain⟨kb,b1,U⟩:=Ls H D b g (A++[o]) (e::(r.src++B)) 0 [] (((A.length+1+b.len:Nat):Int)) (by rw[h];simp[Fo.src]) X p2 (λx j=>C x (by simp[Fo.src,j])) (by omega) (by simp;omega) (by omega) (by rw[v];omega);rw[v]at U
  have L:i3 (g+1) l m ((A.length+1:Nat):Int) ((A.length+1+b.len:Nat):Int)=O (b.unroll,(b.steps:Int)):=by
   show w6 (i3 g) l m _ _=_;unfold w6
   have:=ie (c:=((b.steps:Int),b.unroll)) U (by omega) (by
    simp only[mg];rw[Ze,zD]
    simp)
   rw[show(((A.length+1:Nat):Int),(0:Int),([]:List bu))=(((A.length+1:Nat):Int),((0:Nat):Int),([]:List bu))from rfl,this];rfl
  have z:mg (i3 (g+1)) l m a3 ((A.length:Int),(st:Int),out)=O (.inl (((A.length+1+b.len+1:Nat):Int),((st+1+tt o*(b.steps+1):Nat):Int),out++(aB (tt o) b.unroll).flatten)):=by
   obtain⟨hi,T⟩:=List.getElem?_eq_some_iff.1 j;unfold mg;simp only[ag];rw[Zg,bh hi,T];simp only[zG];rw[Zh]
   have N:rd m ((A.length:Nat):Int)=O ((A.length+1+b.len:Nat):Int):=by
    obtain⟨q1,q2⟩:=List.getElem?_eq_some_iff.1 hm;rw[bh q1,q2]
   rw[N];simp only[zG];rw[Zi,show(A.length:Int)+1=((A.length+1:Nat):Int)by omega,L];simp only[zG];rw[Zi,show(st:Int)+1=((st+1:Nat):Int)by omega];rw[VO (i:=A.length) (nb:=b.steps) (u:=b.unroll) (by rfl) j (C o (by simp[Fo.src])) (st+1) out (by omega) (by rw[oK,dD];omega) (by omega)];simp only[zG];rw[Zi];rfl
  obtain⟨k,g1,V⟩:=Ls H D r (g+1) (A++o::(b.src++[e])) B (st+1+tt o*(b.steps+1)) (out++(aB (tt o) b.unroll).flatten) a3 (by rw[h];simp[Fo.src]) k4 p3 (λx j=>C x (by simp[Fo.src,j])) (by omega) (by
    have:((aB (tt o) b.unroll).flatten).length=tt o*b.n:=by simp[oK]
    rw[List.length_append,this,dD];omega) (by omega) (by rw[w];omega)
  rw[w]at V;refine⟨1+k,by simp only[Fo.len];omega, ?_⟩;have h1:=(Reach.one z).trans V;simp only[Fo.unroll,Fo.steps,Fo.len];rw[show A.length+(b.len+r.len+2)=A.length+1+b.len+1+r.len by omega,show st+(1+tt o*(b.steps+1)+r.steps)=st+1+tt o*(b.steps+1)+r.steps by omega];rw[aD]at h1;exact h1
end
section
variable {l:List bu} {R:Int} {f:Fo}
theorem yu (b:Prg R l f):nc R l=O (f.unroll,0):=by
 unfold nc;rw[Rp b.ops];simp only[zG];rw[b.z,zA (by simp),zD,Yf b];simp only[zG];have g:f.bare.src.length<=100:=by rw[Fo.src_len];exact Nat.le_trans f.bare_len b.len
 have d:=f.bare_ok b.ok;rcases IB (l:=f.bare.src) (by omega)with⟨_,m,p,j⟩|⟨h,_⟩
 .rw[p];simp only[zG];have w:f.bare.n<=65536:=by rw[f.bare_n];exact b.n
  have e:f.bare.hi<=399:=Nat.le_trans f.bare_hi (by have:=b.deep;omega);obtain⟨k,A,u⟩:=Ls (by omega) (mOf j) f.bare 399 [] [] 0 [] ((f.bare.src.length:Nat):Int) (by simp) d f.bare_pos (λo q=>b.ops.v o (by rw[<-b.src];exact f.bare_mem q)) e (by simp;omega) (by have:=b.steps;omega) (by rw[Fo.src_len];simp);unfold Fr;show((w6 (i3 399) _ _ _ _).bind _)=_;unfold w6
  have:=ie (c:=(((f.bare.steps:Nat):Int),f.bare.unroll)) u (by have:=f.bare_len;have:=b.len;omega) (by
   simp only[mg];rw[zA (by rw[Fo.src_len];simp),zD]
   simp)
  rw[show((0:Int),(0:Int),([]:List bu))=(((([]:List bu).length:Nat):Int),((0:Nat):Int),([]:List bu))from rfl,this];simp only[zG];rw[f.bare_unroll]
 .exact(h (Fo.scan0 d)).elim
end
end
section
open Go.IntKind renaming wrap -> zH, i64 -> zI, u64 -> zJ
open List renaming getElem_mem -> aB, length_take -> aD, mem_of_mem_take -> bB, take_length -> bD, take_succ_eq_append_getElem -> cB, append_assoc -> cD
def bn (r:Zd):Prop:= ∀x∈r,zg x
theorem w0 :zg 0:=by unfold zg;omega
theorem UT (n:Int):zg (zH zJ n):=by rw[wU];unfold zg;omega
theorem B7 (h:bn r)(k:Int):zg (rg r k):=by
 unfold rg;rw[List.getD_eq_getElem?_getD];by_cases b:k.toNat<r.length
 .rw[List.getElem?_eq_getElem b];exact h _ (aB b)
 .rw[List.getElem?_eq_none (by omega)];exact w0
theorem bn.set (h:bn r){v:Int}(b:zg v)(k:Nat):bn (r.set k v):=λx c=>by
 rcases List.mem_or_eq_of_mem_set c with h1|h1
 .exact h x h1
 .rw[h1];exact b
theorem bn.app {s:Zd}(h:bn r)(k:bn s):bn (r++s):=λx b=>(List.mem_append.1 b).elim (h x) (k x)
theorem bn.rep (n:Nat):bn (List.replicate n 0):=λx b=>by rw[(List.mem_replicate.1 b).2];exact w0
theorem bn.fill {R:Int}(h:bn r):bn (fill R r):=h.app (bn.rep _)
theorem bn.drop (h:bn r)(n:Nat):bn (r.drop n):=λx b=>h x (List.mem_of_mem_drop b)
theorem bn.take (h:bn r)(n:Nat):bn (r.take n):=λx b=>h x (bB b)
theorem aT5 (b:Uq o)(c:zg x)(d:zg y):zg (app o x y):=by
 unfold Go.V.app;unfold Uq at b
 repeat' split
 all_goals first|exact UT _|exact c|exact w0|(unfold zg;omega)
theorem NA (b:zg x)(c:zg y):vc o.1 o.2.1 o.2.2.1 o.2.2.2.1 o.2.2.2.2 x y=O (app o x y):=by
 unfold vc Go.V.app;simp only[ag];rw[Db b c,MN c,IA b c,MN b];simp only[zG];rw[Db b (UT _)];have d:zH zJ (x+zH zJ (-y))=zH zJ (x-y):=by simp only[wU];omega
 have e:(-x:Int)=0-x:=by omega
 simp only[zG];rw[d,e]
 repeat' split
 all_goals rfl
theorem P7 (o:bu)(x y:Int):ub o.1 o.2.1 o.2.2.1 o.2.2.2.1 o.2.2.2.2 x y=O (par o x y):=by
 unfold ub par;simp only[ag];rw[MN (a:=1) (by unfold zg;omega)];simp only[zG];rw[show zH zJ (-1)=18446744073709551615 from rfl]
 repeat' split
 all_goals rfl
theorem AB {R:Int}(j:0<=R/\R<=1000000)(e:r.length<=R.toNat):od R r=O (fill R r):=by
 unfold od;have d:=ia e
 have b:=cx (f:=ui R r) (n:=R.toNat) (λi=>(fill R r).take i) (c:=fill R r) (by omega)
  (λi hi=>by
   unfold ui;simp only[ag];rw[Zg]
   have g:(if(i:Int)<((r.length:Nat):Int)then(rd r (i:Int)).bind (λx5=>O x5)else O 0)=O ((fill R r)[i]'(by omega)):=by
    by_cases h:i<r.length
    .rw[Zg,bh h];simp only[zG];unfold fill;rw[List.getElem_append_left h]
    .rw[Zh];unfold fill;rw[List.getElem_append_right (by omega),List.getElem_replicate]
   rw[g];simp only[zG];rw[ca (by rw[aD];omega) (by omega),Zi];rw[cB (by omega)]
   rfl)
  (by
   unfold ui
   rw[Ze,zD,List.take_of_length_le (by omega)])
 rw[List.take_zero]at b;rw[b];rfl
theorem I5 {f:Int×Zd->Option ((Int×Zd)⊕Zd)}(e:r.length<=1000000)(s:Zd)(g:s.length<=1000000)
  (d: ∀s,f s=cond (Zc (s.1<((r.length:Nat):Int))) ((rd r s.1).bind λx=>gd (ip (s.2.length+1) 8) (O (.inl (zH zI (s.1+1),s.2++[x])))) (O (.inr s.2))):
  am f cj (0,s)=O (s++r):=by
 have b:=cx (f:=f) (n:=r.length) (λi=>s++r.take i) (c:=s++r) (by omega)
  (λi hi=>by
   rw[d,zB (by simp only;omega),zC,bh hi];simp only[zG];rw[ca (by rw[List.length_append,aD];omega) (by omega),Zi,cB hi,cD]
   rfl)
  (by rw[d,zA (by simp),zD,bD])
 rw[List.take_zero,List.append_nil]at b;exact b
theorem Gy (b:r.length<=1000000):rH r=O r:=by
 unfold rH;rw[I5 (f:=GR r) b [] (by simp) (λs=>rfl)];rfl
theorem uA {b c:Zd}(d:a.length<=100000)(e:b.length<=100000)(g:c.length<=100000):ov a b c=O (a++(b++c)):=by
 unfold ov;rw[I5 (r:=a) (f:=DH a) (by omega) [] (by simp) (λs=>rfl)];simp only[zG];rw[I5 (r:=b) (f:=DI b) (by omega) _ (by simp;omega) (λs=>rfl)];simp only[zG];rw[I5 (r:=c) (f:=DJ c) (by omega) _ (by simp;omega) (λs=>rfl)];simp only[zG,List.nil_append,cD]
def aU0 (n:Nat)(l:List bu):Prop:= ∀o∈l,Xg n o/\Uq o
theorem VI (l:List bu): ∀s:FS,(AN GH l s).1.length=s.1.length:=by
 induction l with
 |nil=>intro s;rfl
 |cons o l b=>intro s;show(AN GH l (GH o s)).1.length=_;rw[b];unfold GH;simp
theorem as9 (l:List bu): ∀s:FS,bn s.1->(∀o∈l,Uq o)->bn (AN GH l s).1:=by
 induction l with
 |nil=>intro s h _;exact h
 |cons o l d=>
  intro s h b;exact d (GH o s) (h.set (aT5 (b o (by simp)) (B7 h _) (B7 h _)) _) (λx c=>b x (by simp[c]))
theorem QA {Z:Type}{b:bu->Z->Z}{l:List bu}(hi:i<l.length)(s:Z):AN b (l.take (i+1)) s=b l[i] (AN b (l.take i) s):=by
 rw[cB hi,Oj];rfl
theorem IC {l:List bu}(F:l.length<=1000000)(H:r.length<=1000)(h:aU0 r.length l)(A:bn r)(n:Nat):qH l r=O (AN GH l (r,n)).1:=by
 unfold qH;have w:fill ((r.length:Nat):Int) r=r:=by unfold fill;simp
 rw[AB (by omega) (by omega),w];simp only[zG]
 have b:=cx (f:=qt l) (n:=l.length) (λi=>(AN GH (l.take i) (r,n)).1) (c:=(AN GH l (r,n)).1) (by omega)
  (λi hi=>by
   rw[QA hi];have e:=VI (l.take i) (r,n);have g:=as9 (l.take i) (r,n) A (λo z=>(h o (bB z)).2);generalize AN GH (l.take i) (r,n)=s at*;have d:=h _ (aB hi);generalize B:l[i]=x at*;obtain⟨p,j,k,q,u,v,C,D,E⟩:=B2 d.1;have e:s.1.length=r.length:=e;unfold qt;simp only;rw[Zf,zC,bh hi,B];simp only[zG];rw[u,v,bi (by omega:j<s.1.length)];simp only[zG];rw[db (by omega:j<s.1.length)];simp only[zG];rw[bi (by omega:k<s.1.length)];simp only[zG];rw[db (by omega:k<s.1.length)];simp only[zG];rw[<-u,<-v,NA (B7 g _) (B7 g _)];simp only[zG];rw[q,bi (by omega:p<s.1.length)];simp only[zG];rw[db (by omega:p<s.1.length)];simp only[zG];rw[Zi];unfold GH;rw[q]
   rfl)
  (by
   unfold qt
   rw[zA (by simp),zD,bD])
 rw[show l.take 0=[]from rfl]at b;rw[show(0,r)=((0:Int),(AN GH [] (r,n)).1)from rfl,b];rfl
section
variable {l:List bu} {R:Int} {f:Fo}
theorem Dg : ∀(g:Fo),g.Ok->∀o∈g.unroll,o∈g.src/\0<o.1/\o.1<7
 | .nil,_,o,ho=>by cases ho
 | .op x r,h,o,ho=>by
  rcases List.mem_cons.1 ho with rfl|ho
  .exact⟨by simp[Fo.src],h.1⟩
  .obtain⟨c,d⟩:=Dg r h.2 o ho;exact⟨by simp[Fo.src,c],d⟩
 | .rep x b e r,h,o,ho=>by
  simp only[Fo.unroll]at ho;rcases List.mem_append.1 ho with ho|ho
  .obtain⟨u,j,ho⟩:=List.mem_flatten.1 ho;rw[(List.mem_replicate.1 j).2]at ho;obtain⟨c,d⟩:=Dg b h.2.1 o ho;exact⟨by simp[Fo.src,c],d⟩
  .obtain⟨c,d⟩:=Dg r h.2.2 o ho;exact⟨by simp[Fo.src,c],d⟩
theorem Prg.goodU (h:Prg R l f):aU0 R.toNat f.unroll:=λo d=>by
 obtain⟨b,c⟩:=Dg f h.ok o d;rw[h.src]at b;exact⟨h.regs o b c,h.ops.v o b⟩
theorem Prg.ulen (h:Prg R l f):f.unroll.length=f.n/\f.n<=65536:=⟨oK f,h.n⟩
theorem Sg (h:Prg R l f)(c:r.length<=R.toNat)(e:bn r):Af R l r=O (0,LK f (fill R r)):=by
 have g:=h.R1;have j:=h.ulen;unfold Af Fs;rw[yu h];simp only[zG];rw[zA (by simp),zD,Ze,zD,Zf,zC];simp only[zG];have d:Il f.unroll 0 ((f.unroll.length:Nat):Int)=f.unroll:=by unfold Il;simp
 have b:gy 0 ((f.unroll.length:Nat):Int) f.unroll.length=Za:=gz (by omega);rw[b,d,AB ⟨by omega,by omega⟩ c];simp only[zG,bw];rw[IC (by omega) (by rw[ia c];omega) (by rw[ia c];exact h.goodU) e.fill 0];rfl
theorem Ll (l:List bu): ∀s:TS,(AN pQ l s).1.length=s.1.length/\(AN pQ l s).2.1.length=s.2.1.length/\(AN pQ l s).2.2=s.2.2+l.length:=by
 induction l with
 |nil=>intro s;exact⟨rfl,rfl,rfl⟩
 |cons o l e=>
  intro s;obtain⟨b,c,d⟩:=e (pQ o s);exact⟨b.trans (by unfold pQ;simp),c.trans (by unfold pQ;simp),d.trans (by unfold pQ;simp;omega)⟩
theorem XS (l:List bu): ∀s:TS,bn s.1->bn s.2.1->(∀o∈l,Uq o)->bn (AN pQ l s).1/\bn (AN pQ l s).2.1:=by
 induction l with
 |nil=>intro s h k _;exact⟨h,k⟩
 |cons o l d=>
  intro s h k b;exact d (pQ o s) (h.set (aT5 (b o (by simp)) (B7 h _) (B7 h _)) _) (k.set (B7 h _) _) (λx c=>b x (by simp[c]))
theorem UA (h:Prg R l f)(Q:r.length=R.toNat)(S:f.n<=t.length)(g:t.length<=1000000)(H:bn r)(j:bn t):xq R l r t=O ((f.n:Int),0,(uW f r t).1,(uW f r t).2.1):=by
 have N:=h.R1;have F:=h.ulen;have A:=h.goodU;unfold xq Ed;rw[yu h];simp only[zG];rw[zA (by simp),zD,Ze,zD,Ze,zD,Gy (by omega),Gy g];simp only[zG];rw[zA (by simp),zD]
 have b:=cx (f:=te (f.unroll,0)) (n:=f.unroll.length) (λi=>((AN pQ (f.unroll.take i) (r,t,0)).1,(AN pQ (f.unroll.take i) (r,t,0)).2.1)) (c:=((uW f r t).1,(uW f r t).2.1)) (by omega)
  (λi hi=>by
   rw[QA hi];obtain⟨u,w,d⟩:=Ll (f.unroll.take i) (r,t,0);obtain⟨v,J⟩:=XS (f.unroll.take i) (r,t,0) H j (λo E=>(A o (bB E)).2);rw[aD,Nat.min_eq_left (by omega)]at d;generalize AN pQ (f.unroll.take i) (r,t,0)=s at*;have e:=A _ (aB hi);generalize I:f.unroll[i]=x at*;obtain⟨D,B,C,k,p,q,K,L,M⟩:=B2 e.1;have u:s.1.length=r.length:=u;have w:s.2.1.length=t.length:=w;have d:s.2.2=i:=by rw[d];simp
   unfold te;simp only;rw[Zf,zC,bh hi,I];simp only[zG];rw[k,bi (by omega:D<s.1.length)];simp only[zG];rw[db (by omega:D<s.1.length)];simp only[zG];rw[bi (by omega:i<s.2.1.length)];simp only[zG];rw[db (by omega:i<s.2.1.length)];simp only[zG];rw[p,q,bi (by omega:B<s.1.length)];simp only[zG];rw[db (by omega:B<s.1.length)];simp only[zG];rw[bi (by omega:C<s.1.length)];simp only[zG];rw[db (by omega:C<s.1.length)];simp only[zG];have z:=NA (o:=x) (B7 v x.2.2.1) (B7 v x.2.2.2.1);rw[k,p,q]at z;rw[z];simp only[zG];rw[Zi];unfold pQ;rw[k,p,q,d]
   rfl)
  (by
   unfold te;rw[zA (by simp),zD,bD]
   rfl)
 rw[show f.unroll.take 0=[]from rfl]at b;rw[show((0:Int),r,t)=((0:Int),(AN pQ [] (r,t,0)).1,(AN pQ [] (r,t,0)).2.1)from rfl,b];simp only[zG];rw[F.1]
end
end
section
open Go.IntKind renaming wrap -> zH, i64 -> zI, u64 -> zJ
open Int renaming toNat_natCast -> aD
open List renaming replicate -> aB, getElem?_eq_getElem -> bB
theorem Yv {k:Nat}(h:k<a.length):a.set k (rg a (k:Int))=a:=by
 have:=db h;rw[bB h]at this;injection this with this
 rw[<-this];exact List.set_getElem_self h
theorem ay1 (o:bu)(b:0<o.1/\o.1<7)(x y:Int):((bx o.1).2.1=Zb->(par o x y).1=0)/\((bx o.1).2.2.1=Zb->(par o x y).2=0):=by
 have:o.1=1∨o.1=2∨o.1=3∨o.1=4∨o.1=5∨o.1=6:=by omega
 rcases this with h|h|h|h|h|h<;>(unfold bx par;simp[h])
theorem bn2 (d:zg x)(e:zg y):zg (par o x y).1/\zg (par o x y).2:=by
 unfold par;have b:zg 1:=by unfold zg;omega
 have c:zg 18446744073709551615:=by unfold zg;omega
 repeat' split
 all_goals first|exact⟨b,b⟩|exact⟨b,c⟩|exact⟨e,d⟩|exact⟨c,w0⟩|exact⟨b,w0⟩|exact⟨w0,w0⟩
theorem ay5 {t:Int}(c:bn r)(b:bn a)(d:zg t):bn (LC o r a t).1/\bn (LC o r a t).2:=by
 unfold LC;exact⟨c.set d _,((b.set w0 _).set (UT _) _).set (UT _) _⟩
theorem wU0 (b:zg x)(g:Int):zH zJ (x+zH zJ (0*g))=x:=by
 rw[Int.zero_mul,show zH zJ 0=0 from rfl,Int.add_zero];exact QI b
section
variable {l:List bu} {R:Int} {f:Fo}
theorem af0 {ls:List bu}(hi:i<ls.length)(hl:ls.length<=1000000)(Q:Xg r.length ls[i]/\Uq ls[i])(S:0<ls[i].1/\ls[i].1<7)(N:a.length=r.length)(D:i<t.length)(w:bn r)(F:bn a)(z:bn t):
  sw t (ls,0) ((i:Int),r,a)=O (.inl ((i:Int)-1,(LC ls[i] r a (rg t (i:Int))).1,(LC ls[i] r a (rg t (i:Int))).2)):=by
 generalize T:ls[i]=x at*;obtain⟨d,b,j,I,J,K,X,Z,g3⟩:=B2 Q.1;unfold sw;simp only;rw[Zf,zC,bh hi,T];simp only[zG];have hp:=ay5 (o:=x) w F (B7 z (i:Int));have u:=P7 x;have A:=ay1 x S;unfold LC;simp only
 have B:rd t (i:Int)=O (rg t (i:Int)):=by
  rw[bh D];have:=db D;rw[bB D]at this;exact this
 have e:=bn2 (o:=x) (B7 (w.set (B7 z (i:Int)) x.2.1.toNat) x.2.2.1) (B7 (w.set (B7 z (i:Int)) x.2.1.toNat) x.2.2.2.1);rw[I]at e⊢;rw[aD]at e⊢;rw[J,K]at e⊢;rw[aD,aD];rw[bi (by omega:d<a.length)];simp only[zG];rw[db (by omega:d<a.length)];simp only[zG];rw[B];simp only[zG];rw[bi (by omega:d<r.length)];simp only[zG];rw[db (by omega:d<r.length)];simp only[zG];have W:=w.set (B7 z (i:Int)) d;have V:(r.set d (rg t (i:Int))).length=r.length:=by simp
 have k:=F.set w0 d;have E:(a.set d 0).length=r.length:=by simp[N]
 have L:=B7 F (d:Int);generalize r.set d (rg t (i:Int))=r1 at*;generalize a.set d 0=c at*;generalize rg a (d:Int)=g at*;rw[bi (by omega:b<r1.length)];simp only[zG];rw[db (by omega:b<r1.length)];simp only[zG];rw[bi (by omega:j<r1.length)];simp only[zG];rw[db (by omega:j<r1.length)];simp only[zG];have p:=u (rg r1 (b:Int)) (rg r1 (j:Int));rw[I,J,K]at p;rw[p,EI];have h:=A (rg r1 (b:Int)) (rg r1 (j:Int));generalize par x (rg r1 (b:Int)) (rg r1 (j:Int))=q at*;generalize bx x.1=s at*;simp only[zG];rw[bi (by omega:b<c.length)];simp only[zG];rw[db (by omega:b<c.length)];simp only[zG];rw[IA e.1 L];simp only[zG];rw[Db (B7 k _) (UT _)];simp only[zG]
 have M:(cond s.2.1 (O (c.set b (zH zJ (rg c (b:Int)+zH zJ (q.1*g))))) (O c))=O (c.set b (zH zJ (rg c (b:Int)+zH zJ (q.1*g)))):=by
  cases C:s.2.1 with
  |true=>rfl
  |false=>rw[zD,h.1 C,wU0 (B7 k _),Yv (by omega)]
 rw[M];simp only[zG];have v:=k.set (UT (rg c (b:Int)+zH zJ (q.1*g))) b;have U:(c.set b (zH zJ (rg c (b:Int)+zH zJ (q.1*g)))).length=r.length:=by simp[E]
 generalize c.set b (zH zJ (rg c (b:Int)+zH zJ (q.1*g)))=H at*;rw[bi (by omega:j<H.length)];simp only[zG];rw[db (by omega:j<H.length)];simp only[zG];rw[IA e.2 L];simp only[zG];rw[Db (B7 v _) (UT _),Zi];simp only[zG];cases C:s.2.2.1 with
 |true=>rfl
 |false=>rw[zD,h.2 C,wU0 (B7 v _),Yv (by omega)]
theorem ar9 {Z:Type}{b:bu->Z->Z}{l:List bu}(hi:i<l.length)(s:Z):DB b (l.drop i) s=b l[i] (DB b (l.drop (i+1)) s):=by
 rw[List.drop_eq_getElem_cons hi];rfl
theorem YT (u:bn t)(l:List bu): ∀s:BS,bn s.1->bn s.2.1->(DB (sq t) l s).1.length=s.1.length/\(DB (sq t) l s).2.1.length=s.2.1.length/\(DB (sq t) l s).2.2=s.2.2-l.length/\bn (DB (sq t) l s).1/\bn (DB (sq t) l s).2.1:=by
 induction l with
 |nil=>intro s h k;exact⟨rfl,rfl,rfl,h,k⟩
 |cons o l q=>
  intro s h k;obtain⟨d,e,g,j,p⟩:=q s h k;have b:=P3 o (DB (sq t) l s).1 (DB (sq t) l s).2.1 (rg t (((DB (sq t) l s).2.2-1:Nat):Int));have c:=ay5 (o:=o) j p (B7 u (((DB (sq t) l s).2.2-1:Nat):Int));refine⟨b.1.trans d,b.2.trans e, ?_,c.1,c.2⟩;show(DB (sq t) l s).2.2-1=_;rw[g,List.length_cons];omega
theorem Yg (h:Prg R l f)(B:r.length=R.toNat)(F:a.length=R.toNat)(H:f.n<=t.length)(D:bn r)(C:bn a)(q:bn t):BF R l r a t=O (0,(mh f r a t).1,(mh f r a t).2.1):=by
 have E:=h.R1;have I:=h.ulen;have w:=h.goodU;have z:=Dg f h.ok;unfold BF;rw[yu h];simp only[zG];rw[Gy (by omega),Gy (by omega)];simp only[zG];rw[zA (by simp),zD,Ze,zD,Ze,zD,Ze,zD,Zi]
 have e:=C4 (f:=sw t (f.unroll,0)) (n:=f.unroll.length) (λk=>((f.unroll.length:Int)-1-(k:Int),(DB (sq t) (f.unroll.drop (f.unroll.length-k)) (r,a,f.n)).1,(DB (sq t) (f.unroll.drop (f.unroll.length-k)) (r,a,f.n)).2.1)) (c:=((mh f r a t).1,(mh f r a t).2.1)) (by omega)
  (λk A=>by
   obtain⟨i,hi⟩: ∃i,f.unroll.length-k=i+1:=⟨f.unroll.length-k-1,by omega⟩
   have d:i<f.unroll.length:=by omega
   rw[show f.unroll.length-(k+1)=i by omega,hi,ar9 d];obtain⟨j,p,g,u,v⟩:=YT q (f.unroll.drop (i+1)) (r,a,f.n) D C;rw[List.length_drop]at g;generalize DB (sq t) (f.unroll.drop (i+1)) (r,a,f.n)=s at*;have j:s.1.length=r.length:=j;have p:s.2.1.length=a.length:=p;have g:s.2.2=i+1:=by rw[g];simp only;omega
   have b:=List.getElem_mem d;rw[show(f.unroll.length:Int)-1-(k:Int)=(i:Int)by omega];rw[af0 d (by omega) (by rw[j,B];exact w _ b) (z _ b).2 (by omega) (by omega) u v q];unfold sq;rw[g,show(f.unroll.length:Int)-1-((k+1:Nat):Int)=(i:Int)-1 by omega]
   rfl)
  (by
   simp only[Nat.sub_self,List.drop_zero];unfold sw;rw[Ze,zD]
   rfl)
 simp only[Nat.sub_zero,List.drop_length]at e;rw[show((f.unroll.length:Int)-1,r,a)=((f.unroll.length:Int)-1-((0:Nat):Int),(DB (sq t) [] (r,a,f.n)).1,(DB (sq t) [] (r,a,f.n)).2.1)from by simp[DB],e];rfl
theorem Gx (h:Prg R l f)(j:bn r)(k:bn t):bn (uW f r t).1/\bn (uW f r t).2.1/\(uW f r t).1.length=r.length/\(uW f r t).2.1.length=t.length:=by
 obtain⟨b,c⟩:=XS f.unroll (r,t,0) j k (λo g=>(h.goodU o g).2);obtain⟨d,e,_⟩:=Ll f.unroll (r,t,0);exact⟨b,c,d,e⟩
def Wl (R:Int)(f:Fo)(r w:Zd):Zd:=(mh f (uW f (fill R r) (aB f.n 0)).1 (fill R w) (uW f (fill R r) (aB f.n 0)).2.1).2.1
theorem P9 (h:Prg R l f){w:Zd}(b:r.length<=R.toNat)(c:w.length<=R.toNat)(d:bn r)(q:bn w):xr R l r w=O (0,Wl R f r w):=by
 have u:=h.R1;have p:=h.ulen;unfold xr;rw[yu h];simp only[zG];rw[zA (by simp),zD,Ze,zD,Ze,zD,Ub ⟨by omega,by omega⟩,AB ⟨by omega,by omega⟩ b];simp only[zG];rw[Ub ⟨by omega,by omega⟩,aD,p.1];obtain⟨e,g,j,k⟩:=Gx h (r:=fill R r) (t:=aB f.n 0) d.fill (bn.rep _);rw[UA h (ia b) (by simp) (by simp;omega) d.fill (bn.rep _)];simp only[zG];rw[AB ⟨by omega,by omega⟩ c];simp only[zG];rw[Yg h (by rw[j,ia b]) (ia c) (by rw[k];simp) e q.fill g];rfl
theorem Nz (h:Prg R l f){w:Zd}(A:r.length<=R.toNat)(g:w.length<=R.toNat)(j:bn r)(k:bn w):(Wl R f r w).length=R.toNat/\bn (Wl R f r w):=by
 obtain⟨d,e,v,z⟩:=Gx h (r:=fill R r) (t:=aB f.n 0) j.fill (bn.rep _);obtain⟨p,b,q,u,c⟩:=YT e f.unroll ((uW f (fill R r) (aB f.n 0)).1,fill R w,f.n) d k.fill;exact⟨b.trans (ia g),c⟩
theorem GB (h:Prg R l f)(c:bn r):(LK f r).length=r.length/\bn (LK f r):=⟨VI _ _,as9 _ _ c λo b=>(h.goodU o b).2⟩
theorem ba4 (l:List bu): ∀(r t:Zd) (k n:Nat),(AN pQ l (r,t,k)).1=(AN GH l (r,n)).1:=by
 induction l with
 |nil=>intro r t k n;rfl
 |cons o l b=>intro r t k n;exact b _ _ _ _
theorem Se (f:Fo)(r t:Zd):(uW f r t).1=LK f r:=ba4 _ _ _ _ _
end
end
end Go.V
