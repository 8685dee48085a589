/- A part of the proofs of this claim: what functions of the program answer on an abstract machine, and plain laws. No condition. -/
import Derived.Test.YtgigjokffalgkaaGreatL2
set_option linter.unusedVariables false
set_option linter.unusedSimpArgs false
set_option linter.unusedSectionVars false
namespace Go.V
open Go.Ab
open Option renaming some->C,none->O
open Bool renaming true->Za,false->Zb
open Decidable renaming decide->Zc
section
open Go.IntKind renaming wrap -> zH, i64 -> zI, u64 -> zJ
open Int renaming tdiv -> aD, tmod -> bB, add_mul -> bD, mul_add -> cB, mul_assoc -> cD, mul_left_comm -> dB, tdiv_eq_ediv_of_nonneg -> dD, tmod_eq_emod_of_nonneg -> eB
open Sum renaming inl -> aB
def du (a:Int):Prop:=0<=a/\a<18446744073709551616
theorem wU (n:Int):zH zJ n=n % 18446744073709551616:=rfl
theorem qe {n:Int}(h:du n):zH zJ n=n:=by rw[wU];unfold du at h;omega
theorem dw1 {x:Int}(h:du x):zH zJ (aD x 256)=x / 256:=by
 unfold du at h;rw[dD h.1,wU];omega
theorem dw2 {x:Int}(h:du x):zH zI (bB x 256)=x % 256:=by
 unfold du at h;rw[eB h.1,bq (by omega)]
theorem du.div {x:Int}(h:du x):du (x / 256):=by unfold du at*;omega
variable {x s d0 d1 d2 d3 d4 d5 d6 d7 c0 c1 c2 c3 c4 c5 c6 c7 r0 r1 r2 r3 r4 r5 r6 r7 x0 x1 x2 x3 x4 x5 x6 x7 y0 y1 y2 y3 y4 y5 y6 y7 p0 p1 p2 p3 p4 p5 p6 p7:Int}
theorem dw7 (h:du x):gr (0,x,d0,d1,d2,d3,d4,d5,d6,d7)=C (.inl (1,x / 256,x % 256,d1,d2,d3,d4,d5,d6,d7)):=by
 show C (aB (zH zI (0+1),zH zJ (aD x 256),zH zI (bB x 256),d1,d2,d3,d4,d5,d6,d7))=_;rw[dw1 h,dw2 h];rfl
theorem dw8 (h:du x):gr (1,x,d0,d1,d2,d3,d4,d5,d6,d7)=C (.inl (2,x / 256,d0,x % 256,d2,d3,d4,d5,d6,d7)):=by
 show C (aB (zH zI (1+1),zH zJ (aD x 256),d0,zH zI (bB x 256),d2,d3,d4,d5,d6,d7))=_;rw[dw1 h,dw2 h];rfl
theorem dw9 (h:du x):gr (2,x,d0,d1,d2,d3,d4,d5,d6,d7)=C (.inl (3,x / 256,d0,d1,x % 256,d3,d4,d5,d6,d7)):=by
 show C (aB (zH zI (2+1),zH zJ (aD x 256),d0,d1,zH zI (bB x 256),d3,d4,d5,d6,d7))=_;rw[dw1 h,dw2 h];rfl
theorem dx0 (h:du x):gr (3,x,d0,d1,d2,d3,d4,d5,d6,d7)=C (.inl (4,x / 256,d0,d1,d2,x % 256,d4,d5,d6,d7)):=by
 show C (aB (zH zI (3+1),zH zJ (aD x 256),d0,d1,d2,zH zI (bB x 256),d4,d5,d6,d7))=_;rw[dw1 h,dw2 h];rfl
theorem dx1 (h:du x):gr (4,x,d0,d1,d2,d3,d4,d5,d6,d7)=C (.inl (5,x / 256,d0,d1,d2,d3,x % 256,d5,d6,d7)):=by
 show C (aB (zH zI (4+1),zH zJ (aD x 256),d0,d1,d2,d3,zH zI (bB x 256),d5,d6,d7))=_;rw[dw1 h,dw2 h];rfl
theorem dx2 (h:du x):gr (5,x,d0,d1,d2,d3,d4,d5,d6,d7)=C (.inl (6,x / 256,d0,d1,d2,d3,d4,x % 256,d6,d7)):=by
 show C (aB (zH zI (5+1),zH zJ (aD x 256),d0,d1,d2,d3,d4,zH zI (bB x 256),d6,d7))=_;rw[dw1 h,dw2 h];rfl
theorem dx3 (h:du x):gr (6,x,d0,d1,d2,d3,d4,d5,d6,d7)=C (.inl (7,x / 256,d0,d1,d2,d3,d4,d5,x % 256,d7)):=by
 show C (aB (zH zI (6+1),zH zJ (aD x 256),d0,d1,d2,d3,d4,d5,zH zI (bB x 256),d7))=_;rw[dw1 h,dw2 h];rfl
theorem dx4 (h:du x):gr (7,x,d0,d1,d2,d3,d4,d5,d6,d7)=C (.inl (8,x / 256,d0,d1,d2,d3,d4,d5,d6,x % 256)):=by
 show C (aB (zH zI (7+1),zH zJ (aD x 256),d0,d1,d2,d3,d4,d5,d6,zH zI (bB x 256)))=_;rw[dw1 h,dw2 h];rfl
def dgs (a:Int):Int×Int×Int×Int×Int×Int×Int×Int:=(a % 256,a / 256 % 256,a / 65536 % 256,a / 16777216 % 256,a / 4294967296 % 256,a / 1099511627776 % 256,a / 281474976710656 % 256,a / 72057594037927936 % 256)
theorem ae5 {a:Int}(h:du a):ke a=C (dgs a):=by
 have h0:=h;have h1:=h0.div;have h2:=h1.div;have h3:=h2.div;have h4:=h3.div;have h5:=h4.div;have h6:=h5.div;have h7:=h6.div;have key:=gk ((((((((Reach.one (dw7 (d0:=0) (d1:=0) (d2:=0) (d3:=0) (d4:=0) (d5:=0) (d6:=0) (d7:=0) h0)).trans (Reach.one (dw8 h1))).trans (Reach.one (dw9 h2))).trans (Reach.one (dx0 h3))).trans (Reach.one (dx1 h4))).trans (Reach.one (dx2 h5))).trans (Reach.one (dx3 h6))).trans (Reach.one (dx4 h7))) (by decide) rfl;unfold ke;rw[key];simp only[zG];unfold dgs;unfold du at h;have e7:a / 256 / 256 / 256 / 256 / 256 / 256 / 256=a / 72057594037927936:=by omega
 have e6:a / 256 / 256 / 256 / 256 / 256 / 256=a / 281474976710656:=by omega
 have e5:a / 256 / 256 / 256 / 256 / 256=a / 1099511627776:=by omega
 have e4:a / 256 / 256 / 256 / 256=a / 4294967296:=by omega
 have e3:a / 256 / 256 / 256=a / 16777216:=by omega
 have e2:a / 256 / 256=a / 65536:=by omega
 rw[e7,e6,e5,e4,e3,e2]
def Sm (c:Int):Prop:=0<=c/\c<=1000000000
theorem nw {k c n b:Int}(hk:0<=k/\k<=1000000000)(hc:Sm c)(hn:0<=n/\n<b)(hb:0<b/\b<=72057594037927936):zH zI (aD (zH zI (k+c)) 256)=(k+c) / 256/\IntKind.u64.wrap (n+(zH zJ ((zH zJ (bB (zH zI (k+c)) 256))*b)))=n+(k+c) % 256*b:=by
 unfold Sm at hc;have h1:0<=(k+c) % 256/\(k+c) % 256<=255:=by omega
 have h2:0<=(k+c) % 256*b/\(k+c) % 256*b<=255*b:=⟨Int.mul_nonneg h1.1 (by omega),Int.mul_le_mul_of_nonneg_right h1.2 (by omega)⟩;rw[bq (n:=k+c) (by omega),dD (by omega),eB (by omega),bq (by omega),qe (n:=(k+c) % 256) ⟨by omega,by omega⟩,qe (n:=(k+c) % 256*b) ⟨by omega,by omega⟩,qe (n:=n+(k+c) % 256*b) ⟨by omega,by omega⟩];exact⟨rfl,rfl⟩
theorem dz4 (hs:0<=s/\s<=1000000000*1)(hc:Sm c0):gt c0 c1 c2 c3 c4 c5 c6 c7 (0,s / 1,s % 1,1)=C (.inl (1,(s+1*c0) / 256,(s+1*c0) % 256,256)):=by
 show C (aB (zH zI (0+1),zH zI (aD (zH zI (s / 1+c0)) 256),zH zJ (s % 1+(zH zJ ((zH zJ (bB (zH zI (s / 1+c0)) 256))*1))),zH zJ (1*256)))=_;obtain⟨h1,h2⟩:=nw (k:=s / 1) (c:=c0) (n:=s % 1) (b:=1) (by omega) hc (by omega) (by omega);rw[h1,h2];unfold Sm at hc;rw[show(s / 1+c0) / 256=(s+1*c0) / 256 by omega,show s % 1+(s / 1+c0) % 256*1=(s+1*c0) % 256 by omega];rfl
theorem dz5 (hs:0<=s/\s<=1000000000*256)(hc:Sm c1):gt c0 c1 c2 c3 c4 c5 c6 c7 (1,s / 256,s % 256,256)=C (.inl (2,(s+256*c1) / 65536,(s+256*c1) % 65536,65536)):=by
 show C (aB (zH zI (1+1),zH zI (aD (zH zI (s / 256+c1)) 256),zH zJ (s % 256+(zH zJ ((zH zJ (bB (zH zI (s / 256+c1)) 256))*256))),zH zJ (256*256)))=_;obtain⟨h1,h2⟩:=nw (k:=s / 256) (c:=c1) (n:=s % 256) (b:=256) (by omega) hc (by omega) (by omega);rw[h1,h2];unfold Sm at hc;rw[show(s / 256+c1) / 256=(s+256*c1) / 65536 by omega,show s % 256+(s / 256+c1) % 256*256=(s+256*c1) % 65536 by omega];rfl
theorem dz6 (hs:0<=s/\s<=1000000000*65536)(hc:Sm c2):gt c0 c1 c2 c3 c4 c5 c6 c7 (2,s / 65536,s % 65536,65536)=C (.inl (3,(s+65536*c2) / 16777216,(s+65536*c2) % 16777216,16777216)):=by
 show C (aB (zH zI (2+1),zH zI (aD (zH zI (s / 65536+c2)) 256),zH zJ (s % 65536+(zH zJ ((zH zJ (bB (zH zI (s / 65536+c2)) 256))*65536))),zH zJ (65536*256)))=_;obtain⟨h1,h2⟩:=nw (k:=s / 65536) (c:=c2) (n:=s % 65536) (b:=65536) (by omega) hc (by omega) (by omega);rw[h1,h2];unfold Sm at hc;rw[show(s / 65536+c2) / 256=(s+65536*c2) / 16777216 by omega,show s % 65536+(s / 65536+c2) % 256*65536=(s+65536*c2) % 16777216 by omega];rfl
theorem dz7 (hs:0<=s/\s<=1000000000*16777216)(hc:Sm c3):gt c0 c1 c2 c3 c4 c5 c6 c7 (3,s / 16777216,s % 16777216,16777216)=C (.inl (4,(s+16777216*c3) / 4294967296,(s+16777216*c3) % 4294967296,4294967296)):=by
 show C (aB (zH zI (3+1),zH zI (aD (zH zI (s / 16777216+c3)) 256),zH zJ (s % 16777216+(zH zJ ((zH zJ (bB (zH zI (s / 16777216+c3)) 256))*16777216))),zH zJ (16777216*256)))=_;obtain⟨h1,h2⟩:=nw (k:=s / 16777216) (c:=c3) (n:=s % 16777216) (b:=16777216) (by omega) hc (by omega) (by omega);rw[h1,h2];unfold Sm at hc;rw[show(s / 16777216+c3) / 256=(s+16777216*c3) / 4294967296 by omega,show s % 16777216+(s / 16777216+c3) % 256*16777216=(s+16777216*c3) % 4294967296 by omega];rfl
theorem dz8 (hs:0<=s/\s<=1000000000*4294967296)(hc:Sm c4):gt c0 c1 c2 c3 c4 c5 c6 c7 (4,s / 4294967296,s % 4294967296,4294967296)=C (.inl (5,(s+4294967296*c4) / 1099511627776,(s+4294967296*c4) % 1099511627776,1099511627776)):=by
 show C (aB (zH zI (4+1),zH zI (aD (zH zI (s / 4294967296+c4)) 256),zH zJ (s % 4294967296+(zH zJ ((zH zJ (bB (zH zI (s / 4294967296+c4)) 256))*4294967296))),zH zJ (4294967296*256)))=_;obtain⟨h1,h2⟩:=nw (k:=s / 4294967296) (c:=c4) (n:=s % 4294967296) (b:=4294967296) (by omega) hc (by omega) (by omega);rw[h1,h2];unfold Sm at hc;rw[show(s / 4294967296+c4) / 256=(s+4294967296*c4) / 1099511627776 by omega,show s % 4294967296+(s / 4294967296+c4) % 256*4294967296=(s+4294967296*c4) % 1099511627776 by omega];rfl
theorem dz9 (hs:0<=s/\s<=1000000000*1099511627776)(hc:Sm c5):gt c0 c1 c2 c3 c4 c5 c6 c7 (5,s / 1099511627776,s % 1099511627776,1099511627776)=C (.inl (6,(s+1099511627776*c5) / 281474976710656,(s+1099511627776*c5) % 281474976710656,281474976710656)):=by
 show C (aB (zH zI (5+1),zH zI (aD (zH zI (s / 1099511627776+c5)) 256),zH zJ (s % 1099511627776+(zH zJ ((zH zJ (bB (zH zI (s / 1099511627776+c5)) 256))*1099511627776))),zH zJ (1099511627776*256)))=_;obtain⟨h1,h2⟩:=nw (k:=s / 1099511627776) (c:=c5) (n:=s % 1099511627776) (b:=1099511627776) (by omega) hc (by omega) (by omega);rw[h1,h2];unfold Sm at hc;rw[show(s / 1099511627776+c5) / 256=(s+1099511627776*c5) / 281474976710656 by omega,show s % 1099511627776+(s / 1099511627776+c5) % 256*1099511627776=(s+1099511627776*c5) % 281474976710656 by omega];rfl
theorem dA0 (hs:0<=s/\s<=1000000000*281474976710656)(hc:Sm c6):gt c0 c1 c2 c3 c4 c5 c6 c7 (6,s / 281474976710656,s % 281474976710656,281474976710656)=C (.inl (7,(s+281474976710656*c6) / 72057594037927936,(s+281474976710656*c6) % 72057594037927936,72057594037927936)):=by
 show C (aB (zH zI (6+1),zH zI (aD (zH zI (s / 281474976710656+c6)) 256),zH zJ (s % 281474976710656+(zH zJ ((zH zJ (bB (zH zI (s / 281474976710656+c6)) 256))*281474976710656))),zH zJ (281474976710656*256)))=_;obtain⟨h1,h2⟩:=nw (k:=s / 281474976710656) (c:=c6) (n:=s % 281474976710656) (b:=281474976710656) (by omega) hc (by omega) (by omega);rw[h1,h2];unfold Sm at hc;rw[show(s / 281474976710656+c6) / 256=(s+281474976710656*c6) / 72057594037927936 by omega,show s % 281474976710656+(s / 281474976710656+c6) % 256*281474976710656=(s+281474976710656*c6) % 72057594037927936 by omega];rfl
theorem dA1 (hs:0<=s/\s<=1000000000*72057594037927936)(hc:Sm c7):gt c0 c1 c2 c3 c4 c5 c6 c7 (7,s / 72057594037927936,s % 72057594037927936,72057594037927936)=C (.inl (8,(s+72057594037927936*c7) / 18446744073709551616,(s+72057594037927936*c7) % 18446744073709551616,0)):=by
 show C (aB (zH zI (7+1),zH zI (aD (zH zI (s / 72057594037927936+c7)) 256),zH zJ (s % 72057594037927936+(zH zJ ((zH zJ (bB (zH zI (s / 72057594037927936+c7)) 256))*72057594037927936))),zH zJ (72057594037927936*256)))=_;obtain⟨h1,h2⟩:=nw (k:=s / 72057594037927936) (c:=c7) (n:=s % 72057594037927936) (b:=72057594037927936) (by omega) hc (by omega) (by omega);rw[h1,h2];unfold Sm at hc;rw[show(s / 72057594037927936+c7) / 256=(s+72057594037927936*c7) / 18446744073709551616 by omega,show s % 72057594037927936+(s / 72057594037927936+c7) % 256*72057594037927936=(s+72057594037927936*c7) % 18446744073709551616 by omega];rfl
theorem ba0 (h0:Sm c0)(h1:Sm c1)(h2:Sm c2)(h3:Sm c3)(h4:Sm c4)(h5:Sm c5)(h6:Sm c6)(h7:Sm c7):kX c0 c1 c2 c3 c4 c5 c6 c7=C ((c0+256*c1+65536*c2+16777216*c3+4294967296*c4+1099511627776*c5+281474976710656*c6+72057594037927936*c7) % 18446744073709551616):=by
 unfold kX;have g0:=h0;unfold Sm at g0;have g1:=h1;unfold Sm at g1;have g2:=h2;unfold Sm at g2;have g3:=h3;unfold Sm at g3;have g4:=h4;unfold Sm at g4;have g5:=h5;unfold Sm at g5;have g6:=h6;unfold Sm at g6;have g7:=h7;unfold Sm at g7;have key:=gk ((((((((Reach.one (dz4 (c0:=c0) (c1:=c1) (c2:=c2) (c3:=c3) (c4:=c4) (c5:=c5) (c6:=c6) (c7:=c7) (s:=0) (by omega) h0)).trans (Reach.one (dz5 (by omega) h1))).trans (Reach.one (dz6 (by omega) h2))).trans (Reach.one (dz7 (by omega) h3))).trans (Reach.one (dz8 (by omega) h4))).trans (Reach.one (dz9 (by omega) h5))).trans (Reach.one (dA0 (by omega) h6))).trans (Reach.one (dA1 (by omega) h7))) (by decide) rfl;rw[show((0:Int),(0:Int),(0:Int),(1:Int))=(0,0 / 1,0 % 1,1)from rfl,key];simp only[zG,Int.zero_add,Int.one_mul]
def By (c:Int):Prop:=0<=c/\c<=255
theorem pl1 {x y:Int}(hx:By x)(hy:By y):zH zI (x+y)=x+y:=by unfold By at*;exact bq (by omega)
theorem ng1 {x:Int}(hx:By x):zH zI (255-x)=255-x:=by unfold By at*;exact bq (by omega)
theorem oP {p x y:Int}(hp:0<=p/\p<=1000000)(hx:By x)(hy:By y):zH zI (p+zH zI (x*y))=p+x*y/\0<=x*y/\x*y<=65025:=by
 unfold By at*;have h1:=Int.mul_nonneg hx.1 hy.1;have h2:x*y<=255*255:=Int.mul_le_mul hx.2 hy.2 hy.1 (by omega);rw[bq (n:=x*y) (by omega),bq (n:=p+x*y) (by omega)];exact⟨rfl,h1,by omega⟩
theorem dA5 (h:By d0)(k:By r0):ic (r0,r1,r2,r3,r4,r5,r6,r7) (0,d0,d1,d2,d3,d4,d5,d6,d7)=C (.inl (1,d0+r0,d1,d2,d3,d4,d5,d6,d7)):=by
 show C (aB (zH zI (0+1),zH zI (d0+r0),d1,d2,d3,d4,d5,d6,d7))=_;rw[pl1 h k];rfl
theorem dy5 (h:By d0):i3 (0,d0,d1,d2,d3,d4,d5,d6,d7)=C (.inl (1,255-d0,d1,d2,d3,d4,d5,d6,d7)):=by
 show C (aB (zH zI (0+1),zH zI (255-d0),d1,d2,d3,d4,d5,d6,d7))=_;rw[ng1 h];rfl
theorem dA6 (h:By d1)(k:By r1):ic (r0,r1,r2,r3,r4,r5,r6,r7) (1,d0,d1,d2,d3,d4,d5,d6,d7)=C (.inl (2,d0,d1+r1,d2,d3,d4,d5,d6,d7)):=by
 show C (aB (zH zI (1+1),d0,zH zI (d1+r1),d2,d3,d4,d5,d6,d7))=_;rw[pl1 h k];rfl
theorem dy6 (h:By d1):i3 (1,d0,d1,d2,d3,d4,d5,d6,d7)=C (.inl (2,d0,255-d1,d2,d3,d4,d5,d6,d7)):=by
 show C (aB (zH zI (1+1),d0,zH zI (255-d1),d2,d3,d4,d5,d6,d7))=_;rw[ng1 h];rfl
theorem dA7 (h:By d2)(k:By r2):ic (r0,r1,r2,r3,r4,r5,r6,r7) (2,d0,d1,d2,d3,d4,d5,d6,d7)=C (.inl (3,d0,d1,d2+r2,d3,d4,d5,d6,d7)):=by
 show C (aB (zH zI (2+1),d0,d1,zH zI (d2+r2),d3,d4,d5,d6,d7))=_;rw[pl1 h k];rfl
theorem dy7 (h:By d2):i3 (2,d0,d1,d2,d3,d4,d5,d6,d7)=C (.inl (3,d0,d1,255-d2,d3,d4,d5,d6,d7)):=by
 show C (aB (zH zI (2+1),d0,d1,zH zI (255-d2),d3,d4,d5,d6,d7))=_;rw[ng1 h];rfl
theorem dA8 (h:By d3)(k:By r3):ic (r0,r1,r2,r3,r4,r5,r6,r7) (3,d0,d1,d2,d3,d4,d5,d6,d7)=C (.inl (4,d0,d1,d2,d3+r3,d4,d5,d6,d7)):=by
 show C (aB (zH zI (3+1),d0,d1,d2,zH zI (d3+r3),d4,d5,d6,d7))=_;rw[pl1 h k];rfl
theorem dy8 (h:By d3):i3 (3,d0,d1,d2,d3,d4,d5,d6,d7)=C (.inl (4,d0,d1,d2,255-d3,d4,d5,d6,d7)):=by
 show C (aB (zH zI (3+1),d0,d1,d2,zH zI (255-d3),d4,d5,d6,d7))=_;rw[ng1 h];rfl
theorem dA9 (h:By d4)(k:By r4):ic (r0,r1,r2,r3,r4,r5,r6,r7) (4,d0,d1,d2,d3,d4,d5,d6,d7)=C (.inl (5,d0,d1,d2,d3,d4+r4,d5,d6,d7)):=by
 show C (aB (zH zI (4+1),d0,d1,d2,d3,zH zI (d4+r4),d5,d6,d7))=_;rw[pl1 h k];rfl
theorem dy9 (h:By d4):i3 (4,d0,d1,d2,d3,d4,d5,d6,d7)=C (.inl (5,d0,d1,d2,d3,255-d4,d5,d6,d7)):=by
 show C (aB (zH zI (4+1),d0,d1,d2,d3,zH zI (255-d4),d5,d6,d7))=_;rw[ng1 h];rfl
theorem dB0 (h:By d5)(k:By r5):ic (r0,r1,r2,r3,r4,r5,r6,r7) (5,d0,d1,d2,d3,d4,d5,d6,d7)=C (.inl (6,d0,d1,d2,d3,d4,d5+r5,d6,d7)):=by
 show C (aB (zH zI (5+1),d0,d1,d2,d3,d4,zH zI (d5+r5),d6,d7))=_;rw[pl1 h k];rfl
theorem dz0 (h:By d5):i3 (5,d0,d1,d2,d3,d4,d5,d6,d7)=C (.inl (6,d0,d1,d2,d3,d4,255-d5,d6,d7)):=by
 show C (aB (zH zI (5+1),d0,d1,d2,d3,d4,zH zI (255-d5),d6,d7))=_;rw[ng1 h];rfl
theorem dB1 (h:By d6)(k:By r6):ic (r0,r1,r2,r3,r4,r5,r6,r7) (6,d0,d1,d2,d3,d4,d5,d6,d7)=C (.inl (7,d0,d1,d2,d3,d4,d5,d6+r6,d7)):=by
 show C (aB (zH zI (6+1),d0,d1,d2,d3,d4,d5,zH zI (d6+r6),d7))=_;rw[pl1 h k];rfl
theorem dz1 (h:By d6):i3 (6,d0,d1,d2,d3,d4,d5,d6,d7)=C (.inl (7,d0,d1,d2,d3,d4,d5,255-d6,d7)):=by
 show C (aB (zH zI (6+1),d0,d1,d2,d3,d4,d5,zH zI (255-d6),d7))=_;rw[ng1 h];rfl
theorem dB2 (h:By d7)(k:By r7):ic (r0,r1,r2,r3,r4,r5,r6,r7) (7,d0,d1,d2,d3,d4,d5,d6,d7)=C (.inl (8,d0,d1,d2,d3,d4,d5,d6,d7+r7)):=by
 show C (aB (zH zI (7+1),d0,d1,d2,d3,d4,d5,d6,zH zI (d7+r7)))=_;rw[pl1 h k];rfl
theorem dz2 (h:By d7):i3 (7,d0,d1,d2,d3,d4,d5,d6,d7)=C (.inl (8,d0,d1,d2,d3,d4,d5,d6,255-d7)):=by
 show C (aB (zH zI (7+1),d0,d1,d2,d3,d4,d5,d6,zH zI (255-d7)))=_;rw[ng1 h];rfl
theorem nh (x:Int):By (x % 256):=by unfold By;omega
theorem uk {a b:Int}(ha:du a)(hb:du b):jy a b=C (zH zJ (a+b)):=by
 unfold jy;rw[ae5 ha,ae5 hb];simp only[zG,dgs];have key:ca (ic (b % 256,b / 256 % 256,b / 65536 % 256,b / 16777216 % 256,b / 4294967296 % 256,b / 1099511627776 % 256,b / 281474976710656 % 256,b / 72057594037927936 % 256)) dq (0,a % 256,a / 256 % 256,a / 65536 % 256,a / 16777216 % 256,a / 4294967296 % 256,a / 1099511627776 % 256,a / 281474976710656 % 256,a / 72057594037927936 % 256)=C (a % 256+b % 256,a / 256 % 256+b / 256 % 256,a / 65536 % 256+b / 65536 % 256,a / 16777216 % 256+b / 16777216 % 256,a / 4294967296 % 256+b / 4294967296 % 256,a / 1099511627776 % 256+b / 1099511627776 % 256,a / 281474976710656 % 256+b / 281474976710656 % 256,a / 72057594037927936 % 256+b / 72057594037927936 % 256):=gk ((((((((Reach.one (dA5 (nh _) (nh _))).trans (Reach.one (dA6 (nh _) (nh _)))).trans (Reach.one (dA7 (nh _) (nh _)))).trans (Reach.one (dA8 (nh _) (nh _)))).trans (Reach.one (dA9 (nh _) (nh _)))).trans (Reach.one (dB0 (nh _) (nh _)))).trans (Reach.one (dB1 (nh _) (nh _)))).trans (Reach.one (dB2 (nh _) (nh _)))) (by decide) rfl
 rw[key];simp only[zG];rw[ba0 (by unfold Sm;omega) (by unfold Sm;omega) (by unfold Sm;omega) (by unfold Sm;omega) (by unfold Sm;omega) (by unfold Sm;omega) (by unfold Sm;omega) (by unfold Sm;omega)];simp only[zG];unfold du at ha hb;rw[wU]
 congr 1
 have e: ∀x:Int,0<=x/\x<18446744073709551616->x=x % 256+256*(x / 256 % 256)+65536*(x / 65536 % 256)+16777216*(x / 16777216 % 256)+4294967296*(x / 4294967296 % 256)+1099511627776*(x / 1099511627776 % 256)+281474976710656*(x / 281474976710656 % 256)+72057594037927936*(x / 72057594037927936 % 256):=λx h=>by omega
 have ea:=e a ha;have eb:=e b hb;generalize a % 256=a0 at*;generalize a / 256 % 256=a1 at*;generalize a / 65536 % 256=a2 at*;generalize a / 16777216 % 256=a3 at*;generalize a / 4294967296 % 256=a4 at*;generalize a / 1099511627776 % 256=a5 at*;generalize a / 281474976710656 % 256=a6 at*;generalize a / 72057594037927936 % 256=a7 at*;generalize b % 256=b0 at*;generalize b / 256 % 256=b1 at*;generalize b / 65536 % 256=b2 at*;generalize b / 16777216 % 256=b3 at*;generalize b / 4294967296 % 256=b4 at*;generalize b / 1099511627776 % 256=b5 at*;generalize b / 281474976710656 % 256=b6 at*;generalize b / 72057594037927936 % 256=b7 at*;omega
theorem ba7 {a:Int}(ha:du a):rL a=C (zH zJ (-a)):=by
 unfold rL;rw[ae5 ha];simp only[zG,dgs];have key:ca i3 dq (0,a % 256,a / 256 % 256,a / 65536 % 256,a / 16777216 % 256,a / 4294967296 % 256,a / 1099511627776 % 256,a / 281474976710656 % 256,a / 72057594037927936 % 256)=C (255-a % 256,255-a / 256 % 256,255-a / 65536 % 256,255-a / 16777216 % 256,255-a / 4294967296 % 256,255-a / 1099511627776 % 256,255-a / 281474976710656 % 256,255-a / 72057594037927936 % 256):=gk ((((((((Reach.one (dy5 (nh _))).trans (Reach.one (dy6 (nh _)))).trans (Reach.one (dy7 (nh _)))).trans (Reach.one (dy8 (nh _)))).trans (Reach.one (dy9 (nh _)))).trans (Reach.one (dz0 (nh _)))).trans (Reach.one (dz1 (nh _)))).trans (Reach.one (dz2 (nh _)))) (by decide) rfl;rw[key];simp only[zG];rw[bq (n:=255-a % 256+1) (by omega),ba0 (by unfold Sm;omega) (by unfold Sm;omega) (by unfold Sm;omega) (by unfold Sm;omega) (by unfold Sm;omega) (by unfold Sm;omega) (by unfold Sm;omega) (by unfold Sm;omega)]
 simp only[zG];unfold du at ha;rw[wU]
 congr 1
 have ea:a=a % 256+256*(a / 256 % 256)+65536*(a / 65536 % 256)+16777216*(a / 16777216 % 256)+4294967296*(a / 4294967296 % 256)+1099511627776*(a / 1099511627776 % 256)+281474976710656*(a / 281474976710656 % 256)+72057594037927936*(a / 72057594037927936 % 256):=by omega
 generalize a % 256=a0 at*;generalize a / 256 % 256=a1 at*;generalize a / 65536 % 256=a2 at*;generalize a / 16777216 % 256=a3 at*;generalize a / 4294967296 % 256=a4 at*;generalize a / 1099511627776 % 256=a5 at*;generalize a / 281474976710656 % 256=a6 at*;generalize a / 72057594037927936 % 256=a7 at*;omega
theorem dj6 (hp:0<=p0/\p0<=1000000)(hx:By x0)(hy:By y0):bw (x0,x1,x2,x3,x4,x5,x6,x7) (y0,y1,y2,y3,y4,y5,y6,y7) 0 (0,p0,p1,p2,p3,p4,p5,p6,p7)=C (.inl (1,p0+x0*y0,p1,p2,p3,p4,p5,p6,p7)):=by
 show C (aB (zH zI (0+1),zH zI (p0+zH zI (x0*y0)),p1,p2,p3,p4,p5,p6,p7))=_;rw[(oP hp hx hy).1];rfl
theorem dj7 (hp:0<=p1/\p1<=1000000)(hx:By x0)(hy:By y1):bw (x0,x1,x2,x3,x4,x5,x6,x7) (y0,y1,y2,y3,y4,y5,y6,y7) 0 (1,p0,p1,p2,p3,p4,p5,p6,p7)=C (.inl (2,p0,p1+x0*y1,p2,p3,p4,p5,p6,p7)):=by
 show C (aB (zH zI (1+1),p0,zH zI (p1+zH zI (x0*y1)),p2,p3,p4,p5,p6,p7))=_;rw[(oP hp hx hy).1];rfl
theorem dj8 (hp:0<=p2/\p2<=1000000)(hx:By x0)(hy:By y2):bw (x0,x1,x2,x3,x4,x5,x6,x7) (y0,y1,y2,y3,y4,y5,y6,y7) 0 (2,p0,p1,p2,p3,p4,p5,p6,p7)=C (.inl (3,p0,p1,p2+x0*y2,p3,p4,p5,p6,p7)):=by
 show C (aB (zH zI (2+1),p0,p1,zH zI (p2+zH zI (x0*y2)),p3,p4,p5,p6,p7))=_;rw[(oP hp hx hy).1];rfl
theorem dj9 (hp:0<=p3/\p3<=1000000)(hx:By x0)(hy:By y3):bw (x0,x1,x2,x3,x4,x5,x6,x7) (y0,y1,y2,y3,y4,y5,y6,y7) 0 (3,p0,p1,p2,p3,p4,p5,p6,p7)=C (.inl (4,p0,p1,p2,p3+x0*y3,p4,p5,p6,p7)):=by
 show C (aB (zH zI (3+1),p0,p1,p2,zH zI (p3+zH zI (x0*y3)),p4,p5,p6,p7))=_;rw[(oP hp hx hy).1];rfl
theorem dk0 (hp:0<=p4/\p4<=1000000)(hx:By x0)(hy:By y4):bw (x0,x1,x2,x3,x4,x5,x6,x7) (y0,y1,y2,y3,y4,y5,y6,y7) 0 (4,p0,p1,p2,p3,p4,p5,p6,p7)=C (.inl (5,p0,p1,p2,p3,p4+x0*y4,p5,p6,p7)):=by
 show C (aB (zH zI (4+1),p0,p1,p2,p3,zH zI (p4+zH zI (x0*y4)),p5,p6,p7))=_;rw[(oP hp hx hy).1];rfl
theorem dk1 (hp:0<=p5/\p5<=1000000)(hx:By x0)(hy:By y5):bw (x0,x1,x2,x3,x4,x5,x6,x7) (y0,y1,y2,y3,y4,y5,y6,y7) 0 (5,p0,p1,p2,p3,p4,p5,p6,p7)=C (.inl (6,p0,p1,p2,p3,p4,p5+x0*y5,p6,p7)):=by
 show C (aB (zH zI (5+1),p0,p1,p2,p3,p4,zH zI (p5+zH zI (x0*y5)),p6,p7))=_;rw[(oP hp hx hy).1];rfl
theorem dk2 (hp:0<=p6/\p6<=1000000)(hx:By x0)(hy:By y6):bw (x0,x1,x2,x3,x4,x5,x6,x7) (y0,y1,y2,y3,y4,y5,y6,y7) 0 (6,p0,p1,p2,p3,p4,p5,p6,p7)=C (.inl (7,p0,p1,p2,p3,p4,p5,p6+x0*y6,p7)):=by
 show C (aB (zH zI (6+1),p0,p1,p2,p3,p4,p5,zH zI (p6+zH zI (x0*y6)),p7))=_;rw[(oP hp hx hy).1];rfl
theorem dk3 (hp:0<=p7/\p7<=1000000)(hx:By x0)(hy:By y7):bw (x0,x1,x2,x3,x4,x5,x6,x7) (y0,y1,y2,y3,y4,y5,y6,y7) 0 (7,p0,p1,p2,p3,p4,p5,p6,p7)=C (.inl (8,p0,p1,p2,p3,p4,p5,p6,p7+x0*y7)):=by
 show C (aB (zH zI (7+1),p0,p1,p2,p3,p4,p5,p6,zH zI (p7+zH zI (x0*y7))))=_;rw[(oP hp hx hy).1];rfl
theorem dB3 (h0:0<=p0/\p0<=1000000)(h1:0<=p1/\p1<=1000000)(h2:0<=p2/\p2<=1000000)(h3:0<=p3/\p3<=1000000)(h4:0<=p4/\p4<=1000000)(h5:0<=p5/\p5<=1000000)(h6:0<=p6/\p6<=1000000)(h7:0<=p7/\p7<=1000000)(hx:By x0)(k0:By y0)(k1:By y1)(k2:By y2)(k3:By y3)(k4:By y4)(k5:By y5)(k6:By y6)(k7:By y7):fm (x0,x1,x2,x3,x4,x5,x6,x7) (y0,y1,y2,y3,y4,y5,y6,y7) (0,p0,p1,p2,p3,p4,p5,p6,p7)=C (.inl (1,p0+x0*y0,p1+x0*y1,p2+x0*y2,p3+x0*y3,p4+x0*y4,p5+x0*y5,p6+x0*y6,p7+x0*y7)):=by
 have key:ca (bw (x0,x1,x2,x3,x4,x5,x6,x7) (y0,y1,y2,y3,y4,y5,y6,y7) 0) dq (0,p0,p1,p2,p3,p4,p5,p6,p7)=C (p0+x0*y0,p1+x0*y1,p2+x0*y2,p3+x0*y3,p4+x0*y4,p5+x0*y5,p6+x0*y6,p7+x0*y7):=gk ((((((((Reach.one (dj6 h0 hx k0)).trans (Reach.one (dj7 h1 hx k1))).trans (Reach.one (dj8 h2 hx k2))).trans (Reach.one (dj9 h3 hx k3))).trans (Reach.one (dk0 h4 hx k4))).trans (Reach.one (dk1 h5 hx k5))).trans (Reach.one (dk2 h6 hx k6))).trans (Reach.one (dk3 h7 hx k7))) (by decide) rfl;show(ca (bw (x0,x1,x2,x3,x4,x5,x6,x7) (y0,y1,y2,y3,y4,y5,y6,y7) 0) dq (0,p0,p1,p2,p3,p4,p5,p6,p7)).bind (λr=>C (aB (zH zI (0+1),r.1,r.2.1,r.2.2.1,r.2.2.2.1,r.2.2.2.2.1,r.2.2.2.2.2.1,r.2.2.2.2.2.2.1,r.2.2.2.2.2.2.2)))=_;rw[key];rfl
theorem dk4 (hp:0<=p1/\p1<=1000000)(hx:By x1)(hy:By y0):bw (x0,x1,x2,x3,x4,x5,x6,x7) (y0,y1,y2,y3,y4,y5,y6,y7) 1 (0,p0,p1,p2,p3,p4,p5,p6,p7)=C (.inl (1,p0,p1+x1*y0,p2,p3,p4,p5,p6,p7)):=by
 show C (aB (zH zI (0+1),p0,zH zI (p1+zH zI (x1*y0)),p2,p3,p4,p5,p6,p7))=_;rw[(oP hp hx hy).1];rfl
theorem dk5 (hp:0<=p2/\p2<=1000000)(hx:By x1)(hy:By y1):bw (x0,x1,x2,x3,x4,x5,x6,x7) (y0,y1,y2,y3,y4,y5,y6,y7) 1 (1,p0,p1,p2,p3,p4,p5,p6,p7)=C (.inl (2,p0,p1,p2+x1*y1,p3,p4,p5,p6,p7)):=by
 show C (aB (zH zI (1+1),p0,p1,zH zI (p2+zH zI (x1*y1)),p3,p4,p5,p6,p7))=_;rw[(oP hp hx hy).1];rfl
theorem dk6 (hp:0<=p3/\p3<=1000000)(hx:By x1)(hy:By y2):bw (x0,x1,x2,x3,x4,x5,x6,x7) (y0,y1,y2,y3,y4,y5,y6,y7) 1 (2,p0,p1,p2,p3,p4,p5,p6,p7)=C (.inl (3,p0,p1,p2,p3+x1*y2,p4,p5,p6,p7)):=by
 show C (aB (zH zI (2+1),p0,p1,p2,zH zI (p3+zH zI (x1*y2)),p4,p5,p6,p7))=_;rw[(oP hp hx hy).1];rfl
theorem dk7 (hp:0<=p4/\p4<=1000000)(hx:By x1)(hy:By y3):bw (x0,x1,x2,x3,x4,x5,x6,x7) (y0,y1,y2,y3,y4,y5,y6,y7) 1 (3,p0,p1,p2,p3,p4,p5,p6,p7)=C (.inl (4,p0,p1,p2,p3,p4+x1*y3,p5,p6,p7)):=by
 show C (aB (zH zI (3+1),p0,p1,p2,p3,zH zI (p4+zH zI (x1*y3)),p5,p6,p7))=_;rw[(oP hp hx hy).1];rfl
theorem dk8 (hp:0<=p5/\p5<=1000000)(hx:By x1)(hy:By y4):bw (x0,x1,x2,x3,x4,x5,x6,x7) (y0,y1,y2,y3,y4,y5,y6,y7) 1 (4,p0,p1,p2,p3,p4,p5,p6,p7)=C (.inl (5,p0,p1,p2,p3,p4,p5+x1*y4,p6,p7)):=by
 show C (aB (zH zI (4+1),p0,p1,p2,p3,p4,zH zI (p5+zH zI (x1*y4)),p6,p7))=_;rw[(oP hp hx hy).1];rfl
theorem dk9 (hp:0<=p6/\p6<=1000000)(hx:By x1)(hy:By y5):bw (x0,x1,x2,x3,x4,x5,x6,x7) (y0,y1,y2,y3,y4,y5,y6,y7) 1 (5,p0,p1,p2,p3,p4,p5,p6,p7)=C (.inl (6,p0,p1,p2,p3,p4,p5,p6+x1*y5,p7)):=by
 show C (aB (zH zI (5+1),p0,p1,p2,p3,p4,p5,zH zI (p6+zH zI (x1*y5)),p7))=_;rw[(oP hp hx hy).1];rfl
theorem dl0 (hp:0<=p7/\p7<=1000000)(hx:By x1)(hy:By y6):bw (x0,x1,x2,x3,x4,x5,x6,x7) (y0,y1,y2,y3,y4,y5,y6,y7) 1 (6,p0,p1,p2,p3,p4,p5,p6,p7)=C (.inl (7,p0,p1,p2,p3,p4,p5,p6,p7+x1*y6)):=by
 show C (aB (zH zI (6+1),p0,p1,p2,p3,p4,p5,p6,zH zI (p7+zH zI (x1*y6))))=_;rw[(oP hp hx hy).1];rfl
theorem dB4 (h1:0<=p1/\p1<=1000000)(h2:0<=p2/\p2<=1000000)(h3:0<=p3/\p3<=1000000)(h4:0<=p4/\p4<=1000000)(h5:0<=p5/\p5<=1000000)(h6:0<=p6/\p6<=1000000)(h7:0<=p7/\p7<=1000000)(hx:By x1)(k0:By y0)(k1:By y1)(k2:By y2)(k3:By y3)(k4:By y4)(k5:By y5)(k6:By y6):fm (x0,x1,x2,x3,x4,x5,x6,x7) (y0,y1,y2,y3,y4,y5,y6,y7) (1,p0,p1,p2,p3,p4,p5,p6,p7)=C (.inl (2,p0,p1+x1*y0,p2+x1*y1,p3+x1*y2,p4+x1*y3,p5+x1*y4,p6+x1*y5,p7+x1*y6)):=by
 have key:ca (bw (x0,x1,x2,x3,x4,x5,x6,x7) (y0,y1,y2,y3,y4,y5,y6,y7) 1) dq (0,p0,p1,p2,p3,p4,p5,p6,p7)=C (p0,p1+x1*y0,p2+x1*y1,p3+x1*y2,p4+x1*y3,p5+x1*y4,p6+x1*y5,p7+x1*y6):=gk (((((((Reach.one (dk4 h1 hx k0)).trans (Reach.one (dk5 h2 hx k1))).trans (Reach.one (dk6 h3 hx k2))).trans (Reach.one (dk7 h4 hx k3))).trans (Reach.one (dk8 h5 hx k4))).trans (Reach.one (dk9 h6 hx k5))).trans (Reach.one (dl0 h7 hx k6))) (by decide) rfl;show(ca (bw (x0,x1,x2,x3,x4,x5,x6,x7) (y0,y1,y2,y3,y4,y5,y6,y7) 1) dq (0,p0,p1,p2,p3,p4,p5,p6,p7)).bind (λr=>C (aB (zH zI (1+1),r.1,r.2.1,r.2.2.1,r.2.2.2.1,r.2.2.2.2.1,r.2.2.2.2.2.1,r.2.2.2.2.2.2.1,r.2.2.2.2.2.2.2)))=_;rw[key];rfl
theorem dl1 (hp:0<=p2/\p2<=1000000)(hx:By x2)(hy:By y0):bw (x0,x1,x2,x3,x4,x5,x6,x7) (y0,y1,y2,y3,y4,y5,y6,y7) 2 (0,p0,p1,p2,p3,p4,p5,p6,p7)=C (.inl (1,p0,p1,p2+x2*y0,p3,p4,p5,p6,p7)):=by
 show C (aB (zH zI (0+1),p0,p1,zH zI (p2+zH zI (x2*y0)),p3,p4,p5,p6,p7))=_;rw[(oP hp hx hy).1];rfl
theorem dl2 (hp:0<=p3/\p3<=1000000)(hx:By x2)(hy:By y1):bw (x0,x1,x2,x3,x4,x5,x6,x7) (y0,y1,y2,y3,y4,y5,y6,y7) 2 (1,p0,p1,p2,p3,p4,p5,p6,p7)=C (.inl (2,p0,p1,p2,p3+x2*y1,p4,p5,p6,p7)):=by
 show C (aB (zH zI (1+1),p0,p1,p2,zH zI (p3+zH zI (x2*y1)),p4,p5,p6,p7))=_;rw[(oP hp hx hy).1];rfl
theorem dl3 (hp:0<=p4/\p4<=1000000)(hx:By x2)(hy:By y2):bw (x0,x1,x2,x3,x4,x5,x6,x7) (y0,y1,y2,y3,y4,y5,y6,y7) 2 (2,p0,p1,p2,p3,p4,p5,p6,p7)=C (.inl (3,p0,p1,p2,p3,p4+x2*y2,p5,p6,p7)):=by
 show C (aB (zH zI (2+1),p0,p1,p2,p3,zH zI (p4+zH zI (x2*y2)),p5,p6,p7))=_;rw[(oP hp hx hy).1];rfl
theorem dl4 (hp:0<=p5/\p5<=1000000)(hx:By x2)(hy:By y3):bw (x0,x1,x2,x3,x4,x5,x6,x7) (y0,y1,y2,y3,y4,y5,y6,y7) 2 (3,p0,p1,p2,p3,p4,p5,p6,p7)=C (.inl (4,p0,p1,p2,p3,p4,p5+x2*y3,p6,p7)):=by
 show C (aB (zH zI (3+1),p0,p1,p2,p3,p4,zH zI (p5+zH zI (x2*y3)),p6,p7))=_;rw[(oP hp hx hy).1];rfl
theorem dl5 (hp:0<=p6/\p6<=1000000)(hx:By x2)(hy:By y4):bw (x0,x1,x2,x3,x4,x5,x6,x7) (y0,y1,y2,y3,y4,y5,y6,y7) 2 (4,p0,p1,p2,p3,p4,p5,p6,p7)=C (.inl (5,p0,p1,p2,p3,p4,p5,p6+x2*y4,p7)):=by
 show C (aB (zH zI (4+1),p0,p1,p2,p3,p4,p5,zH zI (p6+zH zI (x2*y4)),p7))=_;rw[(oP hp hx hy).1];rfl
theorem dl6 (hp:0<=p7/\p7<=1000000)(hx:By x2)(hy:By y5):bw (x0,x1,x2,x3,x4,x5,x6,x7) (y0,y1,y2,y3,y4,y5,y6,y7) 2 (5,p0,p1,p2,p3,p4,p5,p6,p7)=C (.inl (6,p0,p1,p2,p3,p4,p5,p6,p7+x2*y5)):=by
 show C (aB (zH zI (5+1),p0,p1,p2,p3,p4,p5,p6,zH zI (p7+zH zI (x2*y5))))=_;rw[(oP hp hx hy).1];rfl
theorem dB5 (h2:0<=p2/\p2<=1000000)(h3:0<=p3/\p3<=1000000)(h4:0<=p4/\p4<=1000000)(h5:0<=p5/\p5<=1000000)(h6:0<=p6/\p6<=1000000)(h7:0<=p7/\p7<=1000000)(hx:By x2)(k0:By y0)(k1:By y1)(k2:By y2)(k3:By y3)(k4:By y4)(k5:By y5):fm (x0,x1,x2,x3,x4,x5,x6,x7) (y0,y1,y2,y3,y4,y5,y6,y7) (2,p0,p1,p2,p3,p4,p5,p6,p7)=C (.inl (3,p0,p1,p2+x2*y0,p3+x2*y1,p4+x2*y2,p5+x2*y3,p6+x2*y4,p7+x2*y5)):=by
 have key:ca (bw (x0,x1,x2,x3,x4,x5,x6,x7) (y0,y1,y2,y3,y4,y5,y6,y7) 2) dq (0,p0,p1,p2,p3,p4,p5,p6,p7)=C (p0,p1,p2+x2*y0,p3+x2*y1,p4+x2*y2,p5+x2*y3,p6+x2*y4,p7+x2*y5):=gk ((((((Reach.one (dl1 h2 hx k0)).trans (Reach.one (dl2 h3 hx k1))).trans (Reach.one (dl3 h4 hx k2))).trans (Reach.one (dl4 h5 hx k3))).trans (Reach.one (dl5 h6 hx k4))).trans (Reach.one (dl6 h7 hx k5))) (by decide) rfl;show(ca (bw (x0,x1,x2,x3,x4,x5,x6,x7) (y0,y1,y2,y3,y4,y5,y6,y7) 2) dq (0,p0,p1,p2,p3,p4,p5,p6,p7)).bind (λr=>C (aB (zH zI (2+1),r.1,r.2.1,r.2.2.1,r.2.2.2.1,r.2.2.2.2.1,r.2.2.2.2.2.1,r.2.2.2.2.2.2.1,r.2.2.2.2.2.2.2)))=_;rw[key];rfl
theorem dl7 (hp:0<=p3/\p3<=1000000)(hx:By x3)(hy:By y0):bw (x0,x1,x2,x3,x4,x5,x6,x7) (y0,y1,y2,y3,y4,y5,y6,y7) 3 (0,p0,p1,p2,p3,p4,p5,p6,p7)=C (.inl (1,p0,p1,p2,p3+x3*y0,p4,p5,p6,p7)):=by
 show C (aB (zH zI (0+1),p0,p1,p2,zH zI (p3+zH zI (x3*y0)),p4,p5,p6,p7))=_;rw[(oP hp hx hy).1];rfl
theorem dl8 (hp:0<=p4/\p4<=1000000)(hx:By x3)(hy:By y1):bw (x0,x1,x2,x3,x4,x5,x6,x7) (y0,y1,y2,y3,y4,y5,y6,y7) 3 (1,p0,p1,p2,p3,p4,p5,p6,p7)=C (.inl (2,p0,p1,p2,p3,p4+x3*y1,p5,p6,p7)):=by
 show C (aB (zH zI (1+1),p0,p1,p2,p3,zH zI (p4+zH zI (x3*y1)),p5,p6,p7))=_;rw[(oP hp hx hy).1];rfl
theorem dl9 (hp:0<=p5/\p5<=1000000)(hx:By x3)(hy:By y2):bw (x0,x1,x2,x3,x4,x5,x6,x7) (y0,y1,y2,y3,y4,y5,y6,y7) 3 (2,p0,p1,p2,p3,p4,p5,p6,p7)=C (.inl (3,p0,p1,p2,p3,p4,p5+x3*y2,p6,p7)):=by
 show C (aB (zH zI (2+1),p0,p1,p2,p3,p4,zH zI (p5+zH zI (x3*y2)),p6,p7))=_;rw[(oP hp hx hy).1];rfl
theorem dm0 (hp:0<=p6/\p6<=1000000)(hx:By x3)(hy:By y3):bw (x0,x1,x2,x3,x4,x5,x6,x7) (y0,y1,y2,y3,y4,y5,y6,y7) 3 (3,p0,p1,p2,p3,p4,p5,p6,p7)=C (.inl (4,p0,p1,p2,p3,p4,p5,p6+x3*y3,p7)):=by
 show C (aB (zH zI (3+1),p0,p1,p2,p3,p4,p5,zH zI (p6+zH zI (x3*y3)),p7))=_;rw[(oP hp hx hy).1];rfl
theorem dm1 (hp:0<=p7/\p7<=1000000)(hx:By x3)(hy:By y4):bw (x0,x1,x2,x3,x4,x5,x6,x7) (y0,y1,y2,y3,y4,y5,y6,y7) 3 (4,p0,p1,p2,p3,p4,p5,p6,p7)=C (.inl (5,p0,p1,p2,p3,p4,p5,p6,p7+x3*y4)):=by
 show C (aB (zH zI (4+1),p0,p1,p2,p3,p4,p5,p6,zH zI (p7+zH zI (x3*y4))))=_;rw[(oP hp hx hy).1];rfl
theorem dB6 (h3:0<=p3/\p3<=1000000)(h4:0<=p4/\p4<=1000000)(h5:0<=p5/\p5<=1000000)(h6:0<=p6/\p6<=1000000)(h7:0<=p7/\p7<=1000000)(hx:By x3)(k0:By y0)(k1:By y1)(k2:By y2)(k3:By y3)(k4:By y4):fm (x0,x1,x2,x3,x4,x5,x6,x7) (y0,y1,y2,y3,y4,y5,y6,y7) (3,p0,p1,p2,p3,p4,p5,p6,p7)=C (.inl (4,p0,p1,p2,p3+x3*y0,p4+x3*y1,p5+x3*y2,p6+x3*y3,p7+x3*y4)):=by
 have key:ca (bw (x0,x1,x2,x3,x4,x5,x6,x7) (y0,y1,y2,y3,y4,y5,y6,y7) 3) dq (0,p0,p1,p2,p3,p4,p5,p6,p7)=C (p0,p1,p2,p3+x3*y0,p4+x3*y1,p5+x3*y2,p6+x3*y3,p7+x3*y4):=gk (((((Reach.one (dl7 h3 hx k0)).trans (Reach.one (dl8 h4 hx k1))).trans (Reach.one (dl9 h5 hx k2))).trans (Reach.one (dm0 h6 hx k3))).trans (Reach.one (dm1 h7 hx k4))) (by decide) rfl;show(ca (bw (x0,x1,x2,x3,x4,x5,x6,x7) (y0,y1,y2,y3,y4,y5,y6,y7) 3) dq (0,p0,p1,p2,p3,p4,p5,p6,p7)).bind (λr=>C (aB (zH zI (3+1),r.1,r.2.1,r.2.2.1,r.2.2.2.1,r.2.2.2.2.1,r.2.2.2.2.2.1,r.2.2.2.2.2.2.1,r.2.2.2.2.2.2.2)))=_;rw[key];rfl
theorem dm2 (hp:0<=p4/\p4<=1000000)(hx:By x4)(hy:By y0):bw (x0,x1,x2,x3,x4,x5,x6,x7) (y0,y1,y2,y3,y4,y5,y6,y7) 4 (0,p0,p1,p2,p3,p4,p5,p6,p7)=C (.inl (1,p0,p1,p2,p3,p4+x4*y0,p5,p6,p7)):=by
 show C (aB (zH zI (0+1),p0,p1,p2,p3,zH zI (p4+zH zI (x4*y0)),p5,p6,p7))=_;rw[(oP hp hx hy).1];rfl
theorem dm3 (hp:0<=p5/\p5<=1000000)(hx:By x4)(hy:By y1):bw (x0,x1,x2,x3,x4,x5,x6,x7) (y0,y1,y2,y3,y4,y5,y6,y7) 4 (1,p0,p1,p2,p3,p4,p5,p6,p7)=C (.inl (2,p0,p1,p2,p3,p4,p5+x4*y1,p6,p7)):=by
 show C (aB (zH zI (1+1),p0,p1,p2,p3,p4,zH zI (p5+zH zI (x4*y1)),p6,p7))=_;rw[(oP hp hx hy).1];rfl
theorem dm4 (hp:0<=p6/\p6<=1000000)(hx:By x4)(hy:By y2):bw (x0,x1,x2,x3,x4,x5,x6,x7) (y0,y1,y2,y3,y4,y5,y6,y7) 4 (2,p0,p1,p2,p3,p4,p5,p6,p7)=C (.inl (3,p0,p1,p2,p3,p4,p5,p6+x4*y2,p7)):=by
 show C (aB (zH zI (2+1),p0,p1,p2,p3,p4,p5,zH zI (p6+zH zI (x4*y2)),p7))=_;rw[(oP hp hx hy).1];rfl
theorem dm5 (hp:0<=p7/\p7<=1000000)(hx:By x4)(hy:By y3):bw (x0,x1,x2,x3,x4,x5,x6,x7) (y0,y1,y2,y3,y4,y5,y6,y7) 4 (3,p0,p1,p2,p3,p4,p5,p6,p7)=C (.inl (4,p0,p1,p2,p3,p4,p5,p6,p7+x4*y3)):=by
 show C (aB (zH zI (3+1),p0,p1,p2,p3,p4,p5,p6,zH zI (p7+zH zI (x4*y3))))=_;rw[(oP hp hx hy).1];rfl
theorem dB7 (h4:0<=p4/\p4<=1000000)(h5:0<=p5/\p5<=1000000)(h6:0<=p6/\p6<=1000000)(h7:0<=p7/\p7<=1000000)(hx:By x4)(k0:By y0)(k1:By y1)(k2:By y2)(k3:By y3):fm (x0,x1,x2,x3,x4,x5,x6,x7) (y0,y1,y2,y3,y4,y5,y6,y7) (4,p0,p1,p2,p3,p4,p5,p6,p7)=C (.inl (5,p0,p1,p2,p3,p4+x4*y0,p5+x4*y1,p6+x4*y2,p7+x4*y3)):=by
 have key:ca (bw (x0,x1,x2,x3,x4,x5,x6,x7) (y0,y1,y2,y3,y4,y5,y6,y7) 4) dq (0,p0,p1,p2,p3,p4,p5,p6,p7)=C (p0,p1,p2,p3,p4+x4*y0,p5+x4*y1,p6+x4*y2,p7+x4*y3):=gk ((((Reach.one (dm2 h4 hx k0)).trans (Reach.one (dm3 h5 hx k1))).trans (Reach.one (dm4 h6 hx k2))).trans (Reach.one (dm5 h7 hx k3))) (by decide) rfl;show(ca (bw (x0,x1,x2,x3,x4,x5,x6,x7) (y0,y1,y2,y3,y4,y5,y6,y7) 4) dq (0,p0,p1,p2,p3,p4,p5,p6,p7)).bind (λr=>C (aB (zH zI (4+1),r.1,r.2.1,r.2.2.1,r.2.2.2.1,r.2.2.2.2.1,r.2.2.2.2.2.1,r.2.2.2.2.2.2.1,r.2.2.2.2.2.2.2)))=_;rw[key];rfl
theorem dm6 (hp:0<=p5/\p5<=1000000)(hx:By x5)(hy:By y0):bw (x0,x1,x2,x3,x4,x5,x6,x7) (y0,y1,y2,y3,y4,y5,y6,y7) 5 (0,p0,p1,p2,p3,p4,p5,p6,p7)=C (.inl (1,p0,p1,p2,p3,p4,p5+x5*y0,p6,p7)):=by
 show C (aB (zH zI (0+1),p0,p1,p2,p3,p4,zH zI (p5+zH zI (x5*y0)),p6,p7))=_;rw[(oP hp hx hy).1];rfl
theorem dm7 (hp:0<=p6/\p6<=1000000)(hx:By x5)(hy:By y1):bw (x0,x1,x2,x3,x4,x5,x6,x7) (y0,y1,y2,y3,y4,y5,y6,y7) 5 (1,p0,p1,p2,p3,p4,p5,p6,p7)=C (.inl (2,p0,p1,p2,p3,p4,p5,p6+x5*y1,p7)):=by
 show C (aB (zH zI (1+1),p0,p1,p2,p3,p4,p5,zH zI (p6+zH zI (x5*y1)),p7))=_;rw[(oP hp hx hy).1];rfl
theorem dm8 (hp:0<=p7/\p7<=1000000)(hx:By x5)(hy:By y2):bw (x0,x1,x2,x3,x4,x5,x6,x7) (y0,y1,y2,y3,y4,y5,y6,y7) 5 (2,p0,p1,p2,p3,p4,p5,p6,p7)=C (.inl (3,p0,p1,p2,p3,p4,p5,p6,p7+x5*y2)):=by
 show C (aB (zH zI (2+1),p0,p1,p2,p3,p4,p5,p6,zH zI (p7+zH zI (x5*y2))))=_;rw[(oP hp hx hy).1];rfl
theorem dB8 (h5:0<=p5/\p5<=1000000)(h6:0<=p6/\p6<=1000000)(h7:0<=p7/\p7<=1000000)(hx:By x5)(k0:By y0)(k1:By y1)(k2:By y2):fm (x0,x1,x2,x3,x4,x5,x6,x7) (y0,y1,y2,y3,y4,y5,y6,y7) (5,p0,p1,p2,p3,p4,p5,p6,p7)=C (.inl (6,p0,p1,p2,p3,p4,p5+x5*y0,p6+x5*y1,p7+x5*y2)):=by
 have key:ca (bw (x0,x1,x2,x3,x4,x5,x6,x7) (y0,y1,y2,y3,y4,y5,y6,y7) 5) dq (0,p0,p1,p2,p3,p4,p5,p6,p7)=C (p0,p1,p2,p3,p4,p5+x5*y0,p6+x5*y1,p7+x5*y2):=gk (((Reach.one (dm6 h5 hx k0)).trans (Reach.one (dm7 h6 hx k1))).trans (Reach.one (dm8 h7 hx k2))) (by decide) rfl;show(ca (bw (x0,x1,x2,x3,x4,x5,x6,x7) (y0,y1,y2,y3,y4,y5,y6,y7) 5) dq (0,p0,p1,p2,p3,p4,p5,p6,p7)).bind (λr=>C (aB (zH zI (5+1),r.1,r.2.1,r.2.2.1,r.2.2.2.1,r.2.2.2.2.1,r.2.2.2.2.2.1,r.2.2.2.2.2.2.1,r.2.2.2.2.2.2.2)))=_;rw[key];rfl
theorem dm9 (hp:0<=p6/\p6<=1000000)(hx:By x6)(hy:By y0):bw (x0,x1,x2,x3,x4,x5,x6,x7) (y0,y1,y2,y3,y4,y5,y6,y7) 6 (0,p0,p1,p2,p3,p4,p5,p6,p7)=C (.inl (1,p0,p1,p2,p3,p4,p5,p6+x6*y0,p7)):=by
 show C (aB (zH zI (0+1),p0,p1,p2,p3,p4,p5,zH zI (p6+zH zI (x6*y0)),p7))=_;rw[(oP hp hx hy).1];rfl
theorem dn0 (hp:0<=p7/\p7<=1000000)(hx:By x6)(hy:By y1):bw (x0,x1,x2,x3,x4,x5,x6,x7) (y0,y1,y2,y3,y4,y5,y6,y7) 6 (1,p0,p1,p2,p3,p4,p5,p6,p7)=C (.inl (2,p0,p1,p2,p3,p4,p5,p6,p7+x6*y1)):=by
 show C (aB (zH zI (1+1),p0,p1,p2,p3,p4,p5,p6,zH zI (p7+zH zI (x6*y1))))=_;rw[(oP hp hx hy).1];rfl
theorem dB9 (h6:0<=p6/\p6<=1000000)(h7:0<=p7/\p7<=1000000)(hx:By x6)(k0:By y0)(k1:By y1):fm (x0,x1,x2,x3,x4,x5,x6,x7) (y0,y1,y2,y3,y4,y5,y6,y7) (6,p0,p1,p2,p3,p4,p5,p6,p7)=C (.inl (7,p0,p1,p2,p3,p4,p5,p6+x6*y0,p7+x6*y1)):=by
 have key:ca (bw (x0,x1,x2,x3,x4,x5,x6,x7) (y0,y1,y2,y3,y4,y5,y6,y7) 6) dq (0,p0,p1,p2,p3,p4,p5,p6,p7)=C (p0,p1,p2,p3,p4,p5,p6+x6*y0,p7+x6*y1):=gk ((Reach.one (dm9 h6 hx k0)).trans (Reach.one (dn0 h7 hx k1))) (by decide) rfl;show(ca (bw (x0,x1,x2,x3,x4,x5,x6,x7) (y0,y1,y2,y3,y4,y5,y6,y7) 6) dq (0,p0,p1,p2,p3,p4,p5,p6,p7)).bind (λr=>C (aB (zH zI (6+1),r.1,r.2.1,r.2.2.1,r.2.2.2.1,r.2.2.2.2.1,r.2.2.2.2.2.1,r.2.2.2.2.2.2.1,r.2.2.2.2.2.2.2)))=_;rw[key];rfl
theorem dn1 (hp:0<=p7/\p7<=1000000)(hx:By x7)(hy:By y0):bw (x0,x1,x2,x3,x4,x5,x6,x7) (y0,y1,y2,y3,y4,y5,y6,y7) 7 (0,p0,p1,p2,p3,p4,p5,p6,p7)=C (.inl (1,p0,p1,p2,p3,p4,p5,p6,p7+x7*y0)):=by
 show C (aB (zH zI (0+1),p0,p1,p2,p3,p4,p5,p6,zH zI (p7+zH zI (x7*y0))))=_;rw[(oP hp hx hy).1];rfl
theorem dC0 (h7:0<=p7/\p7<=1000000)(hx:By x7)(k0:By y0):fm (x0,x1,x2,x3,x4,x5,x6,x7) (y0,y1,y2,y3,y4,y5,y6,y7) (7,p0,p1,p2,p3,p4,p5,p6,p7)=C (.inl (8,p0,p1,p2,p3,p4,p5,p6,p7+x7*y0)):=by
 have key:ca (bw (x0,x1,x2,x3,x4,x5,x6,x7) (y0,y1,y2,y3,y4,y5,y6,y7) 7) dq (0,p0,p1,p2,p3,p4,p5,p6,p7)=C (p0,p1,p2,p3,p4,p5,p6,p7+x7*y0):=gk (Reach.one (dn1 h7 hx k0)) (by decide) rfl;show(ca (bw (x0,x1,x2,x3,x4,x5,x6,x7) (y0,y1,y2,y3,y4,y5,y6,y7) 7) dq (0,p0,p1,p2,p3,p4,p5,p6,p7)).bind (λr=>C (aB (zH zI (7+1),r.1,r.2.1,r.2.2.1,r.2.2.2.1,r.2.2.2.2.1,r.2.2.2.2.2.1,r.2.2.2.2.2.2.1,r.2.2.2.2.2.2.2)))=_;rw[key];rfl
theorem df9 (x0 x1 x2 x3 x4 x5 x6 x7 y0 y1 y2 y3 y4 y5 y6 y7:Int):((0+x0*y0)+256*(0+x0*y1+x1*y0)+65536*(0+x0*y2+x1*y1+x2*y0)+16777216*(0+x0*y3+x1*y2+x2*y1+x3*y0)+4294967296*(0+x0*y4+x1*y3+x2*y2+x3*y1+x4*y0)+1099511627776*(0+x0*y5+x1*y4+x2*y3+x3*y2+x4*y1+x5*y0)+281474976710656*(0+x0*y6+x1*y5+x2*y4+x3*y3+x4*y2+x5*y1+x6*y0)+72057594037927936*(0+x0*y7+x1*y6+x2*y5+x3*y4+x4*y3+x5*y2+x6*y1+x7*y0)) % 18446744073709551616=((x0+256*x1+65536*x2+16777216*x3+4294967296*x4+1099511627776*x5+281474976710656*x6+72057594037927936*x7)*(y0+256*y1+65536*y2+16777216*y3+4294967296*y4+1099511627776*y5+281474976710656*y6+72057594037927936*y7)) % 18446744073709551616:=by
 have rows: ∀x:Int,x*(y0+256*y1+65536*y2+16777216*y3+4294967296*y4+1099511627776*y5+281474976710656*y6+72057594037927936*y7)=x*y0+256*(x*y1)+65536*(x*y2)+16777216*(x*y3)+4294967296*(x*y4)+1099511627776*(x*y5)+281474976710656*(x*y6)+72057594037927936*(x*y7):=λx=>by
  rw[cB,cB,cB,cB,cB,cB,cB,dB x 256 y1,dB x 65536 y2,dB x 16777216 y3,dB x 4294967296 y4,dB x 1099511627776 y5,dB x 281474976710656 y6,dB x 72057594037927936 y7]
 have cols: ∀y:Int,(x0+256*x1+65536*x2+16777216*x3+4294967296*x4+1099511627776*x5+281474976710656*x6+72057594037927936*x7)*y=x0*y+256*(x1*y)+65536*(x2*y)+16777216*(x3*y)+4294967296*(x4*y)+1099511627776*(x5*y)+281474976710656*(x6*y)+72057594037927936*(x7*y):=λy=>by
  rw[bD,bD,bD,bD,bD,bD,bD,cD 256 x1 y,cD 65536 x2 y,cD 16777216 x3 y,cD 4294967296 x4 y,cD 1099511627776 x5 y,cD 281474976710656 x6 y,cD 72057594037927936 x7 y]
 rw[cols,rows x0,rows x1,rows x2,rows x3,rows x4,rows x5,rows x6,rows x7];generalize x0*y0=z00;generalize x0*y1=z01;generalize x0*y2=z02;generalize x0*y3=z03;generalize x0*y4=z04;generalize x0*y5=z05;generalize x0*y6=z06;generalize x0*y7=z07;generalize x1*y0=z10;generalize x1*y1=z11;generalize x1*y2=z12;generalize x1*y3=z13;generalize x1*y4=z14;generalize x1*y5=z15;generalize x1*y6=z16;generalize x1*y7=z17;generalize x2*y0=z20;generalize x2*y1=z21;generalize x2*y2=z22;generalize x2*y3=z23;generalize x2*y4=z24;generalize x2*y5=z25;generalize x2*y6=z26;generalize x2*y7=z27;generalize x3*y0=z30;generalize x3*y1=z31;generalize x3*y2=z32;generalize x3*y3=z33;generalize x3*y4=z34;generalize x3*y5=z35;generalize x3*y6=z36;generalize x3*y7=z37;generalize x4*y0=z40;generalize x4*y1=z41;generalize x4*y2=z42;generalize x4*y3=z43;generalize x4*y4=z44;generalize x4*y5=z45;generalize x4*y6=z46;generalize x4*y7=z47;generalize x5*y0=z50;generalize x5*y1=z51;generalize x5*y2=z52;generalize x5*y3=z53;generalize x5*y4=z54
 generalize x5*y5=z55;generalize x5*y6=z56;generalize x5*y7=z57;generalize x6*y0=z60;generalize x6*y1=z61;generalize x6*y2=z62;generalize x6*y3=z63;generalize x6*y4=z64;generalize x6*y5=z65;generalize x6*y6=z66;generalize x6*y7=z67;generalize x7*y0=z70;generalize x7*y1=z71;generalize x7*y2=z72;generalize x7*y3=z73;generalize x7*y4=z74;generalize x7*y5=z75;generalize x7*y6=z76;generalize x7*y7=z77;refine(Int.add_mul_emod_self_right _ (1*z17+1*z26+256*z27+1*z35+256*z36+65536*z37+1*z44+256*z45+65536*z46+16777216*z47+1*z53+256*z54+65536*z55+16777216*z56+4294967296*z57+1*z62+256*z63+65536*z64+16777216*z65+4294967296*z66+1099511627776*z67+1*z71+256*z72+65536*z73+16777216*z74+4294967296*z75+1099511627776*z76+281474976710656*z77) _).symm.trans ?_
 congr 1
 omega
theorem zS {a b:Int}(ha:du a)(hb:du b):jT a b=C (zH zJ (a*b)):=by
 unfold jT;rw[ae5 ha,ae5 hb];simp only[zG,dgs];unfold du at ha hb;have e: ∀x:Int,0<=x/\x<18446744073709551616->x=x % 256+256*(x / 256 % 256)+65536*(x / 65536 % 256)+16777216*(x / 16777216 % 256)+4294967296*(x / 4294967296 % 256)+1099511627776*(x / 1099511627776 % 256)+281474976710656*(x / 281474976710656 % 256)+72057594037927936*(x / 72057594037927936 % 256):=λx h=>by omega
 have ea:=e a ha;have eb:=e b hb;rw[wU];clear e;have qa0:By (a % 256):=nh _;have qa1:By (a / 256 % 256):=nh _;have qa2:By (a / 65536 % 256):=nh _;have qa3:By (a / 16777216 % 256):=nh _;have qa4:By (a / 4294967296 % 256):=nh _;have qa5:By (a / 1099511627776 % 256):=nh _;have qa6:By (a / 281474976710656 % 256):=nh _;have qa7:By (a / 72057594037927936 % 256):=nh _;have qb0:By (b % 256):=nh _;have qb1:By (b / 256 % 256):=nh _;have qb2:By (b / 65536 % 256):=nh _;have qb3:By (b / 16777216 % 256):=nh _;have qb4:By (b / 4294967296 % 256):=nh _;have qb5:By (b / 1099511627776 % 256):=nh _;have qb6:By (b / 281474976710656 % 256):=nh _;have qb7:By (b / 72057594037927936 % 256):=nh _
 suffices hs: ∀x0 x1 x2 x3 x4 x5 x6 x7 y0 y1 y2 y3 y4 y5 y6 y7:Int,By x0->By x1->By x2->By x3->By x4->By x5->By x6->By x7->By y0->By y1->By y2->By y3->By y4->By y5->By y6->By y7->(ca (fm (x0,x1,x2,x3,x4,x5,x6,x7) (y0,y1,y2,y3,y4,y5,y6,y7)) dq (0,0,0,0,0,0,0,0,0)).bind (λr29=>(kX r29.1 r29.2.1 r29.2.2.1 r29.2.2.2.1 r29.2.2.2.2.1 r29.2.2.2.2.2.1 r29.2.2.2.2.2.2.1 r29.2.2.2.2.2.2.2).bind λr30=>C r30)=C (((x0+256*x1+65536*x2+16777216*x3+4294967296*x4+1099511627776*x5+281474976710656*x6+72057594037927936*x7)*(y0+256*y1+65536*y2+16777216*y3+4294967296*y4+1099511627776*y5+281474976710656*y6+72057594037927936*y7)) % 18446744073709551616)by
  have:=hs _ _ _ _ _ _ _ _ _ _ _ _ _ _ _ _ qa0 qa1 qa2 qa3 qa4 qa5 qa6 qa7 qb0 qb1 qb2 qb3 qb4 qb5 qb6 qb7;rw[<-ea,<-eb]at this;exact this
 clear ea eb ha hb qa0 qb0 qa1 qb1 qa2 qb2 qa3 qb3 qa4 qb4 qa5 qb5 qa6 qb6 qa7 qb7;intro x0 x1 x2 x3 x4 x5 x6 x7 y0 y1 y2 y3 y4 y5 y6 y7 hx0 hx1 hx2 hx3 hx4 hx5 hx6 hx7 hy0 hy1 hy2 hy3 hy4 hy5 hy6 hy7;have z00:=(oP (p:=0) (by omega) hx0 hy0).2;have z01:=(oP (p:=0) (by omega) hx0 hy1).2;have z02:=(oP (p:=0) (by omega) hx0 hy2).2;have z03:=(oP (p:=0) (by omega) hx0 hy3).2;have z04:=(oP (p:=0) (by omega) hx0 hy4).2;have z05:=(oP (p:=0) (by omega) hx0 hy5).2;have z06:=(oP (p:=0) (by omega) hx0 hy6).2;have z07:=(oP (p:=0) (by omega) hx0 hy7).2;have z10:=(oP (p:=0) (by omega) hx1 hy0).2;have z11:=(oP (p:=0) (by omega) hx1 hy1).2;have z12:=(oP (p:=0) (by omega) hx1 hy2).2;have z13:=(oP (p:=0) (by omega) hx1 hy3).2;have z14:=(oP (p:=0) (by omega) hx1 hy4).2;have z15:=(oP (p:=0) (by omega) hx1 hy5).2;have z16:=(oP (p:=0) (by omega) hx1 hy6).2;have z20:=(oP (p:=0) (by omega) hx2 hy0).2;have z21:=(oP (p:=0) (by omega) hx2 hy1).2;have z22:=(oP (p:=0) (by omega) hx2 hy2).2;have z23:=(oP (p:=0) (by omega) hx2 hy3).2
 have z24:=(oP (p:=0) (by omega) hx2 hy4).2;have z25:=(oP (p:=0) (by omega) hx2 hy5).2;have z30:=(oP (p:=0) (by omega) hx3 hy0).2;have z31:=(oP (p:=0) (by omega) hx3 hy1).2;have z32:=(oP (p:=0) (by omega) hx3 hy2).2;have z33:=(oP (p:=0) (by omega) hx3 hy3).2;have z34:=(oP (p:=0) (by omega) hx3 hy4).2;have z40:=(oP (p:=0) (by omega) hx4 hy0).2;have z41:=(oP (p:=0) (by omega) hx4 hy1).2;have z42:=(oP (p:=0) (by omega) hx4 hy2).2;have z43:=(oP (p:=0) (by omega) hx4 hy3).2;have z50:=(oP (p:=0) (by omega) hx5 hy0).2;have z51:=(oP (p:=0) (by omega) hx5 hy1).2;have z52:=(oP (p:=0) (by omega) hx5 hy2).2;have z60:=(oP (p:=0) (by omega) hx6 hy0).2;have z61:=(oP (p:=0) (by omega) hx6 hy1).2;have z70:=(oP (p:=0) (by omega) hx7 hy0).2;have key:ca (fm (x0,x1,x2,x3,x4,x5,x6,x7) (y0,y1,y2,y3,y4,y5,y6,y7)) dq (0,0,0,0,0,0,0,0,0)=C (0+x0*y0,0+x0*y1+x1*y0,0+x0*y2+x1*y1+x2*y0,0+x0*y3+x1*y2+x2*y1+x3*y0,0+x0*y4+x1*y3+x2*y2+x3*y1+x4*y0,0+x0*y5+x1*y4+x2*y3+x3*y2+x4*y1+x5*y0,0+x0*y6+x1*y5+x2*y4+x3*y3+x4*y2+x5*y1+x6*y0,0+x0*y7+x1*y6+x2*y5+x3*y4+x4*y3+x5*y2+x6*y1+x7*y0):=gk ((((((((Reach.one (dB3 (by omega) (by omega) (by omega) (by omega) (by omega) (by omega) (by omega) (by omega) hx0 hy0 hy1 hy2 hy3 hy4 hy5 hy6 hy7)).trans (Reach.one (dB4 (by omega) (by omega) (by omega) (by omega) (by omega) (by omega) (by omega) hx1 hy0 hy1 hy2 hy3 hy4 hy5 hy6))).trans (Reach.one (dB5 (by omega) (by omega) (by omega) (by omega) (by omega) (by omega) hx2 hy0 hy1 hy2 hy3 hy4 hy5))).trans (Reach.one (dB6 (by omega) (by omega) (by omega) (by omega) (by omega) hx3 hy0 hy1 hy2 hy3 hy4))).trans (Reach.one (dB7 (by omega) (by omega) (by omega) (by omega) hx4 hy0 hy1 hy2 hy3))).trans (Reach.one (dB8 (by omega) (by omega) (by omega) hx5 hy0 hy1 hy2))).trans (Reach.one (dB9 (by omega) (by omega) hx6 hy0 hy1))).trans (Reach.one (dC0 (by omega) hx7 hy0))) (by decide) rfl
 rw[key];simp only[zG];rw[ba0 (by unfold Sm;omega) (by unfold Sm;omega) (by unfold Sm;omega) (by unfold Sm;omega) (by unfold Sm;omega) (by unfold Sm;omega) (by unfold Sm;omega) (by unfold Sm;omega),<-df9];rfl
end
section
open List renaming replicate -> aB, append_assoc -> aD, getElem?_append_right -> bD, append_nil -> cD, getElem?_eq_getElem -> eD, getElem_mem -> fB
open Nat renaming le_refl -> bB, sub_self -> cB, add_zero -> dB, mul_comm -> dD, succ_mul -> eB, eq_zero_or_pos -> fD, le_mul_of_pos_left -> gB, mul_le_mul_right -> gD
set_option maxRecDepth 100000
theorem dq4 (k:Int): ∃x,ik k=C (Zc (1<=k/\k<=6),x):=by
 have h: ∀b c:Bool×Bool×Bool,∀p q:Bool,p=q->∃x,(C (p,b):Option (Bool×Bool×Bool×Bool))=C (q,x):=λb _ p q e=>⟨b,by rw[e]⟩
 unfold ik;simp only[bv]
 repeat' split
 all_goals (simp only[zG,de,cn,bv])
 all_goals (repeat' split)
 all_goals (refine h _ (Za,Za,Za) _ _ ?_;symm;first|exact zB (by omega)|exact zA (by omega))
section
variable {l:List cq} {R:Int} {f:Fo}
theorem co8 (hP:Prg R l f): ∃m S,jU l=C (0,m)/\MOK l m/\uv l=C (0,S)/\cB5 l m S:=by
 have hl:=hP.ops.len;have hs:co l 0=C 0:=by rw[<-hP.src];exact Fo.scan0 hP.ok
 rcases az8 (l:=l) (by omega)with⟨_,m,hm,hM⟩|⟨h,_⟩
 .obtain⟨r,hr,r1,r2,r3⟩:=aV6 (l:=l) (by omega) hP.ops.v;have hw:=hP.w;rcases r3 with⟨r3,_⟩|⟨_,_,r4,r5,r6⟩
  .rw[hw]at r3;exact(r3 rfl).elim
  refine⟨m,r.2.2.1,hm,hM, ?_,do7 hM r4 (λo ho=>hP.ops.v o ho) r6⟩;unfold uv;rw[xw hl hP.ops.v,hw];simp only[zG];rw[zA (by simp),zD,hm];simp only[zG]
  have key:=ff (f:=px l (0,m)) (n:=l.length) (λi=>r.2.2.1.take i) (c:=r.2.2.1) (by omega)
   (λi hi=>by
    obtain⟨a,b,h1,h2,h3⟩:=r6 i hi
    have hv:(if l[i].1=7 then(mr l m (i:Int))else C (if l[i].1=0 then 0 else 1))=C a:=by
     by_cases hk:l[i].1=7
     .rw[zE hk];obtain⟨inner,e,rest,b',w,mi,q1,q2,q3,q4,q5,q6,q7,q8,q9,q10⟩:=al4 hl hP.ops.v hM hs hi hk;obtain⟨h4,h5⟩:=(h3 hi).1 hk inner e rest q1 q2 q3;obtain⟨e1,e2⟩:=q10 _ h4;rw[q6,e1]
      have hb0:0<=b:=by
       obtain⟨w',w1,w2⟩: ∃w',aN2 b=w'/\0<=w':=⟨w,e2.symm,q9⟩
       unfold aN2 at w1;split at w1<;>omega
      rw[(aS3 hb0 (hP.ops.v _ (fB hi)).1 h5).1]
     .rw[zF hk];obtain⟨_,h4⟩:=(h3 hi).2 hk;rw[h4]
    have hk0:0<=l[i].1/\l[i].1<=7:=by
     have: ∀(l:List cq) (d:Nat),co l d≠O->∀o∈l,0<=o.1/\o.1<=7:=by
      intro l;induction l with
      |nil=>intro d _ o ho;cases ho
      |cons x l ih=>
       intro d hd o ho;simp only[co]at hd;split at hd
       .exact(hd rfl).elim
       rename_i hx;rcases List.mem_cons.1 ho with rfl|ho
       .omega
       .split at hd
        .split at hd
         .exact(hd rfl).elim
         .exact ih _ hd o ho
        .split at hd
         .exact ih _ hd o ho
         .exact ih _ hd o ho
     exact this l 0 (by rw[hs];simp) _ (fB hi)
    unfold px;simp only[bv];rw[zE (by omega),ci hi];simp only[zG]
    have hopt:(if l[i].1=7 then((mr l m (i:Int)).bind λr7=>C r7)else((ik l[i].1).bind λr9=>cond r9.1 (C (1:Int)) (C 0)))=C a:=by
     by_cases hk:l[i].1=7
     .rw[zE hk]at hv⊢;rw[hv];rfl
     .rw[zF hk]at hv⊢;obtain⟨x,hx⟩:=dq4 l[i].1;rw[hx];simp only[zG];rw[<-hv];by_cases h0:l[i].1=0
      .rw[zE h0,zA (by omega)];rfl
      .rw[zF h0,zB (by omega)];rfl
    rw[hopt];simp only[zG];rw[dh (by rw[List.length_take];omega) (by omega),bq (by omega)]
    have:r.2.2.1.take (i+1)=r.2.2.1.take i++[a]:=by
     have hlt:i<r.2.2.1.length:=by omega
     rw[eD hlt]at h1;injection h1 with h1
     rw[List.take_succ_eq_append_getElem hlt,h1]
    rw[this,show(i:Int)+1=((i+1:Nat):Int)by omega])
   (by
    unfold px
    rw[zA (by omega),zD,List.take_of_length_le (by omega)])
  rw[List.take_zero]at key;rw[key];rfl
 .exact(h hs).elim
theorem cc5 {m S:Zd}{i:Nat}{out:List cq}(hl:l.length<=1000)(ho:out.length<=1000){x:cq}(hx:l[i]?=C x)(h:x.1≠7∨∃n,S[i]?=C n/\n≠0):
  kq l (0,m) (0,S) ((i:Int),out)=C (.inl (((i+1:Nat):Int),out++[x])):=by
 obtain⟨hi,hx'⟩:=List.getElem?_eq_some_iff.1 hx;unfold kq;simp only[bv];rw[zE (by omega),ci hi,hx'];simp only[zG]
 have h9:(if x.1=7 then((ix (i:Int) S.length).bind λj7=>(S[j7]?).bind λx8=>if x8=0 then((ix (i:Int) m.length).bind λj9=>(m[j9]?).bind λx10=>C (.inl x10))else C (.inr (i:Int)))else C (.inr (i:Int)))=C (Sum.inr (i:Int):Int⊕Int):=by
  by_cases hk:x.1=7
  .rcases h with h|⟨n,h1,h2⟩
   .exact(h hk).elim
   rw[zE hk,cl (List.getElem?_eq_some_iff.1 h1).1];simp only[zG];rw[h1];simp only[zG];rw[zF h2]
  .rw[zF hk]
 rw[h9];simp only[zG,cn];rw[ci hi,hx'];simp only[zG];rw[dh (by omega) (by omega),bq (by omega)];rfl
theorem di1 {m S:Zd}{i:Nat}{j:Nat}{out:List cq}(hl:l.length<=1000){x:cq}(hx:l[i]?=C x)(hk:x.1=7)(hs:S[i]?=C 0)(hm:m[i]?=C (j:Int))(hj:j<=1000):
  kq l (0,m) (0,S) ((i:Int),out)=C (.inl (((j+1:Nat):Int),out)):=by
 obtain⟨hi,hx'⟩:=List.getElem?_eq_some_iff.1 hx;unfold kq;simp only[bv];rw[zE (by omega),ci hi,hx'];simp only[zG];rw[zE hk,cl (List.getElem?_eq_some_iff.1 hs).1];simp only[zG];rw[hs];simp only[zG];rw[zE trivial,cl (List.getElem?_eq_some_iff.1 hm).1];simp only[zG];rw[hm];simp only[zG,de];rw[bq (by omega)];rfl
theorem bw4 {m S:Zd}(hl:l.length<=1000)(hK:cB5 l m S): ∀(f:Fo) (A B:List cq) (out:List cq),l=A++f.src++B->f.Ok->out.length<=A.length->
  ∃k,k<=f.len/\Reach (kq l (0,m) (0,S)) k ((A.length:Int),out) (((A.length+f.len:Nat):Int),out++f.bare.src)
 | .nil,A,B,out,hs,_,_=>by
  refine⟨0,bB _, ?_⟩;simp only[Fo.bare,Fo.src,Fo.len,cD,dB];exact Reach.refl
 | .op o r,A,B,out,hs,hk,ho=>by
  have hA:(A++[o]).length=A.length+1:=by simp
  have hll:l.length=A.length+(r.len+1)+B.length:=by rw[hs];simp[Fo.src,Fo.src_len];omega
  have hx:l[A.length]?=C o:=by rw[hs,aD,bD (bB _),cB];rfl
  obtain⟨k,k1,k2⟩:=bw4 hl hK r (A++[o]) B (out++[o]) (by rw[hs];simp[Fo.src]) hk.2 (by simp;omega);refine⟨1+k,by simp only[Fo.len];omega, ?_⟩;have h1:=(Reach.one (cc5 (m:=m) (S:=S) (out:=out) hl (by omega) hx (.inl (by have:=hk.1;omega)))).trans (show Reach _ k _ _ from by rw[hA]at k2;exact k2);simp only[Fo.bare,Fo.src,Fo.len];rw[show A.length+(r.len+1)=A.length+1+r.len by omega];rw[aD]at h1;exact h1
 | .rep o b e r,A,B,out,hs,hk,ho=>by
  obtain⟨⟨k1,k2⟩,k3,k4⟩:=hk;have hll:l.length=A.length+(b.len+r.len+2)+B.length:=by rw[hs];simp[Fo.src,Fo.src_len];omega
  have hx:l[A.length]?=C o:=by rw[hs,aD,bD (bB _),cB];rfl
  obtain⟨hm,hS⟩:=hK.2.2 A (r.src++B) o e b (by rw[hs];simp[Fo.src]) k3 k1 k2;have hAr:(A++o::(b.src++[e])).length=A.length+1+b.len+1:=by simp[Fo.src_len];omega
  simp only[Fo.bare,Fo.len];by_cases hz:b.n*oQ o=0
  .rw[zE hz];rw[hz]at hS;obtain⟨k,g1,g2⟩:=bw4 hl hK r (A++o::(b.src++[e])) B out (by rw[hs];simp[Fo.src]) k4 (by omega);refine⟨1+k,by omega, ?_⟩;have h1:=(Reach.one (di1 (out:=out) hl hx k1 hS hm (by omega))).trans (show Reach _ k _ _ from by rw[hAr]at g2;exact g2);rw[show A.length+(b.len+r.len+2)=A.length+1+b.len+1+r.len by omega];exact h1
  .rw[zF hz];have hA:(A++[o]).length=A.length+1:=by simp
   have hAe:(A++o::b.src).length=A.length+1+b.len:=by simp[Fo.src_len];omega
   have hxe:l[A.length+1+b.len]?=C e:=by
    rw[show l=(A++o::b.src)++(e::(r.src++B))by rw[hs];simp[Fo.src],<-hAe,bD (bB _),cB];rfl
   obtain⟨kb,b1,b2⟩:=bw4 hl hK b (A++[o]) (e::(r.src++B)) (out++[o]) (by rw[hs];simp[Fo.src]) k3 (by simp;omega);rw[hA]at b2;have hbl:=b.bare_len;obtain⟨k,g1,g2⟩:=bw4 hl hK r (A++o::(b.src++[e])) B (out++[o]++b.bare.src++[e]) (by rw[hs];simp[Fo.src]) k4 (by simp[Fo.src_len];omega);rw[hAr]at g2;refine⟨1+kb+1+k,by omega, ?_⟩;have h1:=(((Reach.one (cc5 (m:=m) (out:=out) hl (by omega) hx (.inr ⟨_,hS,by omega⟩))).trans b2).trans (Reach.one (cc5 (m:=m) (S:=S) hl (by simp[Fo.src_len];omega) hxe (.inl (by omega))))).trans g2;rw[show A.length+(b.len+r.len+2)=A.length+1+b.len+1+r.len by omega];have e1:out++[o]++b.bare.src++[e]++r.bare.src=out++(Fo.rep o b.bare e r.bare).src:=by simp[Fo.src]
   rw[e1]at h1;exact h1
theorem cy6 (hP:Prg R l f):wK l=C f.bare.src:=by
 obtain⟨m,S,h1,h2,h3,h4⟩:=co8 hP;have hl:=hP.ops.len;unfold wK;rw[h1,h3];simp only[zG];obtain⟨k,k1,k2⟩:=bw4 (by omega) h4 f [] [] [] (by simp[hP.src]) hP.ok (by simp);have hfl:f.len=l.length:=by rw[<-Fo.src_len,hP.src]
 have:=gk (c:=f.bare.src) k2 (by omega) (by
  simp only[kq];rw[zA (by rw[hfl];simp),zD]
  rfl)
 rw[show((0:Int),([]:List cq))=((([]:List cq).length:Int),([]:List cq))from rfl,this];rfl
end
section
variable {l:List cq} {m:Zd}
def MOf (l:List cq)(m:Zd):Prop:= ∀(A B:List cq) (o e:cq) (b:Fo),l=A++o::(b.src++e::B)->b.Ok->o.1=7->e.1=0->m[A.length]?=C ((A.length+1+b.len:Nat):Int)
theorem mOf (hm:MOK l m):MOf l m:=λA B o e b hl hb ho he=>by
 have hlen:l.length=A.length+1+(b.len+(B.length+1)):=by rw[hl];simp[Fo.src_len];omega
 have hlt:A.length<l.length:=by omega
 have hget:l[A.length]=o:=by
  have:l[A.length]?=C o:=by rw[hl,bD (bB _),cB];rfl
  rw[eD hlt]at this;injection this
 have hd:l.drop (A.length+1)=b.src++e::B:=by rw[hl,List.drop_append,List.drop_of_length_le (by omega),show A.length+1-A.length=1 by omega];rfl
 have:=hm.at' A.length hlt (by rw[hget];exact ho) b.src e B hd he (Fo.scan0 hb);rw[Fo.src_len]at this;exact this
theorem de6 {K:List cq->Zd->Int->Int->Option (List cq×Int)}{i:Nat}{st:Nat}{a3:Int}{out:List cq}(hl:l.length<=1000)(ho:out.length<=1000000)(hst:st<=1000000000000){x:cq}(hx:l[i]?=C x)(hk:x.1≠7)(h3:(i:Int)<a3):
  jI K l m a3 ((i:Int),(st:Int),out)=C (.inl (((i+1:Nat):Int),((st+1:Nat):Int),out++[x])):=by
 obtain⟨hi,hx'⟩:=List.getElem?_eq_some_iff.1 hx;unfold jI;simp only[bv];rw[zE h3,ci hi,hx'];simp only[zG];rw[zE hk,dh (by omega) (by omega),bq (by omega),bq (by omega)];rfl
theorem cm3 {i:Nat}{u:List cq}{nb:Nat}{s:Int×Int×List cq}(hs:s.1=(i:Int)){x:cq}(hx:l[i]?=C x)(hv:okV x)(st:Nat)(out:List cq)(hst:st+oQ x*(nb+1)<=1000000000000)(ho:out.length+oQ x*u.length<=1000000)(hvo:oQ x<=100000):
  ca (nO l s (u,(nb:Int))) dq (0,(st:Int),out)=C (((st+oQ x*(nb+1):Nat):Int),out++(aB (oQ x) u).flatten):=by
 obtain⟨hi,hx'⟩:=List.getElem?_eq_some_iff.1 hx;unfold okV at hv;have hvx:x.2.2.2.2=((oQ x:Nat):Int):=(Int.toNat_of_nonneg hv.1).symm
 have key:=ff (f:=nO l s (u,(nb:Int))) (n:=oQ x) (λk=>(((st+k*(nb+1):Nat):Int),out++(aB k u).flatten)) (c:=(((st+oQ x*(nb+1):Nat):Int),out++(aB (oQ x) u).flatten)) (by omega)
  (λk hk=>by
   have h1:k*(nb+1)+(nb+1)<=oQ x*(nb+1):=by
    rw[<-eB];exact gD _ hk
   have h2:k*u.length+u.length<=oQ x*u.length:=by
    rw[<-eB];exact gD _ hk
   unfold nO;simp only;rw[hs,ci hi,hx'];simp only[zG,bv];rw[zE (by rw[hvx];omega)];have hlen:(out++(aB k u).flatten).length=out.length+k*u.length:=by simp
   rw[hlen]
   have hf:ie (out.length+k*u.length+u.length) 40=Za:=by
    unfold ie;rw[zB (by omega)];rfl
   rw[show∀y:Option ((Int×Int×List cq)⊕(Int×List cq)),gd (ie (out.length+k*u.length+u.length) 40) y=y from λy=>by rw[hf];rfl];rw[qe ⟨by omega,by omega⟩,bq (n:=((st+k*(nb+1):Nat):Int)+nb) (by omega),bq (by omega)];rw[show(k:Int)+1=((k+1:Nat):Int)by omega,show((st+k*(nb+1):Nat):Int)+nb+1=((st+(k+1)*(nb+1):Nat):Int)by rw[eB];omega,aD]
   rw[show(aB (k+1) u).flatten=(aB k u).flatten++u by
    rw[List.replicate_succ',List.flatten_append];simp])
  (by
   unfold nO;simp only;rw[hs,ci hi,hx'];simp only[zG,bv]
   rw[zF (by rw[hvx];omega)])
 simp only[Nat.zero_mul,dB,List.replicate_zero,List.flatten_nil,cD]at key;exact key
theorem lA : ∀g:Fo,g.unroll.length=g.n
 | .nil=>rfl
 | .op o r=>by simp only[Fo.unroll,Fo.n,List.length_cons,lA r];omega
 | .rep o b e r=>by simp[Fo.unroll,Fo.n,lA r,lA b,dD]
theorem aT4 (hl:l.length<=1000)(hM:MOf l m): ∀(g:Fo) (fu:Nat) (A B:List cq) (st:Nat) (out:List cq) (a3:Int),l=A++g.src++B->g.Ok->g.Pos->(∀o∈g.src,okV o)->g.hi<=fu->out.length+g.n<=100000->st+g.steps<=1000000000000->((A.length+g.len:Nat):Int)<=a3->
  ∃k,k<=g.len/\Reach (jI (ij fu) l m a3) k ((A.length:Int),(st:Int),out) (((A.length+g.len:Nat):Int),((st+g.steps:Nat):Int),out++g.unroll)
 | .nil,fu,A,B,st,out,a3,hs,_,_,_,_,_,_,_=>by
  refine⟨0,bB _, ?_⟩;simp only[Fo.unroll,Fo.steps,Fo.len,cD,dB];exact Reach.refl
 | .op o r,fu,A,B,st,out,a3,hs,hk,hp,hv,hh,hn,hst,h3=>by
  simp only[Fo.n,Fo.steps,Fo.len,Fo.hi]at hn hst h3 hh;have hA:(A++[o]).length=A.length+1:=by simp
  have hll:l.length=A.length+(r.len+1)+B.length:=by rw[hs];simp[Fo.src,Fo.src_len];omega
  have hx:l[A.length]?=C o:=by rw[hs,aD,bD (bB _),cB];rfl
  obtain⟨k,k1,k2⟩:=aT4 hl hM r fu (A++[o]) B (st+1) (out++[o]) a3 (by rw[hs];simp[Fo.src]) hk.2 hp (λx hx=>hv x (by simp[Fo.src,hx])) hh (by simp;omega) (by omega) (by rw[hA];omega);refine⟨1+k,by simp only[Fo.len];omega, ?_⟩;have h1:=(Reach.one (de6 (m:=m) (K:=ij fu) (a3:=a3) (out:=out) (st:=st) hl (by omega) (by omega) hx (by have:=hk.1;omega) (by omega))).trans (show Reach _ k _ _ from by rw[hA]at k2;exact k2);simp only[Fo.unroll,Fo.steps,Fo.len];rw[show A.length+(r.len+1)=A.length+1+r.len by omega,show st+(1+r.steps)=st+1+r.steps by omega];rw[aD]at h1;exact h1
 | .rep o b e r,fu,A,B,st,out,a3,hs,hk,hp,hv,hh,hn,hst,h3=>by
  obtain⟨⟨k1,k2⟩,k3,k4⟩:=hk;obtain⟨p1,p2,p3⟩:=hp;simp only[Fo.n,Fo.steps,Fo.len,Fo.hi]at hn hst h3 hh;have hll:l.length=A.length+(b.len+r.len+2)+B.length:=by rw[hs];simp[Fo.src,Fo.src_len];omega
  have hx:l[A.length]?=C o:=by rw[hs,aD,bD (bB _),cB];rfl
  have hm:=hM A (r.src++B) o e b (by rw[hs];simp[Fo.src]) k3 k1 k2;have hA:(A++[o]).length=A.length+1:=by simp
  have hAr:(A++o::(b.src++[e])).length=A.length+1+b.len+1:=by simp[Fo.src_len];omega
  obtain⟨g,rfl⟩: ∃g,fu=g+1:=⟨fu-1,by omega⟩
  have hvo0:0<oQ o/\0<b.n:=by
   rcases fD (oQ o)with h0|h0
   .rw[h0,Nat.mul_zero]at p1;omega
   rcases fD b.n with h1|h1
   .rw[h1,Nat.zero_mul]at p1;omega
   exact⟨h0,h1⟩
  have hbn:b.n<=b.n*oQ o:=Nat.le_mul_of_pos_right _ hvo0.1;have hvn:oQ o<=b.n*oQ o:=gB _ hvo0.2;have hbs:b.steps+1<=oQ o*(b.steps+1):=gB _ hvo0.1;obtain⟨kb,b1,b2⟩:=aT4 hl hM b g (A++[o]) (e::(r.src++B)) 0 [] (((A.length+1+b.len:Nat):Int)) (by rw[hs];simp[Fo.src]) k3 p2 (λx hx=>hv x (by simp[Fo.src,hx])) (by omega) (by simp;omega) (by omega) (by rw[hA];omega);rw[hA]at b2
  have hin:ij (g+1) l m ((A.length+1:Nat):Int) ((A.length+1+b.len:Nat):Int)=C (b.unroll,(b.steps:Int)):=by
   show rZ (ij g) l m _ _=_;unfold rZ
   have:=gk (c:=((b.steps:Int),b.unroll)) b2 (by omega) (by
    simp only[jI];rw[zA (by omega),zD]
    simp)
   rw[show(((A.length+1:Nat):Int),(0:Int),([]:List cq))=(((A.length+1:Nat):Int),((0:Nat):Int),([]:List cq))from rfl,this];rfl
  have hone:jI (ij (g+1)) l m a3 ((A.length:Int),(st:Int),out)=C (.inl (((A.length+1+b.len+1:Nat):Int),((st+1+oQ o*(b.steps+1):Nat):Int),out++(aB (oQ o) b.unroll).flatten)):=by
   obtain⟨hi,hx'⟩:=List.getElem?_eq_some_iff.1 hx;unfold jI;simp only[bv];rw[zE (by omega),ci hi,hx'];simp only[zG];rw[zF (by omega)]
   have hmr:rd m ((A.length:Nat):Int)=C ((A.length+1+b.len:Nat):Int):=by
    obtain⟨q1,q2⟩:=List.getElem?_eq_some_iff.1 hm;rw[ci q1,q2]
   rw[hmr];simp only[zG];rw[bq (by omega),show(A.length:Int)+1=((A.length+1:Nat):Int)by omega,hin];simp only[zG];rw[bq (by omega),show(st:Int)+1=((st+1:Nat):Int)by omega];rw[cm3 (i:=A.length) (nb:=b.steps) (u:=b.unroll) (by rfl) hx (hv o (by simp[Fo.src])) (st+1) out (by omega) (by rw[lA,dD];omega) (by omega)];simp only[zG];rw[bq (by omega)];rfl
  obtain⟨k,g1,g2⟩:=aT4 hl hM r (g+1) (A++o::(b.src++[e])) B (st+1+oQ o*(b.steps+1)) (out++(aB (oQ o) b.unroll).flatten) a3 (by rw[hs];simp[Fo.src]) k4 p3 (λx hx=>hv x (by simp[Fo.src,hx])) (by omega) (by
    have:((aB (oQ o) b.unroll).flatten).length=oQ o*b.n:=by simp[lA]
    rw[List.length_append,this,dD];omega) (by omega) (by rw[hAr];omega)
  rw[hAr]at g2;refine⟨1+k,by simp only[Fo.len];omega, ?_⟩;have h1:=(Reach.one hone).trans g2;simp only[Fo.unroll,Fo.steps,Fo.len];rw[show A.length+(b.len+r.len+2)=A.length+1+b.len+1+r.len by omega,show st+(1+oQ o*(b.steps+1)+r.steps)=st+1+oQ o*(b.steps+1)+r.steps by omega];rw[aD]at h1;exact h1
end
section
variable {l:List cq} {R:Int} {f:Fo}
theorem tE (hP:Prg R l f):kf R l=C (f.unroll,0):=by
 unfold kf;rw[bI1 hP.ops];simp only[zG];rw[hP.z,zA (by simp),zD,cy6 hP];simp only[zG];have hlen:f.bare.src.length<=100:=by rw[Fo.src_len];exact Nat.le_trans f.bare_len hP.len
 have hok:=f.bare_ok hP.ok;rcases az8 (l:=f.bare.src) (by omega)with⟨_,m,hm,hM⟩|⟨h,_⟩
 .rw[hm];simp only[zG];have hn:f.bare.n<=65536:=by rw[f.bare_n];exact hP.n
  have hhi:f.bare.hi<=399:=Nat.le_trans f.bare_hi (by have:=hP.deep;omega);obtain⟨k,k1,k2⟩:=aT4 (by omega) (mOf hM) f.bare 399 [] [] 0 [] ((f.bare.src.length:Nat):Int) (by simp) hok f.bare_pos (λo ho=>hP.ops.v o (by rw[<-hP.src];exact f.bare_mem ho)) hhi (by simp;omega) (by have:=hP.steps;omega) (by rw[Fo.src_len];simp);unfold ag4;show((rZ (ij 399) _ _ _ _).bind _)=_;unfold rZ
  have:=gk (c:=(((f.bare.steps:Nat):Int),f.bare.unroll)) k2 (by have:=f.bare_len;have:=hP.len;omega) (by
   simp only[jI];rw[zA (by rw[Fo.src_len];simp),zD]
   simp)
  rw[show((0:Int),(0:Int),([]:List cq))=(((([]:List cq).length:Nat):Int),((0:Nat):Int),([]:List cq))from rfl,this];simp only[zG];rw[f.bare_unroll]
 .exact(h (Fo.scan0 hok)).elim
end
end
section
open Go.IntKind renaming wrap -> zH, i64 -> zI, u64 -> zJ
open List renaming getElem_mem -> aB, length_take -> aD, mem_of_mem_take -> bB, take_length -> bD, take_succ_eq_append_getElem -> cB, append_assoc -> cD
def cg (r:Zd):Prop:= ∀x∈r,du x
theorem w0 :du 0:=by unfold du;omega
theorem qM (n:Int):du (zH zJ n):=by rw[wU];unfold du;omega
theorem vt {r:Zd}(h:cg r)(k:Int):du (rg r k):=by
 unfold rg;rw[List.getD_eq_getElem?_getD];by_cases hk:k.toNat<r.length
 .rw[List.getElem?_eq_getElem hk];exact h _ (aB hk)
 .rw[List.getElem?_eq_none (by omega)];exact w0
theorem cg.set {r:Zd}(h:cg r){v:Int}(hv:du v)(k:Nat):cg (r.set k v):=λx hx=>by
 rcases List.mem_or_eq_of_mem_set hx with h1|h1
 .exact h x h1
 .rw[h1];exact hv
theorem cg.app {r s:Zd}(h:cg r)(k:cg s):cg (r++s):=λx hx=>(List.mem_append.1 hx).elim (h x) (k x)
theorem cg.rep (n:Nat):cg (List.replicate n 0):=λx hx=>by rw[(List.mem_replicate.1 hx).2];exact w0
theorem cg.fill {R:Int}{r:Zd}(h:cg r):cg (fill R r):=h.app (cg.rep _)
theorem cg.drop {r:Zd}(h:cg r)(n:Nat):cg (r.drop n):=λx hx=>h x (List.mem_of_mem_drop hx)
theorem cg.take {r:Zd}(h:cg r)(n:Nat):cg (r.take n):=λx hx=>h x (bB hx)
theorem dn6 {o:cq}(ho:okV o){x y:Int}(hx:du x)(hy:du y):du (app o x y):=by
 unfold Go.V.app;unfold okV at ho
 repeat' split
 all_goals first|exact qM _|exact hx|exact w0|(unfold du;omega)
theorem bf6 {o:cq}{x y:Int}(hx:du x)(hy:du y):qu o.1 o.2.1 o.2.2.1 o.2.2.2.1 o.2.2.2.2 x y=C (app o x y):=by
 unfold qu Go.V.app;simp only[bv];rw[uk hx hy,ba7 hy,zS hx hy,ba7 hx];simp only[zG];rw[uk hx (qM _)];have h1:zH zJ (x+zH zJ (-y))=zH zJ (x-y):=by simp only[wU];omega
 have h2:(-x:Int)=0-x:=by omega
 simp only[zG];rw[h1,h2]
 repeat' split
 all_goals rfl
theorem bw8 (o:cq)(x y:Int):pu o.1 o.2.1 o.2.2.1 o.2.2.2.1 o.2.2.2.2 x y=C (par o x y):=by
 unfold pu par;simp only[bv];rw[ba7 (a:=1) (by unfold du;omega)];simp only[zG];rw[show zH zJ (-1)=18446744073709551615 from rfl]
 repeat' split
 all_goals rfl
theorem vq {R:Int}{r:Zd}(hR:0<=R/\R<=1000000)(hr:r.length<=R.toNat):kP R r=C (fill R r):=by
 unfold kP;have hlen:=ip hr
 have key:=ff (f:=pA R r) (n:=R.toNat) (λi=>(fill R r).take i) (c:=fill R r) (by omega)
  (λi hi=>by
   unfold pA;simp only[bv];rw[zE (by omega)]
   have hv:(if(i:Int)<((r.length:Nat):Int)then(rd r (i:Int)).bind (λx5=>C x5)else C 0)=C ((fill R r)[i]'(by omega)):=by
    by_cases h:i<r.length
    .rw[zE (by omega),ci h];simp only[zG];unfold fill;rw[List.getElem_append_left h]
    .rw[zF (by omega)];unfold fill;rw[List.getElem_append_right (by omega),List.getElem_replicate]
   rw[hv];simp only[zG];rw[dh (by rw[aD];omega) (by omega),bq (by omega)];rw[cB (by omega)]
   rfl)
  (by
   unfold pA
   rw[zA (by omega),zD,List.take_of_length_le (by omega)])
 rw[List.take_zero]at key;rw[key];rfl
theorem aC3 {r:Zd}{f:Int×Zd->Option ((Int×Zd)⊕Zd)}(hr:r.length<=1000000)(s:Zd)(hs:s.length<=1000000)
  (hf: ∀s,f s=cond (Zc (s.1<((r.length:Nat):Int))) ((rd r s.1).bind λx=>gd (ie (s.2.length+1) 8) (C (.inl (zH zI (s.1+1),s.2++[x])))) (C (.inr s.2))):
  ca f dq (0,s)=C (s++r):=by
 have key:=ff (f:=f) (n:=r.length) (λi=>s++r.take i) (c:=s++r) (by omega)
  (λi hi=>by
   rw[hf,zB (by simp only;omega),zC,ci hi];simp only[zG];rw[dh (by rw[List.length_append,aD];omega) (by omega),bq (by omega),cB hi,cD]
   rfl)
  (by rw[hf,zA (by simp),zD,bD])
 rw[List.take_zero,List.append_nil]at key;exact key
theorem am8 {r:Zd}(hr:r.length<=1000000):nu r=C r:=by
 unfold nu;rw[aC3 (f:=ao2 r) hr [] (by simp) (λs=>rfl)];rfl
theorem pU {a b c:Zd}(ha:a.length<=100000)(hb:b.length<=100000)(hc:c.length<=100000):kZ a b c=C (a++(b++c)):=by
 unfold kZ;rw[aC3 (r:=a) (f:=zl a) (by omega) [] (by simp) (λs=>rfl)];simp only[zG];rw[aC3 (r:=b) (f:=zn b) (by omega) _ (by simp;omega) (λs=>rfl)];simp only[zG];rw[aC3 (r:=c) (f:=zp c) (by omega) _ (by simp;omega) (λs=>rfl)];simp only[zG,List.nil_append,cD]
def do3 (n:Nat)(l:List cq):Prop:= ∀o∈l,inR n o/\okV o
theorem cl6 (l:List cq): ∀s:FS,(vC an6 l s).1.length=s.1.length:=by
 induction l with
 |nil=>intro s;rfl
 |cons o l ih=>intro s;show(vC an6 l (an6 o s)).1.length=_;rw[ih];unfold an6;simp
theorem cS4 (l:List cq): ∀s:FS,cg s.1->(∀o∈l,okV o)->cg (vC an6 l s).1:=by
 induction l with
 |nil=>intro s h _;exact h
 |cons o l ih=>
  intro s h ho;exact ih (an6 o s) (h.set (dn6 (ho o (by simp)) (vt h _) (vt h _)) _) (λx hx=>ho x (by simp[hx]))
theorem bz3 {Y:Type}{stp:cq->Y->Y}{l:List cq}{i:Nat}(hi:i<l.length)(s:Y):vC stp (l.take (i+1)) s=stp l[i] (vC stp (l.take i) s):=by
 rw[cB hi,bl4];rfl
theorem az9 {l:List cq}{r:Zd}(hl:l.length<=1000000)(hr:r.length<=1000)(hg:do3 r.length l)(hw:cg r)(n:Nat):mS l r=C (vC an6 l (r,n)).1:=by
 unfold mS;have hf:fill ((r.length:Nat):Int) r=r:=by unfold fill;simp
 rw[vq (by omega) (by omega),hf];simp only[zG]
 have key:=ff (f:=mI l) (n:=l.length) (λi=>(vC an6 (l.take i) (r,n)).1) (c:=(vC an6 l (r,n)).1) (by omega)
  (λi hi=>by
   rw[bz3 hi];have e1:=cl6 (l.take i) (r,n);have e2:=cS4 (l.take i) (r,n) hw (λo ho=>(hg o (bB ho)).2);generalize vC an6 (l.take i) (r,n)=s at*;have hgi:=hg _ (aB hi);generalize hx:l[i]=x at*;obtain⟨kd,ka,kb,q1,q2,q3,g1,g2,g3⟩:=zO hgi.1;have e1:s.1.length=r.length:=e1;unfold mI;simp only;rw[zB (by omega),zC,ci hi,hx];simp only[zG];rw[q2,q3,cl (by omega:ka<s.1.length)];simp only[zG];rw[fh (by omega:ka<s.1.length)];simp only[zG];rw[cl (by omega:kb<s.1.length)];simp only[zG];rw[fh (by omega:kb<s.1.length)];simp only[zG];rw[<-q2,<-q3,bf6 (vt e2 _) (vt e2 _)];simp only[zG];rw[q1,cl (by omega:kd<s.1.length)];simp only[zG];rw[fh (by omega:kd<s.1.length)];simp only[zG];rw[bq (by omega)];unfold an6;rw[q1]
   rfl)
  (by
   unfold mI
   rw[zA (by simp),zD,bD])
 rw[show l.take 0=[]from rfl]at key;rw[show(0,r)=((0:Int),(vC an6 [] (r,n)).1)from rfl,key];rfl
section
variable {l:List cq} {R:Int} {f:Fo}
theorem nN : ∀(g:Fo),g.Ok->∀o∈g.unroll,o∈g.src/\0<o.1/\o.1<7
 | .nil,_,o,ho=>by cases ho
 | .op x r,h,o,ho=>by
  rcases List.mem_cons.1 ho with rfl|ho
  .exact⟨by simp[Fo.src],h.1⟩
  .obtain⟨h1,h2⟩:=nN r h.2 o ho;exact⟨by simp[Fo.src,h1],h2⟩
 | .rep x b e r,h,o,ho=>by
  simp only[Fo.unroll]at ho;rcases List.mem_append.1 ho with ho|ho
  .obtain⟨u,hu,ho⟩:=List.mem_flatten.1 ho;rw[(List.mem_replicate.1 hu).2]at ho;obtain⟨h1,h2⟩:=nN b h.2.1 o ho;exact⟨by simp[Fo.src,h1],h2⟩
  .obtain⟨h1,h2⟩:=nN r h.2.2 o ho;exact⟨by simp[Fo.src,h1],h2⟩
theorem Prg.goodU (h:Prg R l f):do3 R.toNat f.unroll:=λo ho=>by
 obtain⟨h1,h2⟩:=nN f h.ok o ho;rw[h.src]at h1;exact⟨h.regs o h1 h2,h.ops.v o h1⟩
theorem Prg.ulen (h:Prg R l f):f.unroll.length=f.n/\f.n<=65536:=⟨lA f,h.n⟩
theorem bM2 (h:Prg R l f){r:Zd}(hr:r.length<=R.toNat)(hw:cg r):uP R l r=C (0,aV4 f (fill R r)):=by
 have hR:=h.R1;have hu:=h.ulen;unfold uP ag5;rw[tE h];simp only[zG];rw[zA (by simp),zD,zA (by omega),zD,zB (by omega),zC];simp only[zG];have hc:ae4 f.unroll 0 ((f.unroll.length:Nat):Int)=f.unroll:=by unfold ae4;simp
 have hgd:lq 0 ((f.unroll.length:Nat):Int) f.unroll.length=Za:=lF (by omega);rw[hgd,hc,vq ⟨by omega,by omega⟩ hr];simp only[zG,fq];rw[az9 (by omega) (by rw[ip hr];omega) (by rw[ip hr];exact h.goodU) hw.fill 0];rfl
theorem aS9 (l:List cq): ∀s:TS,(vC mm l s).1.length=s.1.length/\(vC mm l s).2.1.length=s.2.1.length/\(vC mm l s).2.2=s.2.2+l.length:=by
 induction l with
 |nil=>intro s;exact⟨rfl,rfl,rfl⟩
 |cons o l ih=>
  intro s;obtain⟨h1,h2,h3⟩:=ih (mm o s);exact⟨h1.trans (by unfold mm;simp),h2.trans (by unfold mm;simp),h3.trans (by unfold mm;simp;omega)⟩
theorem cw3 (l:List cq): ∀s:TS,cg s.1->cg s.2.1->(∀o∈l,okV o)->cg (vC mm l s).1/\cg (vC mm l s).2.1:=by
 induction l with
 |nil=>intro s h k _;exact⟨h,k⟩
 |cons o l ih=>
  intro s h k ho;exact ih (mm o s) (h.set (dn6 (ho o (by simp)) (vt h _) (vt h _)) _) (k.set (vt h _) _) (λx hx=>ho x (by simp[hx]))
theorem cd0 (h:Prg R l f){r t:Zd}(hr:r.length=R.toNat)(ht:f.n<=t.length)(ht2:t.length<=1000000)(hw:cg r)(hwt:cg t):sD R l r t=C ((f.n:Int),0,(rC f r t).1,(rC f r t).2.1):=by
 have hR:=h.R1;have hu:=h.ulen;have hg:=h.goodU;unfold sD zZ;rw[tE h];simp only[zG];rw[zA (by simp),zD,zA (by omega),zD,zA (by omega),zD,am8 (by omega),am8 ht2];simp only[zG];rw[zA (by simp),zD]
 have key:=ff (f:=oH (f.unroll,0)) (n:=f.unroll.length) (λi=>((vC mm (f.unroll.take i) (r,t,0)).1,(vC mm (f.unroll.take i) (r,t,0)).2.1)) (c:=((rC f r t).1,(rC f r t).2.1)) (by omega)
  (λi hi=>by
   rw[bz3 hi];obtain⟨e1,e3,e4⟩:=aS9 (f.unroll.take i) (r,t,0);obtain⟨e2,e5⟩:=cw3 (f.unroll.take i) (r,t,0) hw hwt (λo ho=>(hg o (bB ho)).2);rw[aD,Nat.min_eq_left (by omega)]at e4;generalize vC mm (f.unroll.take i) (r,t,0)=s at*;have hgi:=hg _ (aB hi);generalize hx:f.unroll[i]=x at*;obtain⟨kd,ka,kb,q1,q2,q3,g1,g2,g3⟩:=zO hgi.1;have e1:s.1.length=r.length:=e1;have e3:s.2.1.length=t.length:=e3;have e4:s.2.2=i:=by rw[e4];simp
   unfold oH;simp only;rw[zB (by omega),zC,ci hi,hx];simp only[zG];rw[q1,cl (by omega:kd<s.1.length)];simp only[zG];rw[fh (by omega:kd<s.1.length)];simp only[zG];rw[cl (by omega:i<s.2.1.length)];simp only[zG];rw[fh (by omega:i<s.2.1.length)];simp only[zG];rw[q2,q3,cl (by omega:ka<s.1.length)];simp only[zG];rw[fh (by omega:ka<s.1.length)];simp only[zG];rw[cl (by omega:kb<s.1.length)];simp only[zG];rw[fh (by omega:kb<s.1.length)];simp only[zG];have ha:=bf6 (o:=x) (vt e2 x.2.2.1) (vt e2 x.2.2.2.1);rw[q1,q2,q3]at ha;rw[ha];simp only[zG];rw[bq (by omega)];unfold mm;rw[q1,q2,q3,e4]
   rfl)
  (by
   unfold oH;rw[zA (by simp),zD,bD]
   rfl)
 rw[show f.unroll.take 0=[]from rfl]at key;rw[show((0:Int),r,t)=((0:Int),(vC mm [] (r,t,0)).1,(vC mm [] (r,t,0)).2.1)from rfl,key];simp only[zG];rw[hu.1]
end
end
section
open Go.IntKind renaming wrap -> zH, i64 -> zI, u64 -> zJ
open Int renaming toNat_natCast -> aD
open List renaming replicate -> aB, getElem?_eq_getElem -> bB
theorem cA0 {a:Zd}{k:Nat}(h:k<a.length):a.set k (rg a (k:Int))=a:=by
 have:=fh h;rw[bB h]at this;injection this with this
 rw[<-this];exact List.set_getElem_self h
theorem cW7 (o:cq)(hk:0<o.1/\o.1<7)(x y:Int):((cw o.1).2.1=Zb->(par o x y).1=0)/\((cw o.1).2.2.1=Zb->(par o x y).2=0):=by
 have:o.1=1∨o.1=2∨o.1=3∨o.1=4∨o.1=5∨o.1=6:=by omega
 rcases this with h|h|h|h|h|h<;>(unfold cw par;simp[h])
theorem dA4 {o:cq}{x y:Int}(hx:du x)(hy:du y):du (par o x y).1/\du (par o x y).2:=by
 unfold par;have h1:du 1:=by unfold du;omega
 have h2:du 18446744073709551615:=by unfold du;omega
 repeat' split
 all_goals first|exact⟨h1,h1⟩|exact⟨h1,h2⟩|exact⟨hy,hx⟩|exact⟨h2,w0⟩|exact⟨h1,w0⟩|exact⟨w0,w0⟩
theorem cX2 {o:cq}{r a:Zd}{t:Int}(hr:cg r)(ha:cg a)(ht:du t):cg (ba4 o r a t).1/\cg (ba4 o r a t).2:=by
 unfold ba4;exact⟨hr.set ht _,((ha.set w0 _).set (qM _) _).set (qM _) _⟩
theorem wU0 {x:Int}(hx:du x)(g:Int):zH zJ (x+zH zJ (0*g))=x:=by
 rw[Int.zero_mul,show zH zJ 0=0 from rfl,Int.add_zero];exact qe hx
section
variable {l:List cq} {R:Int} {f:Fo}
theorem cH9 {ls:List cq}{t:Zd}{i:Nat}{r a:Zd}(hi:i<ls.length)(hl:ls.length<=1000000)(hg:inR r.length ls[i]/\okV ls[i])(hk:0<ls[i].1/\ls[i].1<7)(ha:a.length=r.length)(ht:i<t.length)(wr:cg r)(wa:cg a)(wt:cg t):
  nS t (ls,0) ((i:Int),r,a)=C (.inl ((i:Int)-1,(ba4 ls[i] r a (rg t (i:Int))).1,(ba4 ls[i] r a (rg t (i:Int))).2)):=by
 generalize hx:ls[i]=x at*;obtain⟨kd,ka,kb,q1,q2,q3,g1,g2,g3⟩:=zO hg.1;unfold nS;simp only;rw[zB (by omega),zC,ci hi,hx];simp only[zG];have hp:=cX2 (o:=x) wr wa (vt wt (i:Int));have hpar:=bw8 x;have hpn:=cW7 x hk;unfold ba4;simp only
 have hrt:rd t (i:Int)=C (rg t (i:Int)):=by
  rw[ci ht];have:=fh ht;rw[bB ht]at this;exact this
 have hpw:=dA4 (o:=x) (vt (wr.set (vt wt (i:Int)) x.2.1.toNat) x.2.2.1) (vt (wr.set (vt wt (i:Int)) x.2.1.toNat) x.2.2.2.1);rw[q1]at hpw⊢;rw[aD]at hpw⊢;rw[q2,q3]at hpw⊢;rw[aD,aD];rw[cl (by omega:kd<a.length)];simp only[zG];rw[fh (by omega:kd<a.length)];simp only[zG];rw[hrt];simp only[zG];rw[cl (by omega:kd<r.length)];simp only[zG];rw[fh (by omega:kd<r.length)];simp only[zG];have wr1:=wr.set (vt wt (i:Int)) kd;have lr1:(r.set kd (rg t (i:Int))).length=r.length:=by simp
 have wa1:=wa.set w0 kd;have la1:(a.set kd 0).length=r.length:=by simp[ha]
 have wg:=vt wa (kd:Int);generalize r.set kd (rg t (i:Int))=r1 at*;generalize a.set kd 0=a1 at*;generalize rg a (kd:Int)=g at*;rw[cl (by omega:ka<r1.length)];simp only[zG];rw[fh (by omega:ka<r1.length)];simp only[zG];rw[cl (by omega:kb<r1.length)];simp only[zG];rw[fh (by omega:kb<r1.length)];simp only[zG];have hp2:=hpar (rg r1 (ka:Int)) (rg r1 (kb:Int));rw[q1,q2,q3]at hp2;rw[hp2,ac3];have hpn2:=hpn (rg r1 (ka:Int)) (rg r1 (kb:Int));generalize par x (rg r1 (ka:Int)) (rg r1 (kb:Int))=q at*;generalize cw x.1=s at*;simp only[zG];rw[cl (by omega:ka<a1.length)];simp only[zG];rw[fh (by omega:ka<a1.length)];simp only[zG];rw[zS hpw.1 wg];simp only[zG];rw[uk (vt wa1 _) (qM _)];simp only[zG]
 have h1:(cond s.2.1 (C (a1.set ka (zH zJ (rg a1 (ka:Int)+zH zJ (q.1*g))))) (C a1))=C (a1.set ka (zH zJ (rg a1 (ka:Int)+zH zJ (q.1*g)))):=by
  cases hs:s.2.1 with
  |true=>rfl
  |false=>rw[zD,hpn2.1 hs,wU0 (vt wa1 _),cA0 (by omega)]
 rw[h1];simp only[zG];have wa2:=wa1.set (qM (rg a1 (ka:Int)+zH zJ (q.1*g))) ka;have la2:(a1.set ka (zH zJ (rg a1 (ka:Int)+zH zJ (q.1*g)))).length=r.length:=by simp[la1]
 generalize a1.set ka (zH zJ (rg a1 (ka:Int)+zH zJ (q.1*g)))=a2 at*;rw[cl (by omega:kb<a2.length)];simp only[zG];rw[fh (by omega:kb<a2.length)];simp only[zG];rw[zS hpw.2 wg];simp only[zG];rw[uk (vt wa2 _) (qM _),bq (by omega)];simp only[zG];cases hs:s.2.2.1 with
 |true=>rfl
 |false=>rw[zD,hpn2.2 hs,wU0 (vt wa2 _),cA0 (by omega)]
theorem cS0 {Y:Type}{stp:cq->Y->Y}{l:List cq}{i:Nat}(hi:i<l.length)(s:Y):zc stp (l.drop i) s=stp l[i] (zc stp (l.drop (i+1)) s):=by
 rw[List.drop_eq_getElem_cons hi];rfl
theorem cC3 {t:Zd}(wt:cg t)(l:List cq): ∀s:BS,cg s.1->cg s.2.1->(zc (oO t) l s).1.length=s.1.length/\(zc (oO t) l s).2.1.length=s.2.1.length/\(zc (oO t) l s).2.2=s.2.2-l.length/\cg (zc (oO t) l s).1/\cg (zc (oO t) l s).2.1:=by
 induction l with
 |nil=>intro s h k;exact⟨rfl,rfl,rfl,h,k⟩
 |cons o l ih=>
  intro s h k;obtain⟨h1,h2,h3,h4,h5⟩:=ih s h k;have hp:=co2 o (zc (oO t) l s).1 (zc (oO t) l s).2.1 (rg t (((zc (oO t) l s).2.2-1:Nat):Int));have hw:=cX2 (o:=o) h4 h5 (vt wt (((zc (oO t) l s).2.2-1:Nat):Int));refine⟨hp.1.trans h1,hp.2.trans h2, ?_,hw.1,hw.2⟩;show(zc (oO t) l s).2.2-1=_;rw[h3,List.length_cons];omega
theorem cy7 (h:Prg R l f){r a t:Zd}(hr:r.length=R.toNat)(ha:a.length=R.toNat)(ht:f.n<=t.length)(wr:cg r)(wa:cg a)(wt:cg t):wL R l r a t=C (0,(rS f r a t).1,(rS f r a t).2.1):=by
 have hR:=h.R1;have hu:=h.ulen;have hg:=h.goodU;have hk:=nN f h.ok;unfold wL;rw[tE h];simp only[zG];rw[am8 (by omega),am8 (by omega)];simp only[zG];rw[zA (by simp),zD,zA (by omega),zD,zA (by omega),zD,zA (by omega),zD,bq (by omega)]
 have key:=nL (f:=nS t (f.unroll,0)) (n:=f.unroll.length) (λk=>((f.unroll.length:Int)-1-(k:Int),(zc (oO t) (f.unroll.drop (f.unroll.length-k)) (r,a,f.n)).1,(zc (oO t) (f.unroll.drop (f.unroll.length-k)) (r,a,f.n)).2.1)) (c:=((rS f r a t).1,(rS f r a t).2.1)) (by omega)
  (λk hki=>by
   obtain⟨i,hi⟩: ∃i,f.unroll.length-k=i+1:=⟨f.unroll.length-k-1,by omega⟩
   have hil:i<f.unroll.length:=by omega
   rw[show f.unroll.length-(k+1)=i by omega,hi,cS0 hil];obtain⟨e1,e2,e3,e4,e5⟩:=cC3 wt (f.unroll.drop (i+1)) (r,a,f.n) wr wa;rw[List.length_drop]at e3;generalize zc (oO t) (f.unroll.drop (i+1)) (r,a,f.n)=s at*;have e1:s.1.length=r.length:=e1;have e2:s.2.1.length=a.length:=e2;have e3:s.2.2=i+1:=by rw[e3];simp only;omega
   have hmem:=List.getElem_mem hil;rw[show(f.unroll.length:Int)-1-(k:Int)=(i:Int)by omega];rw[cH9 hil (by omega) (by rw[e1,hr];exact hg _ hmem) (hk _ hmem).2 (by omega) (by omega) e4 e5 wt];unfold oO;rw[e3,show(f.unroll.length:Int)-1-((k+1:Nat):Int)=(i:Int)-1 by omega]
   rfl)
  (by
   simp only[Nat.sub_self,List.drop_zero];unfold nS;rw[zA (by omega),zD]
   rfl)
 simp only[Nat.sub_zero,List.drop_length]at key;rw[show((f.unroll.length:Int)-1,r,a)=((f.unroll.length:Int)-1-((0:Nat):Int),(zc (oO t) [] (r,a,f.n)).1,(zc (oO t) [] (r,a,f.n)).2.1)from by simp[zc],key];rfl
theorem uj (h:Prg R l f){r t:Zd}(wr:cg r)(wt:cg t):cg (rC f r t).1/\cg (rC f r t).2.1/\(rC f r t).1.length=r.length/\(rC f r t).2.1.length=t.length:=by
 obtain⟨h1,h2⟩:=cw3 f.unroll (r,t,0) wr wt (λo ho=>(h.goodU o ho).2);obtain⟨h3,h4,_⟩:=aS9 f.unroll (r,t,0);exact⟨h1,h2,h3,h4⟩
def co3 (R:Int)(f:Fo)(r w:Zd):Zd:=(rS f (rC f (fill R r) (aB f.n 0)).1 (fill R w) (rC f (fill R r) (aB f.n 0)).2.1).2.1
theorem bx0 (h:Prg R l f){r w:Zd}(hr:r.length<=R.toNat)(hw:w.length<=R.toNat)(wr:cg r)(ww:cg w):sE R l r w=C (0,co3 R f r w):=by
 have hR:=h.R1;have hu:=h.ulen;unfold sE;rw[tE h];simp only[zG];rw[zA (by simp),zD,zA (by omega),zD,zA (by omega),zD,gdz ⟨by omega,by omega⟩,vq ⟨by omega,by omega⟩ hr];simp only[zG];rw[gdz ⟨by omega,by omega⟩,aD,hu.1];obtain⟨f1,f2,f3,f4⟩:=uj h (r:=fill R r) (t:=aB f.n 0) wr.fill (cg.rep _);rw[cd0 h (ip hr) (by simp) (by simp;omega) wr.fill (cg.rep _)];simp only[zG];rw[vq ⟨by omega,by omega⟩ hw];simp only[zG];rw[cy7 h (by rw[f3,ip hr]) (ip hw) (by rw[f4];simp) f1 ww.fill f2];rfl
theorem bf5 (h:Prg R l f){r w:Zd}(hr:r.length<=R.toNat)(hw:w.length<=R.toNat)(wr:cg r)(ww:cg w):(co3 R f r w).length=R.toNat/\cg (co3 R f r w):=by
 obtain⟨f1,f2,f3,f4⟩:=uj h (r:=fill R r) (t:=aB f.n 0) wr.fill (cg.rep _);obtain⟨b1,b2,b3,b4,b5⟩:=cC3 f2 f.unroll ((rC f (fill R r) (aB f.n 0)).1,fill R w,f.n) f1 ww.fill;exact⟨b2.trans (ip hw),b5⟩
theorem an1 (h:Prg R l f){r:Zd}(wr:cg r):(aV4 f r).length=r.length/\cg (aV4 f r):=⟨cl6 _ _,cS4 _ _ wr λo ho=>(h.goodU o ho).2⟩
theorem dr0 (l:List cq): ∀(r t:Zd) (k n:Nat),(vC mm l (r,t,k)).1=(vC an6 l (r,n)).1:=by
 induction l with
 |nil=>intro r t k n;rfl
 |cons o l ih=>intro r t k n;exact ih _ _ _ _
theorem bM1 (f:Fo)(r t:Zd):(rC f r t).1=aV4 f r:=dr0 _ _ _ _ _
end
end
section
open Int renaming toNat_natCast -> bB
open List renaming length_take -> aD, getElem?_eq_getElem -> cB
open Nat renaming le_refl -> aB, sub_zero -> bD, lt_or_gt_of_ne -> cD
theorem cg.put {W w:Zd}(h:cg W)(k:cg w)(o:Nat):cg (put W o w):=(h.take o).app (k.app (h.drop _))
theorem cg.seg {W:Zd}(h:cg W)(o n:Nat):cg (seg W o n):=(h.drop o).take n
theorem cP7 (x:Nat)(g a:Zd):cg (yY x g a):=λv hv=>by
 unfold yY at hv;obtain⟨i,_,rfl⟩:=List.mem_map.1 hv;exact qM _
section
variable {c:Cx}
structure Has (c:Cx)(W st ax at':Zd):Prop where
 wd:Wd c W
 w:cg W
 t:seg W 0 c.T.length=c.T
 s:seg W (c.off 1) c.X.length=st
 x:seg W (c.off 5) c.X.length=ax
 a:seg W (c.off 6) c.T.length=at'
theorem bM8 (h:c.Ok){W:Zd}(hW:Wd c W){i:Nat}(hi:i<9){w:Zd}(hw:w.length<=c.sz i):c.off i+w.length<=W.length:=by
 have:=hW.in' h hi;omega
theorem Has.put (h:c.Ok){W st ax at':Zd}(H:Has c W st ax at'){i:Nat}(hi:i<9){w:Zd}(hw:w.length<=c.sz i)(ww:cg w)(h0:i≠0)(h1:i≠1)(h5:i≠5)(h6:i≠6):Has c (put W (c.off i) w) st ax at':=by
 have hl:=bM8 h H.wd hi hw
 have key: ∀j n,j≠i->n<=c.sz j->j<9->seg (Go.V.put W (c.off i) w) (c.off j) n=seg W (c.off j) n:=λj n hj hn h9=>by
  refine yE hl ?_;rcases cD hj with hlt|hgt
  .exact .inl (by have:=jm (c:=c) hlt;omega)
  .exact .inr (by have:=jm (c:=c) hgt;omega)
 refine⟨H.wd.put h (by have:=jm (c:=c) (show i<9 from hi);omega),H.w.put ww _, ?_, ?_, ?_, ?_⟩
 .have:=key 0 c.T.length (Ne.symm h0) (aB _) (by omega);exact this.trans H.t
 .exact(key 1 c.X.length (Ne.symm h1) (aB _) (by omega)).trans H.s
 .exact(key 5 c.X.length (Ne.symm h5) (aB _) (by omega)).trans H.x
 .exact(key 6 c.T.length (Ne.symm h6) (aB _) (by omega)).trans H.a
theorem yD (h:c.Ok){W:Zd}(hW:Wd c W){i j n:Nat}(hij:j≠i)(hi:i<9)(hj:j<9)(hn:n<=c.sz j){w:Zd}(hw:w.length<=c.sz i):seg (put W (c.off i) w) (c.off j) n=seg W (c.off j) n:=by
 refine yE (bM8 h hW hi hw) ?_;rcases cD hij with hlt|hgt
 .exact .inl (by have:=jm (c:=c) hlt;omega)
 .exact .inr (by have:=jm (c:=c) hgt;omega)
theorem Has.put1 (h:c.Ok){W st ax at':Zd}(H:Has c W st ax at'){w:Zd}(hw:w.length=c.X.length)(ww:cg w):Has c (Go.V.put W (c.off 1) w) w ax at':=by
 have hs:w.length<=c.sz 1:=Nat.le_of_eq hw;refine⟨H.wd.put h (by have:=jm (c:=c) (show 1<9 by omega);omega),H.w.put ww _,(yD h H.wd (i:=1) (j:=0) (by omega) (by omega) (by omega) (aB _) hs).trans H.t, ?_,(yD h H.wd (i:=1) (j:=5) (by omega) (by omega) (by omega) (aB _) hs).trans H.x,(yD h H.wd (i:=1) (j:=6) (by omega) (by omega) (by omega) (aB _) hs).trans H.a⟩;rw[<-hw];exact tF (bM8 h H.wd (by omega) hs)
theorem Has.back (h:c.Ok){W st ax at' a:Zd}(H:Has c W st ax at')(ha:c.X.length+c.T.length<=a.length)(ha2:a.length<=max c.R.toNat c.Q.toNat)(wa:cg a):Has c (aS1 c W a) st (a.take c.X.length) (yY c.X.length at' a):=by
 have H4:=H.put h (i:=4) (by omega) (w:=a) ha2 wa (by omega) (by omega) (by omega) (by omega);unfold aS1;generalize Go.V.put W (c.off 4) a=W1 at*;have hs:(a.take c.X.length).length<=c.sz 5:=by rw[aD];exact Nat.min_le_left _ _
 have hx:(a.take c.X.length).length=c.X.length:=by rw[aD];omega
 have w5:=H4.wd.put h (o:=c.off 5) (w:=a.take c.X.length) (by have:=jm (c:=c) (show 5<9 by omega);omega);have p:=λj (hj:j≠5) (h9:j<9)=>yD h H4.wd (i:=5) (j:=j) hj (by omega) h9 (aB _) hs
 have e5:seg (Go.V.put W1 (c.off 5) (a.take c.X.length)) (c.off 5) c.X.length=a.take c.X.length:=by
  have:=tF (bM8 h H4.wd (i:=5) (by omega) hs);rw[hx]at this;exact this
 have e6:=(p 6 (by omega) (by omega)).trans H4.a;have e0:=(p 0 (by omega) (by omega)).trans H4.t;have e1:=(p 1 (by omega) (by omega)).trans H4.s;have a5:cg (Go.V.put W1 (c.off 5) (a.take c.X.length)):=H4.w.put (wa.take _) _;generalize Go.V.put W1 (c.off 5) (a.take c.X.length)=W2 at*;have e6':seg W2 (c.off 6) c.T.length=at':=e6;rw[e6'];have hl6:at'.length=c.T.length:=by rw[<-e6'];exact jK (w5.in' h (i:=6) (by omega))
 have hl:(yY c.X.length at' a).length=c.T.length:=by rw[ae2,hl6]
 have hs6:(yY c.X.length at' a).length<=c.sz 6:=Nat.le_of_eq hl;have q:=λj (hj:j≠6) (h9:j<9)=>yD h w5 (i:=6) (j:=j) hj (by omega) h9 (aB _) hs6
 refine⟨w5.put h (by have:=jm (c:=c) (show 6<9 by omega);omega),a5.put (cP7 _ _ _) _,(q 0 (by omega) (by omega)).trans e0,(q 1 (by omega) (by omega)).trans e1,(q 5 (by omega) (by omega)).trans e5, ?_⟩;have:=tF (bM8 h w5 (i:=6) (by omega) hs6);rw[hl]at this;exact this
def xm (c:Cx)(t:Int)(x:Zd):Zd:=x++(c.T++[IntKind.u64.wrap t])
def vz (c:Cx)(t:Int)(x:Zd):Zd:=(aV4 c.fl (fill c.R (xm c t x))).take c.X.length
def lossV (c:Cx)(x:Zd):Int:=rg (aV4 c.fk (fill c.Q (x++(c.T++[])))) 0
def wA (c:Cx)(t:Int)(x adj:Zd):Zd:=co3 c.R c.fl (xm c t x) adj
def yB (c:Cx)(x:Zd):Zd:=co3 c.Q c.fk (x++(c.T++[])) [1]
theorem Cx.Ok.lens (h:c.Ok):((c.X.length:Int)+c.T.length+1<=c.R/\(c.X.length:Int)+c.T.length<=c.Q)/\(1<=c.R/\c.R<=64)/\(1<=c.Q/\c.Q<=64)/\1<=c.X.length/\c.X.length<=64/\c.T.length<=64:=by
 have n:=h.num;have h1:=aZ0 h.hc;exact⟨bJ8 (by have:=n.x;omega) (by have:=n.t;omega) h1.2,n.R,n.Q,n.x.1,n.x.2,n.t⟩
theorem vl (t:Int){x:Zd}(hx:x.length=c.X.length):(xm c t x).length=c.X.length+c.T.length+1:=by unfold xm;simp[hx];omega
theorem ax7 {t:Int}{x:Zd}(wx:cg x)(wT:cg c.T):cg (xm c t x):=wx.app (wT.app λv hv=>by rw[List.mem_singleton.1 hv];exact qM _)
variable (h:c.Ok) (wT:cg c.T)
include h wT
theorem vA {t:Int}{x:Zd}(hx:x.length=c.X.length)(wx:cg x):(vz c t x).length=c.X.length/\cg (vz c t x):=by
 obtain⟨⟨l1,l2⟩,hR,hQ,x1,x2,t2⟩:=h.lens;obtain⟨f1,f2⟩:=an1 h.pl (r:=fill c.R (xm c t x)) (ax7 wx wT).fill;rw[ip (by rw[vl t hx];omega)]at f1;unfold vz;exact⟨by rw[aD,f1];omega,f2.take _⟩
theorem aN0 {t:Int}(ht:0<=t/\t<65536){x:Zd}(hx:x.length=c.X.length)(wx:cg x):nv c.R c.l c.Q c.k (c.X.length:Int) c.T t x=C (0,vz c t x):=by
 obtain⟨⟨l1,l2⟩,hR,hQ,x1,x2,t2⟩:=h.lens;unfold nv mt;rw[zA (by omega),zD,zA (by omega),zD,zA (by omega),zD,pU (by omega) (by omega) (by simp)];simp only[zG];have hb:=vl (c:=c) t hx;have e:x++(c.T++[IntKind.u64.wrap t])=xm c t x:=rfl;rw[e,bM2 h.pl (by omega) (ax7 wx wT)];obtain⟨f1,f2⟩:=an1 h.pl (r:=fill c.R (xm c t x)) (ax7 wx wT).fill;rw[ip (by omega)]at f1;simp only[zG];rw[lF (by omega),fq,bB,bD];rfl
theorem cy8 {x:Zd}(hx:x.length=c.X.length)(wx:cg x):wM c.R c.l c.Q c.k (c.X.length:Int) c.T x=C (lossV c x,0):=by
 obtain⟨⟨l1,l2⟩,hR,hQ,x1,x2,t2⟩:=h.lens;unfold wM;have wb:cg (x++(c.T++[])):=wx.app (wT.app λv hv=>by cases hv);have hb:(x++(c.T++[])).length=c.X.length+c.T.length:=by simp[hx]
 rw[zA (by omega),zD,pU (by omega) (by omega) (by simp)];simp only[zG];rw[bM2 h.pk (by omega) wb];obtain⟨f1,f2⟩:=an1 h.pk (r:=fill c.Q (x++(c.T++[]))) wb.fill;rw[ip (by omega)]at f1;simp only[zG];rw[show ix 0 (aV4 c.fk (fill c.Q (x++(c.T++[])))).length=C 0 from cl (k:=0) (by omega)];simp only[zG];rw[fh (by omega)];rfl
theorem zR {t:Int}{x adj:Zd}(hx:x.length=c.X.length)(wx:cg x)(ha:adj.length=c.X.length)(wa:cg adj):(wA c t x adj).length=c.R.toNat/\cg (wA c t x adj):=by
 obtain⟨⟨l1,l2⟩,hR,hQ,x1,x2,t2⟩:=h.lens;exact bf5 h.pl (by rw[vl t hx];omega) (by omega) (ax7 wx wT) wa
theorem dp0 :cg [1]:=λv hv=>by rw[List.mem_singleton.1 hv];unfold du;omega
theorem zQ {x:Zd}(hx:x.length=c.X.length)(wx:cg x):(yB c x).length=c.Q.toNat/\cg (yB c x):=by
 obtain⟨⟨l1,l2⟩,hR,hQ,x1,x2,t2⟩:=h.lens;exact bf5 h.pk (by simp[hx];omega) (by simp;omega) (wx.app (wT.app λv hv=>by cases hv)) (dp0 h wT)
theorem bx2 {t:Int}(ht:0<=t/\t<65536){x adj:Zd}(hx:x.length=c.X.length)(wx:cg x)(ha:adj.length=c.X.length)(wa:cg adj):pC c.R c.l c.Q c.k (c.X.length:Int) c.T t x adj=C ((wA c t x adj).take c.X.length,((wA c t x adj).drop c.X.length).take c.T.length,0):=by
 obtain⟨⟨l1,l2⟩,hR,hQ,x1,x2,t2⟩:=h.lens;unfold pC mt;rw[zA (by omega),zD,zA (by omega),zD,zA (by omega),zD,zA (by omega),zD,pU (by omega) (by omega) (by simp)];simp only[zG];have hb:=vl (c:=c) t hx;have e:x++(c.T++[IntKind.u64.wrap t])=xm c t x:=rfl;rw[e,bx0 h.pl (by omega) (by omega) (ax7 wx wT) wa];obtain⟨f1,f2⟩:=zR h wT (t:=t) hx wx ha wa;unfold wA at f1⊢;simp only[zG];rw[lF (by omega),fq,bq (by omega),lF (by omega),fq,bB,bD,List.drop_zero,show((c.X.length:Int)+(c.T.length:Int)).toNat-c.X.length=c.T.length by omega]
theorem bx1 {x:Zd}(hx:x.length=c.X.length)(wx:cg x):pB c.R c.l c.Q c.k (c.X.length:Int) c.T x=C ((yB c x).take c.X.length,((yB c x).drop c.X.length).take c.T.length,0):=by
 obtain⟨⟨l1,l2⟩,hR,hQ,x1,x2,t2⟩:=h.lens;unfold pB;rw[zA (by omega),zD,pU (by omega) (by omega) (by simp)];simp only[zG];rw[bx0 h.pk (by simp[hx];omega) (by simp;omega) (wx.app (wT.app λv hv=>by cases hv)) (dp0 h wT)];obtain⟨f1,f2⟩:=zQ h wT hx wx;unfold yB at f1⊢;simp only[zG];rw[lF (by omega),fq,bq (by omega),lF (by omega),fq,bB,bD,List.drop_zero,show((c.X.length:Int)+(c.T.length:Int)).toNat-c.X.length=c.T.length by omega]
omit h wT in
theorem bM3 {g a:Zd}{x:Nat}(hg:g.length<=1000)(ha:x+g.length<=a.length)(wg:cg g)(wa:cg a):uQ g ((a.drop x).take g.length)=C (yY x g a):=by
 unfold uQ;have hl:((a.drop x).take g.length).length=g.length:=by rw[aD,List.length_drop];omega
 have key:=ff (f:=sK g ((a.drop x).take g.length)) (n:=g.length) (λi=>(yY x g a).take i) (c:=yY x g a) (by omega)
  (λi hi=>by
   unfold sK;simp only;rw[zB (by omega),zC,ci hi,ci (by omega)];simp only[zG];have e1:g[i]=rg g (i:Int):=by have:=fh hi;rw[cB hi]at this;injection this
   have e2:((a.drop x).take g.length)[i]'(by omega)=rg a ((x+i:Nat):Int):=by
    rw[List.getElem_take,List.getElem_drop];have:=fh (r:=a) (k:=x+i) (by omega);rw[cB (by omega)]at this;injection this
   rw[e1,e2,uk (vt wg _) (vt wa _)];simp only[zG];have hi':i<(yY x g a).length:=by rw[ae2];exact hi
   rw[dh (by rw[aD];omega) (by omega),bq (by omega),List.take_succ_eq_append_getElem hi'];have e3:(yY x g a)[i]=IntKind.u64.wrap (rg g (i:Int)+rg a ((x+i:Nat):Int)):=by unfold yY;simp
   rw[e3]
   rfl)
  (by
   unfold sK
   rw[zA (by simp),zD,List.take_of_length_le (by rw[ae2];exact aB _)])
 rw[List.take_zero]at key;rw[key];rfl
end
end
section
open Nat renaming le_of_eq -> aB
section
variable {c:Cx} (h:c.Ok) (wT:cg c.T) {W st ax at':Zd}
def mH (c:Cx)(t:Int)(x:Zd):TS:=rC c.fl (fill c.R (xm c t x)) (dg c.fl.n)
include h wT
theorem Has.lens (H:Has c W st ax at'):st.length=c.X.length/\ax.length=c.X.length/\at'.length=c.T.length/\cg st/\cg ax/\cg at':=by
 refine⟨?_, ?_, ?_, ?_, ?_, ?_⟩
 .rw[<-H.s];exact jK (H.wd.in' h (i:=1) (by omega))
 .rw[<-H.x];exact jK (H.wd.in' h (i:=5) (by omega))
 .rw[<-H.a];exact jK (H.wd.in' h (i:=6) (by omega))
 .rw[<-H.s];exact H.w.seg _ _
 .rw[<-H.x];exact H.w.seg _ _
 .rw[<-H.a];exact H.w.seg _ _
theorem rE {t:Int}{x:Zd}(hx:x.length=c.X.length)(wx:cg x):cg (mH c t x).1/\cg (mH c t x).2.1/\(mH c t x).1.length=c.R.toNat/\(mH c t x).2.1.length=c.fl.n/\(mH c t x).1.take c.X.length=vz c t x:=by
 obtain⟨⟨l1,l2⟩,hR,hQ,x1,x2,t2⟩:=h.lens;obtain⟨f1,f2,f3,f4⟩:=uj h.pl (r:=fill c.R (xm c t x)) (t:=dg c.fl.n) (ax7 wx wT).fill (cg.rep _);refine⟨f1,f2,f3.trans (ip (by rw[vl t hx];omega)),f4.trans (gl _), ?_⟩;unfold mH vz;rw[bM1]
omit wT in
theorem Has.stepR (H:Has c W st ax at')(p:Int):stepR c W p=mH c p st:=by
 unfold Go.V.stepR mH xm;rw[H.s,H.t]
omit wT in
theorem Has.lossR (H:Has c W st ax at')(x:Zd):lossR c W x=rC c.fk (fill c.Q (x++(c.T++[]))) (dg c.fk.n):=by
 unfold Go.V.lossR;rw[H.t]
theorem Has.lossV (H:Has c W st ax at')(x:Zd):rg (Go.V.lossR c W x).1 0=lossV c x:=by
 rw[H.lossR h,bM1];rfl
theorem Has.taped (H:Has c W st ax at')(p:Int):Has c (Go.V.put W (c.off 2) (Go.V.stepR c W p).1) st ax at':=by
 obtain⟨k1,k2,k3,k4,k5,k6⟩:=H.lens h wT;obtain⟨f1,f2,f3,f4,f5⟩:=rE h wT (t:=p) k1 k4;rw[H.stepR h];exact H.put h (i:=2) (by omega) (aB f3) f1 (by omega) (by omega) (by omega) (by omega)
theorem Has.endd (H:Has c W st ax at'){x:Zd}(hx:x.length=c.X.length)(wx:cg x):Has c (cv5 c W x) st ((yB c x).take c.X.length) (yY c.X.length at' (yB c x)):=by
 obtain⟨⟨l1,l2⟩,hR,hQ,x1,x2,t2⟩:=h.lens;have hb:(x++(c.T++[])).length=c.X.length+c.T.length:=by simp[hx]
 have wb:cg (x++(c.T++[])):=wx.app (wT.app λv hv=>by cases hv);obtain⟨f1,f2,f3,f4⟩:=uj h.pk (r:=fill c.Q (x++(c.T++[]))) (t:=dg c.fk.n) wb.fill (cg.rep _);rw[ip (by omega)]at f3;obtain⟨p1,p2⟩:=zQ h wT hx wx;unfold cv5;rw[H.lossR h];have H3:=H.put h (i:=3) (by omega) (aB f3) f1 (by omega) (by omega) (by omega) (by omega);have e:(rS c.fk (rC c.fk (fill c.Q (x++(c.T++[]))) (dg c.fk.n)).1 (fill c.Q [1]) (rC c.fk (fill c.Q (x++(c.T++[]))) (dg c.fk.n)).2.1).2.1=yB c x:=rfl;rw[e];exact H3.back h (by omega) (by omega) p2
theorem Has.turn (H:Has c W st ax at'){p:Int}{x:Zd}(hx:x.length=c.X.length)(wx:cg x):Has c (bN3 c W (mH c p x).1 (mH c p x).2.1) st ((wA c p x ax).take c.X.length) (yY c.X.length at' (wA c p x ax)):=by
 obtain⟨⟨l1,l2⟩,hR,hQ,x1,x2,t2⟩:=h.lens;obtain⟨k1,k2,k3,k4,k5,k6⟩:=H.lens h wT;obtain⟨p1,p2⟩:=zR h wT (t:=p) hx wx k2 k5;unfold bN3;rw[H.x];have e:(rS c.fl (mH c p x).1 (fill c.R ax) (mH c p x).2.1).2.1=wA c p x ax:=rfl;rw[e];exact H.back h (by omega) (by omega) p2
theorem Has.adv1 (H:Has c W st ax at')(p:Int):Has c (Go.V.adv1 c W p) (vz c p st) ax at':=by
 obtain⟨⟨l1,l2⟩,hR,hQ,x1,x2,t2⟩:=h.lens;obtain⟨k1,k2,k3,k4,k5,k6⟩:=H.lens h wT
 have e:bg1 c W p=aV4 c.fl (fill c.R (xm c p st)):=by
  unfold bg1 xm;rw[H.s,H.t]
 obtain⟨f1,f2⟩:=an1 h.pl (r:=fill c.R (xm c p st)) (ax7 k4 wT).fill;rw[ip (by rw[vl p k1];omega)]at f1;obtain⟨s1,s2⟩:=vA h wT (t:=p) k1 k4;unfold Go.V.adv1;rw[e];exact(H.put h (i:=2) (by omega) (aB f1) f2 (by omega) (by omega) (by omega) (by omega)).put1 h s1 s2
def aN4 (c:Cx)(t:Int)(x:Zd):Nat->Zd
 |0=>x
 |i+1=>vz c (t+(i:Int)) (aN4 c t x i)
theorem Has.advW (H:Has c W st ax at')(p:Int): ∀i,Has c (Go.V.advW c W p i) (aN4 c p st i) ax at'
 |0=>H
 |i+1=>(Has.advW H p i).adv1 h wT _
theorem an4 {t:Int}{x:Zd}(hx:x.length=c.X.length)(wx:cg x): ∀i,(aN4 c t x i).length=c.X.length/\cg (aN4 c t x i)
 |0=>⟨hx,wx⟩
 |i+1=>vA h wT (an4 hx wx i).1 (an4 hx wx i).2
theorem Has.rev (H:Has c W st ax at')(p:Int):Has c (cX8 c W p) st ((wA c p st ax).take c.X.length) (yY c.X.length at' (wA c p st ax)):=by
 obtain⟨k1,k2,k3,k4,k5,k6⟩:=H.lens h wT;unfold cX8;have:=(H.taped h wT p).turn h wT (p:=p) k1 k4;rw[H.stepR h]at this⊢;exact this
theorem Has.both (H:Has c W st ax at')(p:Int):Has c (cj8 c W p) st ((wA c p st ((yB c (vz c p st)).take c.X.length)).take c.X.length) (yY c.X.length (yY c.X.length at' (yB c (vz c p st))) (wA c p st ((yB c (vz c p st)).take c.X.length))):=by
 obtain⟨k1,k2,k3,k4,k5,k6⟩:=H.lens h wT;obtain⟨f1,f2,f3,f4,f5⟩:=rE h wT (t:=p) k1 k4;obtain⟨s1,s2⟩:=vA h wT (t:=p) k1 k4;unfold cj8;have H2:=H.taped h wT p;rw[H.stepR h]at H2⊢;rw[f5];exact(H2.endd h wT s1 s2).turn h wT (p:=p) k1 k4
end
end
section
open List renaming getElem?_eq_getElem -> aB, take_succ_eq_append_getElem -> aD, countP_le_length -> bB, getElem?_eq_none -> bD, getElem?_map -> cB, length_take -> cD
structure RS where
 L:Int
 p:Int
 q:Int
 st:Zd
 sl:List (Int×Zd)
 sx:Int
 kp:List (Zd)
 ax:Zd
 th:Zd
 ls:Int
 n0:Int
 n1:Int
 n2:Int
 n3:Int
 pk:Int
def al2 (c:Cx)(W:Zd)(k:Nat)(x:Int×Zd):Prop:=eu c W k=x.1+1/\((0<=x.1/\x.2=seg W (sp c k+1) c.X.length)∨(x.1= -1/\seg W (sp c k+1) c.X.length=dg c.X.length))
structure Slo (c:Cx)(W:Zd)(r:RS):Prop where
 kp:r.kp=[]
 sx:r.sx=(c.X.length:Int)
 len:r.sl.length=c.ns.toNat
 slot: ∀k,∀hk:k<r.sl.length,al2 c W k r.sl[k]
structure RelD (c:Cx)(s:Dy)(r:RS):Prop where
 L:r.L=s.L
 p:r.p=s.p
 q:r.q=s.q
 n0:r.n0=s.c0
 n1:r.n1=s.c1
 n2:r.n2=s.c2
 n3:r.n3=s.c3
 ls:r.ls=s.z
 pk:r.pk=s.pk
 has:Has c s.W r.st r.ax r.th
section
variable {c:Cx} {W:Zd} {r:RS}
theorem af7 (H:Slo c W r){k:Nat}(hk:k<r.sl.length):r.sl[k].1=eu c W k-1:=by
 have:=(H.slot k hk).1;omega
theorem bx3 (H:Slo c W r)(h:c.Ok):wO r.sl r.sx=C (vS c W):=by
 unfold wO;have hn:=h.ns;have hl:=H.len
 have key:=ff (f:=qT r.sl) (n:=r.sl.length) (λi=>(vS c W).take i) (c:=vS c W) (by omega)
  (λi hi=>by
   have h1:i<(vS c W).length:=by rw[af9];omega
   unfold qT;simp only;rw[zB (by omega),zC,ci hi];simp only[zG];rw[dh (by rw[cD];omega) (by omega),bq (by omega),aD h1];have e:=bz2 (c:=c) (W:=W) (k:=i) (by omega);rw[aB h1]at e;injection e with e
   rw[e,af7 H hi]
   rfl)
  (by
   unfold qT
   rw[zA (by simp),zD,List.take_of_length_le (by rw[af9];omega)])
 rw[List.take_zero]at key;rw[key];rfl
theorem ck6 (H:Slo c W r):(r.sl.countP λx=>Zc (0<=x.1))=jo c W:=by
 have:r.sl.map (λx=>Zc (0<=x.1))=(List.range c.ns.toNat).map λ(k:Nat)=>Zc (0<eu c W k):=by
  apply List.ext_getElem?;intro i;rw[cB,cB];by_cases hi:i<r.sl.length
  .rw[aB hi,List.getElem?_range (by rw[<-H.len];exact hi)];simp only[Option.map_some]
   congr 1
   have:=af7 H hi;by_cases ht:0<eu c W i
   .rw[zB ht,zB (by omega)]
   .rw[zA ht,zA (by omega)]
  .rw[bD (by omega),bD (by rw[List.length_range,<-H.len];omega)];rfl
 unfold jo;have e1: ∀{α:Type} (l:List α) (p:α->Bool),l.countP p=(l.map p).countP id:=λl p=>by rw[List.countP_map];rfl
 rw[e1,this,<-e1]
theorem cz0 (l:List (Int×Zd))(x:Int)(hl:l.length<=2000000):wP l x=C ((l.countP λx=>Zc (0<=x.1):Nat):Int):=by
 unfold wP
 have key:=ff (f:=qU l) (n:=l.length) (λi=>(((l.take i).countP λx=>Zc (0<=x.1):Nat):Int)) (c:=((l.countP λx=>Zc (0<=x.1):Nat):Int)) (by omega)
  (λi hi=>by
   unfold qU;simp only;rw[zB (by omega),zC,ci hi];simp only[zG];rw[aD hi,List.countP_append,List.countP_singleton];have hc:(l.take i).countP (λx=>Zc (0<=x.1))<=i:=Nat.le_trans bB (by rw[cD];omega);rw[bq (n:=(i:Int)+1) (by omega),bq (by omega)];by_cases ht:0<=l[i].1
   .rw[zB ht,zC,zE rfl];rfl
   .rw[zA ht,zD,zF (by simp)];rfl)
  (by
   unfold qU
   rw[zA (by simp),zD,List.take_length])
 rw[show((0:Int),(0:Int))=((0:Int),(((l.take 0).countP λx=>Zc (0<=x.1):Nat):Int))from rfl,key];rfl
theorem bx5 (h:c.Ok)(hl:r.sl.length<=1048576)(hk:r.kp.length<=100000)(hb:0<=c.sl*(((r.sl.countP λx=>Zc (0<=x.1):Nat):Int)+r.kp.length)/\c.fixed+c.sl*(((r.sl.countP λx=>Zc (0<=x.1):Nat):Int)+r.kp.length)<=1048576)(h0:0<=c.fixed):
  il c.mode c.X c.T c.R c.l c.Q c.k c.len c.words c.R c.l c.Q c.k (c.X.length:Int) c.T c.fixed c.tp c.sl c.ns r.L r.p r.q r.st r.sl r.sx r.kp r.ax r.th r.ls r.n0 r.n1 r.n2 r.n3 r.pk=C (c.fixed+c.sl*(((r.sl.countP λx=>Zc (0<=x.1):Nat):Int)+r.kp.length)):=by
 unfold il;rw[cz0 _ _ (by omega)];simp only[zG];have:(r.sl.countP λx=>Zc (0<=x.1))<=r.sl.length:=bB;rw[bq (n:=((r.sl.countP λx=>Zc (0<=x.1):Nat):Int)+_) (by omega),bq (n:=c.sl*_) (by omega),bq (by omega)]
theorem aM0 (h:c.Ok){s:Dy}(hi:Inv c s)(H:Slo c s.W r):il c.mode c.X c.T c.R c.l c.Q c.k c.len c.words c.R c.l c.Q c.k (c.X.length:Int) c.T c.fixed c.tp c.sl c.ns r.L r.p r.q r.st r.sl r.sx r.kp r.ax r.th r.ls r.n0 r.n1 r.n2 r.n3 r.pk=C s.lv:=by
 have hl:=bl7 h hi;have hf:=ae9 h;have hn:=h.ns;have e:=ck6 H;have hlv:=hi.lv;have hc:0<=c.sl*(jo c s.W:Int):=Int.mul_nonneg (by have:=h.num.sl;have:=h.num.R;rw[h.num.sl];split<;>omega) (by omega);rw[bx5 h (by rw[H.len];omega) (by rw[H.kp];simp) (by rw[e,H.kp];simp only[List.length_nil];rw[show((jo c s.W:Int)+((0:Nat):Int))=(jo c s.W:Int)by omega];omega) (by omega),e,H.kp,hlv];simp
theorem cp0 (h:c.Ok)(hm:c.mode≠3)(hW:Wd c W)(wW:cg W)(H:Slo c W r)(ht: ∀k,k<c.ns.toNat->0<=eu c W k/\eu c W k<=65536):od r.sl r.sx=C (seg W (c.off 8) (c.ns.toNat*(c.X.length+1))):=by
 unfold od;have hn:=h.ns;have hl:=H.len;have hx:=h.lens;have htk:=hW.tk h
 have key:=ff (f:=pE r.sl r.sx) (n:=r.sl.length) (λi=>seg W (c.off 8) (i*(c.X.length+1))) (c:=seg W (c.off 8) (c.ns.toNat*(c.X.length+1))) (by omega)
  (λi hi=>by
   obtain⟨s1,s2,s3⟩:=wB h hm (k:=i) (by omega);have hto:=ht i (by omega);have hsl:=H.slot i hi;have htag:=af7 H hi;have hi1:(i+1)*(c.X.length+1)=i*(c.X.length+1)+(c.X.length+1):=Nat.succ_mul _ _;unfold sp at s1;have hbase:(seg W (c.off 8) (i*(c.X.length+1))).length=i*(c.X.length+1):=jK (by omega);unfold pE;simp only;rw[zB (by omega),zC,ci hi];simp only[zG];rw[dh (by rw[hbase];omega) (by omega),bq (n:=r.sl[i].1+1) (by omega),htag,show eu c W i-1+1=eu c W i by omega,qe (show du (eu c W i)from vt wW _)]
   have hrg: ∀n,n<c.X.length+1->seg W (c.off 8) (i*(c.X.length+1)+(n+1))=seg W (c.off 8) (i*(c.X.length+1)+n)++[rg W ((sp c i+n:Nat):Int)]:=λn hn=>by
    have hlt:c.off 8+(i*(c.X.length+1)+n)<W.length:=by omega
    unfold seg;rw[show i*(c.X.length+1)+(n+1)=(i*(c.X.length+1)+n)+1 by omega,aD (by rw[List.length_drop];omega),List.getElem_drop];have:=fh hlt;rw[aB hlt]at this;injection this with this
    rw[this];unfold sp;rw[show c.off 8+(i*(c.X.length+1)+n)=c.off 8+i*(c.X.length+1)+n by omega]
   have inner:=ff (f:=pD r.sl r.sx ((i:Int),seg W (c.off 8) (i*(c.X.length+1)))) (n:=c.X.length) (λj=>seg W (c.off 8) (i*(c.X.length+1)+(j+1))) (c:=seg W (c.off 8) ((i+1)*(c.X.length+1))) (by omega)
    (λj hj=>by
     unfold pD;simp only;rw[H.sx,zB (by omega),zC,ci hi];simp only[zG]
     have hv:(cond (Zc (0<=r.sl[i].1)) ((rd r.sl[i].2 (j:Int)).bind λx11=>C x11) (C 0))=C (rg W ((sp c i+(j+1):Nat):Int)):=by
      have hg:seg W (sp c i+1) c.X.length=seg W (sp c i+1) c.X.length:=rfl;have hget:=uF W (sp c i+1) c.X.length j;have hlt:sp c i+1+j<W.length:=by unfold sp;omega
      rw[zE hj,fh hlt]at hget;rcases hsl.2 with⟨q1,q2⟩|⟨q1,q2⟩
      .rw[zB q1,zC];have hlen:r.sl[i].2.length=c.X.length:=by rw[q2];exact jK (by unfold sp;omega)
       rw[<-q2,aB (by omega)]at hget;rw[ci (by omega)];injection hget with hget
       simp only[zG];rw[hget,show sp c i+1+j=sp c i+(j+1)by omega]
      .rw[q1,zA (by omega),zD];rw[q2]at hget;unfold dg at hget;rw[aB (by simp;omega),List.getElem_replicate]at hget;injection hget with hget
       rw[hget,show sp c i+1+j=sp c i+(j+1)by omega]
     rw[hv];simp only[zG];rw[dh (by rw[jK (by omega)];omega) (by omega),bq (by omega),hrg (j+1) (by omega)]
     rfl)
    (by
     unfold pD
     rw[H.sx,zA (by omega),zD,hi1])
   have e0:seg W (c.off 8) (i*(c.X.length+1))++[eu c W i]=seg W (c.off 8) (i*(c.X.length+1)+(0+1)):=by
    rw[hrg 0 (by omega),Nat.add_zero,Nat.add_zero];rfl
   rw[e0,inner];simp only[zG];rw[bq (by omega)]
   rfl)
  (by
   unfold pE
   rw[zA (by simp),zD,hl])
 rw[show((0:Int),([]:Zd))=((0:Int),seg W (c.off 8) (0*(c.X.length+1)))from by unfold seg;simp,key];rfl
end
end
section
open Int renaming reduceEq -> aB, reduceLE -> aD
open List renaming getElem?_eq_getElem -> bB, getD_eq_getElem?_getD -> bD
theorem bf7 (a n:Int):qv a n=C (lL a n):=by
 have h26:wQ a=C (if a=1 then(1,65535)else if 2<=a/\a<=4 then(0,1048575)else(0,0)):=by
  unfold wQ;simp only[bv]
  repeat' split
  all_goals first|rfl|omega
 unfold qv lL;rw[h26];simp only[zG,bv];by_cases h1:a<1
 .rw[zE h1,zF (show¬1<=a by omega)]
 by_cases h9:9<a
 .rw[zF h1,zE h9,zE (show 1<=a by omega),zF (show¬a<=9 by omega)]
 rw[zF h1,zF h9,zE (show 1<=a by omega),zE (show a<=9 by omega)];by_cases c1:a=1
 .rw[zE c1,zE c1];by_cases c2:1<=n
  .rw[zE c2];congr 1;by_cases c3:n<65536
   .rw[zB (show n<=65535 by omega),zB ⟨c2,c3⟩]
   .rw[zA (show¬n<=65535 by omega),zA (by omega)]
  .rw[zF c2,zA (by omega)]
 rw[zF c1,zF c1];by_cases c4:a<=4
 .rw[zE (show 2<=a/\a<=4 by omega),zE c4];by_cases c2:0<=n
  .rw[zE c2];congr 1;by_cases c3:n<1048576
   .rw[zB (show n<=1048575 by omega),zB ⟨c2,c3⟩]
   .rw[zA (show¬n<=1048575 by omega),zA (by omega)]
  .rw[zF c2,zA (by omega)]
 .rw[zF (show¬(2<=a/\a<=4)by omega),zF c4];by_cases c2:0<=n
  .rw[zE c2];congr 1;by_cases c3:n<=0
   .rw[zB c3,zB (by omega)]
   .rw[zA c3,zA (by omega)]
  .rw[zF c2,zA (by omega)]
theorem pn (p q:Int){l:Zd}(hl:l.length<=1048576):lW p q l=C (p,q,l):=by
 unfold lW
 have key:=ff (f:=kr l) (n:=l.length) (λi=>(p,q,l.take i)) (c:=(p,q,l)) (by omega)
  (λi hi=>by
   unfold kr;simp only;rw[zB (by omega),zC,ci hi];simp only[zG];rw[dh (by rw[List.length_take];omega) (by omega),bq (by omega),List.take_succ_eq_append_getElem hi]
   rfl)
  (by
   unfold kr
   rw[zA (by simp),zD,List.take_length])
 rw[List.take_zero]at key;rw[key];rfl
theorem cX4 {L p q:Int}{l:Zd}(hL:0<=L/\L<=65535)(hp:0<=p/\p<=L)(hq: -1<=q/\q<=L)(hl:l.length<=1048576)(h: ∀t∈l,-1<=t/\t<=L):oV L p q l=C (L,p,q,0,l):=by
 unfold oV;rw[zA (by omega),zD,zA (by omega),zD,zA (by omega),zD,zA (by omega),zD,zA (by omega),zD,zA (by omega),zD,zA (by omega),zD]
 have key:=ug (f:=mv L l) (n:=l.length) (c:= .inr ()) (by omega)
  (λi hi=>by
   have:=h _ (List.getElem_mem hi);unfold mv;rw[zB (by omega),zC,ci hi];simp only[zG];rw[zA (by omega),zD,zA (by omega),zD,bq (by omega)]
   rfl)
  (by
   unfold mv
   rw[zA (by omega),zD])
 rw[key];simp only[zG,cn];rw[pn p q hl];rfl
theorem cX5 {a n p q L tot:Int}{l:Zd}(hL:0<=L/\L<=65535)(hp:0<=p/\p<=L)(hq: -1<=q/\q<=L)(ht:0<=tot/\tot<=1000000000000)(hl:l.length<=1048576)(hlt: ∀t∈l,-1<=t/\t<=L):
  ag6 L p q l tot a n=C (L,(cx0 a n p q L tot l).2.1,(cx0 a n p q L tot l).2.2.1,(cx0 a n p q L tot l).2.2.2.2.2,(cx0 a n p q L tot l).2.2.2.2.1,(cx0 a n p q L tot l).1):=by
 unfold ag6 cx0;rw[bf7];simp only[zG];by_cases hr:lL a n=Zb
 .rw[hr,zE (.inl rfl)];rfl
 have hr':lL a n=Za:=by cases h:lL a n with
  |true=>rfl
  |false=>exact(hr h).elim
 rw[hr',Bool.not_true,zD];by_cases h7:7<a
 .rw[zB h7,zC,zE (.inr h7)]
 rw[zA h7,zD,zF (by simp[h7])];have hk:=am9 (a:=a) (n:=n) (by simp[hr',h7]);by_cases hs:(2<=a/\a<=4)/\(l.length:Int)<=n
 .rw[zE hs];simp only[bv];rw[zE hs.1.1];simp only[zG,bv];rw[zE hs.1.2,zE hs.2];rfl
 rw[zF hs];have hn:=hk.1;rcases hk.2 with ha|ha|ha|ha|ha|ha|ha
 .subst ha;have:=xx hn (by omega);simp only[bv,aD,if_false,if_true,zG,zD,cn];rw[pn p q hl];simp only[zG];rw[bq (n:=p+n) (by omega),bq (n:=tot+n) (by omega)];by_cases c:L-p<n
  .rw[zE (by omega),zE c]
  .rw[zF (by omega),zF c]
 .subst ha;have hn3:=xx hn (by omega);have hlen:n.toNat<l.length:=by omega
  have hnn:n=((n.toNat:Nat):Int):=by omega
  simp only[bv,aD,aB,if_false,if_true,zG];rw[zF (by omega)];simp only[zG,cn,aB,if_false,if_true];rw[pn p q hl];simp only[zG];rw[cc6 (by omega) (by omega)];simp only[zG];have e:l[n.toNat]=rg l n:=by unfold rg;rw[bD,bB hlen];rfl
  rw[e];by_cases c:0<=rg l n
  .rw[zE c,zE c]
  .rw[zF c,zF c];rw[show ix n l.length=C n.toNat from(congrArg (λz=>ix z l.length) hnn).trans (cl hlen)];simp only[zG];rw[bB hlen];rfl
 .subst ha;have hn3:=xx hn (by omega);have hlen:n.toNat<l.length:=by omega
  simp only[bv,aD,aB,if_false,if_true,zG];rw[zF (by omega)];simp only[zG,cn,aB,if_false,if_true];rw[pn p q hl];simp only[zG];rw[cc6 (by omega) (by omega)];simp only[zG];have e:l[n.toNat]=rg l n:=by unfold rg;rw[bD,bB hlen];rfl
  rw[e];by_cases c:rg l n<0
  .rw[zE c,zE c];rfl
  .rw[zF c,zF c]
   try rfl
 .subst ha;have hn3:=xx hn (by omega);have hlen:n.toNat<l.length:=by omega
  have hnn:n=((n.toNat:Nat):Int):=by omega
  simp only[bv,aD,aB,if_false,if_true,zG];rw[zF (by omega)];simp only[zG,cn,aB,if_false,if_true];rw[pn p q hl];simp only[zG];rw[cc6 (by omega) (by omega)];simp only[zG,decide_true,if_true];have e:l[n.toNat]=rg l n:=by unfold rg;rw[bD,bB hlen];rfl
  rw[e];by_cases c:rg l n<0
  .rw[zE c,zE c];rfl
  .rw[zF c,zF c]
   try rfl
   rw[show ix n l.length=C n.toNat from(congrArg (λz=>ix z l.length) hnn).trans (cl hlen)];simp only[zG];rw[bB hlen];rfl
 .subst ha;simp only[bv,aD,aB,if_false,if_true,zG,decide_false,zD,cn];rw[pn p q hl];simp only[zG];by_cases c:0<=q
  .rw[zE c,zE (show q≠ -1 by omega)]
  .rw[zF c,zF (show¬q≠ -1 by omega)];by_cases c2:p≠L
   .rw[zE c2,zE c2]
   .rw[zF c2,zF c2];rw[show L=p by omega]
 .subst ha;simp only[bv,aD,aB,if_false,if_true,zG,decide_false,zD,cn];rw[pn p q hl];simp only[zG];rw[bq (n:=L-1) (by omega)];by_cases c:0<=q
  .rw[zE c,zE (show q≠ -1 by omega)]
  .rw[zF c,zF (show¬q≠ -1 by omega)];by_cases c2:p≠L-1
   .rw[zE c2,zE c2]
   .rw[zF c2,zF c2,show L-1=p by omega]
 .subst ha;simp only[bv,aD,aB,if_false,if_true,zG,decide_false,zD,cn];rw[pn p q hl];simp only[zG];rw[bq (n:=q-1) (by omega)];by_cases c:q<1
  .rw[zE c,zE (show q<=0 by omega)]
  .rw[zF c,zF (show¬q<=0 by omega)];by_cases c2:p≠q-1
   .rw[zE c2,zE c2]
   .rw[zF c2,zF c2,show q-1=p by omega]
end
section
open Int renaming toNat_natCast -> cB
open List renaming length_cons -> aB, length_set -> aD, getD_eq_getElem?_getD -> bD, getElem_set -> cD, length_take -> dB
open Nat renaming le_refl -> bB, mul_le_mul_right -> dD
section
variable {c:Cx} {r:RS}
def aO2 (B:Int)(r:RS):Prop:=(0<=r.n0/\r.n0<=B)/\(0<=r.n1/\r.n1<=B)/\(0<=r.n2/\r.n2<=B)/\(0<=r.n3/\r.n3<=B)
theorem RelD.cnt {s:Dy}(H:RelD c s r){B:Int}(hc:Cnt B s):aO2 B r:=by
 unfold aO2 Cnt at*;rw[H.n0,H.n1,H.n2,H.n3];exact hc
def vQ (c:Cx)(x:Zd)(r:RS):RS:={r with ls:=lossV c x,n2:=r.n2+1,n3:=r.n3+1,ax:=(yB c x).take c.X.length,th:=yY c.X.length r.th (yB c x)}
def bN2 (c:Cx)(t:Int)(x:Zd)(r:RS):RS:={r with n3:=r.n3+1,ax:=(wA c t x r.ax).take c.X.length,th:=yY c.X.length r.th (wA c t x r.ax)}
theorem ba8 (h:c.Ok)(wT:cg c.T){x:Zd}(hx:x.length=c.X.length)(wx:cg x)(hth:r.th.length=c.T.length)(wth:cg r.th){B:Int}(hc:aO2 B r)(hB:B<=4611686018427387904):
  lY c.mode c.X c.T c.R c.l c.Q c.k c.len c.words c.R c.l c.Q c.k (c.X.length:Int) c.T c.fixed c.tp c.sl c.ns r.L r.p r.q r.st r.sl r.sx r.kp r.ax r.th r.ls r.n0 r.n1 r.n2 r.n3 r.pk x=C (c.mode,c.X,c.T,c.R,c.l,c.Q,c.k,c.len,c.words,c.R,c.l,c.Q,c.k,(c.X.length:Int),c.T,c.fixed,c.tp,c.sl,c.ns,r.L,r.p,r.q,r.st,r.sl,r.sx,r.kp,(vQ c x r).ax,(vQ c x r).ls,(vQ c x r).n0,(vQ c x r).n1,(vQ c x r).n2,(vQ c x r).n3,r.pk,(vQ c x r).th):=by
 obtain⟨⟨l1,l2⟩,hR,hQ,x1,x2,t2⟩:=h.lens;obtain⟨p1,p2⟩:=zQ h wT hx wx;unfold aO2 at hc;unfold lY;rw[cy8 h wT hx wx,bx1 h wT hx wx];simp only[zG];rw[<-hth,bM3 (by omega) (by rw[hth];omega) wth p2];simp only[zG];rw[bq (by omega),bq (by omega)];rfl
theorem aN1 (h:c.Ok)(wT:cg c.T){t:Int}(ht:0<=t/\t<65536){x:Zd}(hx:x.length=c.X.length)(wx:cg x)(hax:r.ax.length=c.X.length)(wax:cg r.ax)(hth:r.th.length=c.T.length)(wth:cg r.th){B:Int}(hc:aO2 B r)(hB:B<=4611686018427387904):
  kJ c.mode c.X c.T c.R c.l c.Q c.k c.len c.words c.R c.l c.Q c.k (c.X.length:Int) c.T c.fixed c.tp c.sl c.ns r.L r.p r.q r.st r.sl r.sx r.kp r.ax r.th r.ls r.n0 r.n1 r.n2 r.n3 r.pk t x=C (c.mode,c.X,c.T,c.R,c.l,c.Q,c.k,c.len,c.words,c.R,c.l,c.Q,c.k,(c.X.length:Int),c.T,c.fixed,c.tp,c.sl,c.ns,r.L,r.p,r.q,r.st,r.sl,r.sx,r.kp,(bN2 c t x r).ax,r.ls,r.n0,r.n1,r.n2,(bN2 c t x r).n3,r.pk,(bN2 c t x r).th):=by
 obtain⟨⟨l1,l2⟩,hR,hQ,x1,x2,t2⟩:=h.lens;obtain⟨p1,p2⟩:=zR h wT (t:=t) hx wx hax wax;unfold aO2 at hc;unfold kJ;rw[bx2 h wT ht hx wx hax wax];simp only[zG];rw[<-hth,bM3 (by omega) (by rw[hth];omega) wth p2];simp only[zG];rw[bq (by omega)];rfl
theorem bx4 {l:List (Int×Zd)}{sx:Int}{k:Nat}{t:Int}{x:Zd}(hl:l.length<=1048576)(hk:k<l.length):sG l sx (k:Int) t x=C (sx,l.set k (t,x)):=by
 unfold sG
 have key:=ff (f:=qV (k:Int)) (n:=l.length) (λi=>(l,sx,t,x,sx,(l.set k (t,x)).take i)) (c:=(l,sx,t,x,sx,l.set k (t,x))) (by omega)
  (λi hi=>by
   have hi':i<(l.set k (t,x)).length:=by rw[aD];exact hi
   unfold qV;simp only;rw[zB (by omega),zC,List.take_succ_eq_append_getElem hi',cD];by_cases he:k=i
   .rw[zB (by omega),zC,dh (by rw[dB];omega) (by omega),bq (by omega),zE he];rfl
   .rw[zA (by omega),zD,ci hi];simp only[zG];rw[dh (by rw[dB];omega) (by omega),bq (by omega),zF he]
    rfl)
  (by
   unfold qV;rw[zA (by simp),zD];simp only
   rw[List.take_of_length_le (by simp)])
 rw[List.take_zero]at key;rw[key];rfl
theorem al2.kept {W W':Zd}(hK:fe c W W'){k:Nat}{x:Int×Zd}(h:al2 c W k x):al2 c W' k x:=by
 unfold al2 at*;rw[hK.tag,hK.seg (by unfold sp;omega)];exact h
theorem Slo.kept {W W':Zd}{r r':RS}(H:Slo c W r)(hK:fe c W W')(e1:r'.kp=r.kp)(e2:r'.sx=r.sx)(e3:r'.sl=r.sl):Slo c W' r':=by
 refine⟨e1.trans H.kp,e2.trans H.sx,by rw[e3];exact H.len,λk hk=> ?_⟩;have:r'.sl[k]=r.sl[k]'(by rw[<-e3];exact hk):=by simp only[e3]
 rw[this];exact(H.slot k _).kept hK
theorem Has.put8 (h:c.Ok){W st ax at':Zd}(H:Has c W st ax at'){o:Nat}{w:Zd}(ho:c.off 8<=o)(hw:o+w.length<=c.off 9)(ww:cg w):Has c (Go.V.put W o w) st ax at':=by
 have htk:=H.wd.tk h
 have key: ∀j n,j<8->n<=c.sz j->seg (Go.V.put W o w) (c.off j) n=seg W (c.off j) n:=λj n hj hn=>
  yE (by omega) (.inl (by have:=jm (c:=c) hj;omega))
 exact⟨H.wd.put h hw,H.w.put ww _,(key 0 _ (by omega) (bB _)).trans H.t,(key 1 _ (by omega) (bB _)).trans H.s,(key 5 _ (by omega) (bB _)).trans H.x,(key 6 _ (by omega) (bB _)).trans H.a⟩
theorem cZ2 (h:c.Ok)(hm:c.mode≠3){W:Zd}(hW:Wd c W){k:Nat}(hk:k<c.ns.toNat){v:Int}{x:Zd}(hx:x.length=c.X.length):
  (∀j,j<c.ns.toNat->j≠k->∀y,al2 c W j y->al2 c (put W (sp c k) (v::x)) j y)/\eu c (put W (sp c k) (v::x)) k=v/\seg (put W (sp c k) (v::x)) (sp c k+1) c.X.length=x:=by
 obtain⟨s1,s2,s3⟩:=wB h hm hk;have htk:=hW.tk h;have hlen:sp c k+(v::x).length<=W.length:=by rw[aB];omega
 refine⟨λj hj hne y hy=> ?_, ?_, ?_⟩
 .have hd:sp c j+(c.X.length+1)<=sp c k∨sp c k+(v::x).length<=sp c j:=by
   rw[aB,hx];unfold sp;rcases Nat.lt_or_gt_of_ne hne with hlt|hgt
   .left;have:=dD (c.X.length+1) (show j+1<=k from hlt);rw[Nat.succ_mul]at this;omega
   .right;have:=dD (c.X.length+1) (show k+1<=j from hgt);rw[Nat.succ_mul]at this;omega
  unfold al2 at*
  have e1:eu c (put W (sp c k) (v::x)) j=eu c W j:=by
   unfold eu rg;rw[cB,bD,bD,cc4 hlen (by rcases hd with hd|hd<;>omega)]
  rw[e1,yE hlen (by rcases hd with hd|hd;exact .inl (by omega);exact .inr (by omega))];exact hy
 .unfold eu rg;rw[cB,bD,am7 hlen,zE (by rw[aB];omega),Nat.sub_self];rfl
 .apply List.ext_getElem?;intro i;rw[uF,am7 hlen];by_cases hi:i<c.X.length
  .rw[zE hi,zE (by rw[aB,hx];omega),show sp c k+1+i-sp c k=i+1 by omega];rfl
  .rw[zF hi,List.getElem?_eq_none (by omega)]
theorem Slo.put (h:c.Ok)(hm:c.mode≠3){W:Zd}{r r':RS}(H:Slo c W r)(hW:Wd c W){k:Nat}(hk:k<c.ns.toNat){t:Int}{x y:Zd}(hx:x.length=c.X.length)(hy:(0<=t/\y=x)∨(t= -1/\x=dg c.X.length))(e1:r'.kp=r.kp)(e2:r'.sx=r.sx)(e3:r'.sl=r.sl.set k (t,y)):Slo c (Go.V.put W (sp c k) ((t+1)::x)) r':=by
 obtain⟨p1,p2,p3⟩:=cZ2 h hm hW hk (v:=t+1) hx;have hl:=H.len;refine⟨e1.trans H.kp,e2.trans H.sx,by rw[e3,aD];exact hl,λj hj=> ?_⟩;have hj':j<r.sl.length:=by rw[e3,aD]at hj;exact hj
 have e4:r'.sl[j]=(r.sl.set k (t,y))[j]'(by rw[aD];exact hj'):=by simp only[e3]
 rw[e4,cD];by_cases he:k=j
 .subst he;rw[zE rfl];unfold al2;rw[p2,p3];refine⟨rfl, ?_⟩;rcases hy with⟨a,b⟩|⟨a,b⟩
  .exact .inl ⟨a,b⟩
  .exact .inr ⟨a,b⟩
 .rw[zF he];exact p1 j (by omega) (λe=>he e.symm) _ (H.slot j hj')
end
end
section
open Go.IntKind renaming wrap -> zH, i64 -> zI, u64 -> zJ
open Int renaming reduceEq -> aB
section
variable {c:Cx} {r:RS}
def bt7 (c:Cx)(r:RS)(e:Int):=(c.mode,c.X,c.T,c.R,c.l,c.Q,c.k,c.len,c.words,c.R,c.l,c.Q,c.k,(c.X.length:Int),c.T,c.fixed,c.tp,c.sl,c.ns,r.L,r.p,r.q,r.st,r.sl,r.sx,r.kp,r.ax,r.th,r.ls,r.n0,r.n1,r.n2,r.n3,r.pk,e)
theorem Cx.Ok.rof (h:c.Ok):ny c.mode c.X c.T c.R c.l c.Q c.k c.len c.words=C ((c.fl.n:Int),(c.fk.n:Int)):=by
 rw[aU8 h.hl h.hk,zF (by rw[h.hc];simp),h.pl.w,h.pk.w]
def qG (r:RS)(p q pk:Int):RS:={r with p:=p,q:=q,pk:=pk}
def li (c:Cx)(r:RS)(i:Nat):RS:={r with st:=aN4 c r.p r.st i,n0:=r.n0+(i:Int)}
theorem cP9 (h:c.Ok)(wT:cg c.T)(hst:r.st.length=c.X.length)(wst:cg r.st){m:Nat}{a n:Int}{x0:Zd}{x1 x2 x3 x4 x5 x6:Int}{x7:Zd}{x8:Int}(hn:n=(m:Int))(hp:0<=r.p/\r.p+m<=65535){B:Int}(hc:aO2 B r)(hB:B<=4611686018427387904):
  ca qy dq (0,c.mode,c.X,c.T,c.R,c.l,c.Q,c.k,c.len,c.words,c.R,c.l,c.Q,c.k,(c.X.length:Int),c.T,c.fixed,c.tp,c.sl,c.ns,r.L,r.p,r.q,r.st,r.sl,r.sx,r.kp,r.ax,r.th,r.ls,r.n0,r.n1,r.n2,r.n3,r.pk,a,n,x0,x1,x2,x3,x4,x5,x6,x7,x8)=C (c.mode,c.X,c.T,c.R,c.l,c.Q,c.k,c.len,c.words,c.R,c.l,c.Q,c.k,(c.X.length:Int),c.T,c.fixed,c.tp,c.sl,c.ns,(li c r m).L,(li c r m).p,(li c r m).q,(li c r m).st,(li c r m).sl,(li c r m).sx,(li c r m).kp,(li c r m).ax,(li c r m).th,(li c r m).ls,(li c r m).n0,(li c r m).n1,(li c r m).n2,(li c r m).n3,(li c r m).pk,a,n,x0,x1,x2,x3,x4,x5,x6,x7,x8):=by
 subst hn;unfold aO2 at hc
 have key:=nL (f:=qy) (n:=m) (λi=>((i:Int),c.mode,c.X,c.T,c.R,c.l,c.Q,c.k,c.len,c.words,c.R,c.l,c.Q,c.k,(c.X.length:Int),c.T,c.fixed,c.tp,c.sl,c.ns,(li c r i).L,(li c r i).p,(li c r i).q,(li c r i).st,(li c r i).sl,(li c r i).sx,(li c r i).kp,(li c r i).ax,(li c r i).th,(li c r i).ls,(li c r i).n0,(li c r i).n1,(li c r i).n2,(li c r i).n3,(li c r i).pk,a,(m:Int),x0,x1,x2,x3,x4,x5,x6,x7,x8)) (c:=(c.mode,c.X,c.T,c.R,c.l,c.Q,c.k,c.len,c.words,c.R,c.l,c.Q,c.k,(c.X.length:Int),c.T,c.fixed,c.tp,c.sl,c.ns,(li c r m).L,(li c r m).p,(li c r m).q,(li c r m).st,(li c r m).sl,(li c r m).sx,(li c r m).kp,(li c r m).ax,(li c r m).th,(li c r m).ls,(li c r m).n0,(li c r m).n1,(li c r m).n2,(li c r m).n3,(li c r m).pk,a,(m:Int),x0,x1,x2,x3,x4,x5,x6,x7,x8)) (by omega)
  (λi hi=>by
   obtain⟨s1,s2⟩:=an4 h wT (t:=r.p) hst wst i;simp only[qy];rw[zB (by omega),zC];show((nv c.R c.l c.Q c.k (c.X.length:Int) c.T (zH zI (r.p+(i:Int))) (aN4 c r.p r.st i)).bind _)=_;rw[bq (n:=r.p+(i:Int)) (by omega),aN0 h wT (by omega) s1 s2];simp only[zG];show C (Sum.inl (zH zI ((i:Int)+1),_,_,_,_,_,_,_,_,_,_,_,_,_,_,_,_,_,_,_,_,_,_,_,_,_,_,_,_,_,zH zI (r.n0+(i:Int)+1),_))=_;rw[bq (n:=(i:Int)+1) (by omega),bq (n:=r.n0+(i:Int)+1) (by omega)];have e1:(i:Int)+1=((i+1:Nat):Int):=by omega
   have e2:r.n0+(i:Int)+1=r.n0+((i+1:Nat):Int):=by omega
   rw[e1,e2]
   rfl)
  (by
   simp only[qy]
   rw[zA (by omega),zD])
 rw[<-key];show ca _ _ _=ca _ _ ((0:Int),_,_,_,_,_,_,_,_,_,_,_,_,_,_,_,_,_,_,_,_,_,_,_,_,_,_,_,_,_,r.n0+((0:Nat):Int),_);rw[show r.n0+((0:Nat):Int)=r.n0 by omega];rfl
theorem co9 {l:List (Int×Zd)}{sx:Int}{k:Nat}{t:Int}{x:Zd}(hl:l.length<=1048576)(hk:k<l.length)(ht:0<=t/\t<=65535)(hx:(x.length:Int)=sx)(hf:l[k].1<0):uw l sx (k:Int) t x=C (l.set k (t,x),sx,0):=by
 unfold uw;rw[zA (by omega),zD,zA (by omega),zD,zA (by omega),zD,zA (by omega),zD,zA (by omega),zD,ci hk];simp only[zG];rw[zA (by omega),zD,bx4 hl hk];rfl
theorem bI2 {l:List (Int×Zd)}{sx:Int}{k:Nat}(hk:k<l.length)(hf: ¬l[k].1<0):qS l sx (k:Int)=C (l[k].1,l[k].2,0):=by
 unfold qS;rw[zA (by omega),zD,zA (by omega),zD,ci hk];simp only[zG];rw[zA hf,zD]
theorem cy9 {l:List (Int×Zd)}{sx:Int}{k:Nat}(hl:l.length<=1048576)(hk:k<l.length)(hf: ¬l[k].1<0):wN l sx (k:Int)=C (l.set k (-1,[]),sx,0):=by
 unfold wN;rw[zA (by omega),zD,zA (by omega),zD,ci hk];simp only[zG];rw[zA hf,zD,bx4 hl hk];rfl
theorem cM5 (h:c.Ok)(wT:cg c.T)(hm:c.mode≠3){s:Dy}(hi:Inv c s)(H:RelD c s r)(S:Slo c s.W r){B:Int}(hc:Cnt B s)(hB:B<=2305843009213693952)(a n:Int):
  ∃r',oW c.mode c.X c.T c.R c.l c.Q c.k c.len c.words c.R c.l c.Q c.k (c.X.length:Int) c.T c.fixed c.tp c.sl c.ns r.L r.p r.q r.st r.sl r.sx r.kp r.ax r.th r.ls r.n0 r.n1 r.n2 r.n3 r.pk a n=C (bt7 c r' (doF c a n s).1)/\RelD c (doF c a n s).2 r'/\Slo c (doF c a n s).2.W r':=by
 have nm:=h.num;have hW:=hi.w;have hL:=hi.L;have hp:=hi.p;have hq:=hi.q;have hpk:=hi.pk;have hns:=h.ns;have hcr:=H.cnt hc;have hcr':aO2 4611686018427387904 r:=by unfold aO2 at*;omega
 obtain⟨g1,g2,g3,g4⟩:=bl7 h hi;obtain⟨k1,k2,k3,k4,k5,k6⟩:=H.has.lens h wT;have htp:=nm.tp;rw[zF hm]at htp;have hsl0:0<=c.sl:=by rw[nm.sl];have:=nm.R;split<;>omega
 have hlen:(vS c s.W).length<=1048576:=by rw[af9];omega
 have htm:=cr2 hi.tag;have hinv:=cC7 h hm hi a n;have Hs:=H.has;obtain⟨⟨z1,z2⟩,hR,hQ,z3,z4,z5⟩:=h.lens;have eL:=H.L;have ep:=H.p;have eq':=H.q;have epk:=H.pk;unfold oW;rw[zA hm,zD]
 have hspot:kI c.mode c.X c.T c.R c.l c.Q c.k c.len c.words c.R c.l c.Q c.k (c.X.length:Int) c.T c.fixed c.tp c.sl c.ns r.L r.p r.q r.st r.sl r.sx r.kp r.ax r.th r.ls r.n0 r.n1 r.n2 r.n3 r.pk=C (r.p,r.q,vS c s.W):=by
  unfold kI;rw[zB hm,zC,bx3 S h];rfl
 have hlive:=aM0 h hi S;rw[hspot];simp only[zG];rw[eL,ep,eq',cX4 hL hp hq hlen htm];simp only[zG];rw[cX5 hL hp hq (by omega) hlen htm];simp only[zG];have same: ∃r',C (c.mode,c.X,c.T,c.R,c.l,c.Q,c.k,c.len,c.words,c.R,c.l,c.Q,c.k,(c.X.length:Int),c.T,c.fixed,c.tp,c.sl,c.ns,r.L,r.p,r.q,r.st,r.sl,r.sx,r.kp,r.ax,r.th,r.ls,r.n0,r.n1,r.n2,r.n3,r.pk,(doF c a n s).1)=C (bt7 c r' (doF c a n s).1)/\RelD c s r'/\Slo c s.W r':=⟨r,rfl,H,S⟩
 rw[eL,ep,eq']at same;rw[eL,ep,eq']at hlive;unfold cx0;generalize hdo:doF c a n s=d at hinv same⊢;unfold doF at hdo;by_cases h1:lL a n=Zb∨7<a
 .rw[zE h1]at hdo;subst hdo;rw[zE h1,zB (by simp),zC];exact same
 rw[zF h1]at hdo⊢;obtain⟨h2,hk⟩:=am9 h1;rw[af9,Int.toNat_of_nonneg hns.1];by_cases h4:(2<=a/\a<=4)/\c.ns<=n
 .rw[zE h4]at hdo;subst hdo;rw[zE h4,zB (by simp),zC];exact same
 rw[zF h4]at hdo⊢
 have slot:(2<=a/\a<=4)->n=((n.toNat:Nat):Int)/\n.toNat<c.ns.toNat/\rg (vS c s.W) n=eu c s.W n.toNat-1:=λhs=>by
  have hn:=xx h2 ⟨by omega,hs.2⟩
  have hlt:n.toNat<c.ns.toNat:=by
   have: ¬c.ns<=n:=λh7=>h4 ⟨hs,h7⟩
   omega
  exact⟨by omega,hlt,di3 hn.1 hlt⟩
 have hsz:=S.len
 have fin: ∀(r1:RS) (s':Dy) (tp:Int),Inv c s'->Slo c s'.W r1->0<=tp->max s.pk (max s.lv s'.lv+tp)=s'.pk->r1.L=s'.L->r1.n0=s'.c0->r1.n1=s'.c1->r1.n2=s'.c2->r1.n3=s'.c3->r1.ls=s'.z->Has c s'.W r1.st r1.ax r1.th->r1.pk=s.pk->tp<=1000000->
   ∃r',((il c.mode c.X c.T c.R c.l c.Q c.k c.len c.words c.R c.l c.Q c.k (c.X.length:Int) c.T c.fixed c.tp c.sl c.ns (qG r1 s'.p s'.q r1.pk).L (qG r1 s'.p s'.q r1.pk).p (qG r1 s'.p s'.q r1.pk).q (qG r1 s'.p s'.q r1.pk).st (qG r1 s'.p s'.q r1.pk).sl (qG r1 s'.p s'.q r1.pk).sx (qG r1 s'.p s'.q r1.pk).kp (qG r1 s'.p s'.q r1.pk).ax (qG r1 s'.p s'.q r1.pk).th (qG r1 s'.p s'.q r1.pk).ls (qG r1 s'.p s'.q r1.pk).n0 (qG r1 s'.p s'.q r1.pk).n1 (qG r1 s'.p s'.q r1.pk).n2 (qG r1 s'.p s'.q r1.pk).n3 (qG r1 s'.p s'.q r1.pk).pk).bind λr100=>C (c.mode,c.X,c.T,c.R,c.l,c.Q,c.k,c.len,c.words,c.R,c.l,c.Q,c.k,(c.X.length:Int),c.T,c.fixed,c.tp,c.sl,c.ns,(qG r1 s'.p s'.q (max r1.pk (zH zI ((max s.lv r100)+tp)))).L,(qG r1 s'.p s'.q (max r1.pk (zH zI ((max s.lv r100)+tp)))).p,(qG r1 s'.p s'.q (max r1.pk (zH zI ((max s.lv r100)+tp)))).q,(qG r1 s'.p s'.q (max r1.pk (zH zI ((max s.lv r100)+tp)))).st,(qG r1 s'.p s'.q (max r1.pk (zH zI ((max s.lv r100)+tp)))).sl,(qG r1 s'.p s'.q (max r1.pk (zH zI ((max s.lv r100)+tp)))).sx,(qG r1 s'.p s'.q (max r1.pk (zH zI ((max s.lv r100)+tp)))).kp,(qG r1 s'.p s'.q (max r1.pk (zH zI ((max s.lv r100)+tp)))).ax,(qG r1 s'.p s'.q (max r1.pk (zH zI ((max s.lv r100)+tp)))).th,(qG r1 s'.p s'.q (max r1.pk (zH zI ((max s.lv r100)+tp)))).ls,(qG r1 s'.p s'.q (max r1.pk (zH zI ((max s.lv r100)+tp)))).n0,(qG r1 s'.p s'.q (max r1.pk (zH zI ((max s.lv r100)+tp)))).n1,(qG r1 s'.p s'.q (max r1.pk (zH zI ((max s.lv r100)+tp)))).n2,(qG r1 s'.p s'.q (max r1.pk (zH zI ((max s.lv r100)+tp)))).n3,(qG r1 s'.p s'.q (max r1.pk (zH zI ((max s.lv r100)+tp)))).pk,(0:Int)))=C (bt7 c r' 0)/\RelD c s' r'/\Slo c s'.W r':=λr1 s' tp hi' S' ht hpk' a1 a2 a3 a4 a5 a6 a7 a8 a9=>by
  have S2:Slo c s'.W (qG r1 s'.p s'.q r1.pk):=⟨S'.kp,S'.sx,S'.len,S'.slot⟩;have hl:=aM0 h hi' S2;have hin:=bl7 h hi';rw[hl];simp only[zG];rw[bq (by omega),a8,hpk'];exact⟨qG r1 s'.p s'.q s'.pk,rfl,⟨a1,rfl,rfl,a2,a3,a4,a5,a6,rfl,a7⟩,⟨S'.kp,S'.sx,S'.len,S'.slot⟩⟩
 rcases hk with rfl|rfl|rfl|rfl|rfl|rfl|rfl
 .have hn:=xx h2 (by omega);simp only[aB,reduceIte]at hdo⊢;by_cases h5:s.L-s.p<n
  .rw[zE h5]at hdo;subst hdo;rw[zE h5,zB (by simp),zC];exact same
  rw[zF h5]at hdo;subst hdo;rw[zF h5,zA (by simp),zD,h.rof];simp only[zG];rw[hlive];simp only[zG];simp only[decide_true,decide_false,zC,zD];have hadv:=Hs.advW h wT s.p n.toNat;have hl:=cP9 (r:=r) h wT k1 k4 (m:=n.toNat) (a:=1) (n:=n) (x0:=vS c s.W) (x1:=s.L) (x2:=s.p) (x3:=s.q) (x4:=s.L) (x5:=s.p+n) (x6:=s.q) (x7:=vS c s.W) (x8:=0+n) (by omega) (by rw[ep];omega) hcr' (by omega);rw[eL,ep,eq']at hl;rw[hl];simp only[zG];have:=fin (li c r n.toNat) _ 0 hinv (S.kept (r':=li c r n.toNat) (cb0 h hW s.p n.toNat) rfl rfl rfl) (by omega) (by simp only;omega) eL (by show r.n0+((n.toNat:Nat):Int)=s.c0+n;rw[H.n0];omega) H.n1 H.n2 H.n3 H.ls (by show Has c (advW c s.W s.p n.toNat) (aN4 c r.p r.st n.toNat) r.ax r.th;rw[ep];exact hadv) epk (by omega);exact this
 .obtain⟨en,hlt,ht⟩:=slot (by omega);simp only[aB,reduceIte]at hdo⊢;rw[ht];have hks:n.toNat<r.sl.length:=by omega
  have hsl:=S.slot n.toNat hks;have hst:=af7 S hks;by_cases h5:0<=eu c s.W n.toNat-1
  .rw[zE h5]at hdo;subst hdo;rw[zE h5,zB (by simp),zC];exact same
  rw[zF h5]at hdo;subst hdo;rw[zF h5,zA (by simp),zD,h.rof];simp only[zG];rw[hlive];simp only[zG,decide_true,decide_false,zC,zD];have hS:=co9 (l:=r.sl) (sx:=r.sx) (k:=n.toNat) (t:=s.p) (x:=r.st) (by omega) hks (by omega) (by rw[S.sx,k1]) (by omega);rw[<-en]at hS;rw[hS];simp only[zG]
  have eW:zH zJ (zH zI (s.p+1))::seg s.W (c.off 1) c.X.length=(s.p+1)::r.st:=by
   rw[bq (by omega),qe ⟨by omega,by omega⟩,Hs.s]
  have hsp:=wB h hm hlt;have hx1:((s.p+1)::r.st).length=c.X.length+1:=by rw[List.length_cons,k1]
  have wx1:cg ((s.p+1)::r.st):=λv hv=>by
   rcases List.mem_cons.1 hv with rfl|hv
   .unfold du;omega
   .exact k4 v hv
  rw[eW]at hinv⊢;exact fin {r with L:=s.L,sl:=r.sl.set n.toNat (s.p,r.st)} _ 0 hinv (S.put h hm hW hlt k1 (.inl ⟨hp.1,rfl⟩) rfl rfl rfl) (by omega) (by simp only;omega) rfl H.n0 H.n1 H.n2 H.n3 H.ls (Hs.put8 h (by unfold sp;omega) (by rw[hx1];omega) wx1) epk (by omega)
 .obtain⟨en,hlt,ht⟩:=slot (by omega);simp only[aB,reduceIte]at hdo⊢;rw[ht];have hks:n.toNat<r.sl.length:=by omega
  have hsl:=S.slot n.toNat hks;have hst:=af7 S hks;by_cases h5:eu c s.W n.toNat-1<0
  .rw[zE h5]at hdo;subst hdo;rw[zE h5,zB (by simp),zC];exact same
  rw[zF h5]at hdo;subst hdo;rw[zF h5,zA (by simp),zD,h.rof];simp only[zG];rw[hlive];simp only[zG,decide_true,decide_false,zC,zD];have hS:=bI2 (l:=r.sl) (sx:=r.sx) (k:=n.toNat) hks (by omega);rw[<-en]at hS;rw[hS];simp only[zG]
  have hx:r.sl[n.toNat].2=seg s.W (sp c n.toNat+1) c.X.length:=by
   rcases hsl.2 with⟨_,q⟩|⟨q,_⟩
   .exact q
   .omega
  have hsp:=wB h hm hlt;have htk:=hW.tk h;have hl2:(seg s.W (sp c n.toNat+1) c.X.length).length=c.X.length:=jK (by omega)
  exact fin {r with L:=s.L,st:=r.sl[n.toNat].2} _ 0 hinv (S.kept (fe.put h (fe.refl s.W) hW (i:=1) (by omega) (by rw[hl2];exact Nat.le_refl _)) rfl rfl rfl) (by omega) (by simp only;omega) rfl H.n0 H.n1 H.n2 H.n3 H.ls (by
   show Has c (put s.W (c.off 1) (seg s.W (sp c n.toNat+1) c.X.length)) r.sl[n.toNat].2 r.ax r.th;rw[hx]
   exact Hs.put1 h hl2 (Hs.w.seg _ _)) epk (by omega)
 .obtain⟨en,hlt,ht⟩:=slot (by omega);simp only[aB,reduceIte]at hdo⊢;rw[ht];have hks:n.toNat<r.sl.length:=by omega
  have hsl:=S.slot n.toNat hks;have hst:=af7 S hks;by_cases h5:eu c s.W n.toNat-1<0
  .rw[zE h5]at hdo;subst hdo;rw[zE h5,zB (by simp),zC];exact same
  rw[zF h5]at hdo;subst hdo;rw[zF h5,zA (by simp),zD,h.rof];simp only[zG];rw[hlive];simp only[zG,decide_true,decide_false,zC,zD];have hS:=cy9 (l:=r.sl) (sx:=r.sx) (k:=n.toNat) (by omega) hks (by omega);rw[<-en]at hS;rw[hS];simp only[zG];have hsp:=wB h hm hlt;have eW:dg (c.X.length+1)=(-1+1)::dg c.X.length:=rfl;have hlh:=cU1 h hi (da4 hlt (by omega))
  exact fin {r with L:=s.L,sl:=r.sl.set n.toNat (-1,[])} _ 0 hinv (by
   show Slo c (put s.W (sp c n.toNat) (dg (c.X.length+1))) _;rw[eW]
   exact S.put h hm hW hlt (gl _) (.inr ⟨rfl,rfl⟩) rfl rfl rfl) (by omega) (by simp only;omega) rfl H.n0 H.n1 H.n2 H.n3 H.ls (Hs.put8 h (by unfold sp;omega) (by rw[gl];omega) (cg.rep _)) epk (by omega)
 .simp only[aB,reduceIte]at hdo⊢;by_cases h5:s.q≠ -1
  .rw[zE h5]at hdo;subst hdo;rw[zE h5,zB (by simp),zC];exact same
  rw[zF h5]at hdo⊢;by_cases h6:s.p≠s.L
  .rw[zE h6]at hdo;subst hdo;rw[zE h6,zB (by simp),zC];exact same
  rw[zF h6]at hdo;subst hdo;rw[zF h6,zA (by simp),zD,h.rof];simp only[zG];rw[hlive];simp only[zG,decide_true,decide_false,zC,zD];have he:lY c.mode c.X c.T c.R c.l c.Q c.k c.len c.words c.R c.l c.Q c.k (c.X.length:Int) c.T c.fixed c.tp c.sl c.ns s.L s.p s.q r.st r.sl r.sx r.kp r.ax r.th r.ls r.n0 r.n1 r.n2 r.n3 r.pk r.st=_:=ba8 (r:={r with L:=s.L,p:=s.p,q:=s.q}) h wT k1 k4 k3 k6 hcr' (by omega);rw[he];simp only[zG];have hE:=Hs.endd h wT k1 k4;have eW:seg s.W (c.off 1) c.X.length=r.st:=Hs.s;rw[eW]at hinv⊢;exact fin {vQ c r.st r with L:=s.L} _ (c.fk.n:Int) hinv (S.kept (bl6 h hW k1) rfl rfl rfl) (by omega) (by simp only;omega) rfl H.n0 H.n1 (by show r.n2+1=s.c2+1;rw[H.n2]) (by show r.n3+1=s.c3+1;rw[H.n3]) (Hs.lossV h wT r.st).symm hE epk (by have:=h.pk.n;omega)
 .simp only[aB,reduceIte]at hdo⊢;by_cases h5:s.q≠ -1
  .rw[zE h5]at hdo;subst hdo;rw[zE h5,zB (by simp),zC];exact same
  rw[zF h5]at hdo⊢;by_cases h6:s.p≠s.L-1
  .rw[zE h6]at hdo;subst hdo;rw[zE h6,zB (by simp),zC];exact same
  rw[zF h6]at hdo;subst hdo;rw[zF h6,zA (by simp),zD,h.rof];simp only[zG];rw[hlive];simp only[zG,decide_true,decide_false,zC,zD];obtain⟨v1,v2⟩:=vA h wT (t:=s.p) k1 k4;rw[aN0 h wT (by omega) k1 k4];simp only[zG];generalize hx1:vz c s.p r.st=x1 at*;obtain⟨q1,q2⟩:=zQ h wT v1 v2;have he:lY c.mode c.X c.T c.R c.l c.Q c.k c.len c.words c.R c.l c.Q c.k (c.X.length:Int) c.T c.fixed c.tp c.sl c.ns s.L s.p s.q r.st r.sl r.sx r.kp r.ax r.th r.ls r.n0 r.n1 r.n2 r.n3 r.pk x1=C (c.mode,c.X,c.T,c.R,c.l,c.Q,c.k,c.len,c.words,c.R,c.l,c.Q,c.k,(c.X.length:Int),c.T,c.fixed,c.tp,c.sl,c.ns,s.L,s.p,s.q,r.st,r.sl,r.sx,r.kp,(vQ c x1 r).ax,(vQ c x1 r).ls,(vQ c x1 r).n0,(vQ c x1 r).n1,(vQ c x1 r).n2,(vQ c x1 r).n3,r.pk,(vQ c x1 r).th):=ba8 (r:={r with L:=s.L,p:=s.p,q:=s.q}) h wT v1 v2 k3 k6 hcr' (by omega);rw[he];simp only[zG];have ht:kJ c.mode c.X c.T c.R c.l c.Q c.k c.len c.words c.R c.l c.Q c.k (c.X.length:Int) c.T c.fixed c.tp c.sl c.ns s.L s.p s.q r.st r.sl r.sx r.kp (vQ c x1 r).ax (vQ c x1 r).th (vQ c x1 r).ls (vQ c x1 r).n0 (vQ c x1 r).n1 (vQ c x1 r).n2 (vQ c x1 r).n3 r.pk s.p r.st=_:=aN1 (r:={vQ c x1 r with L:=s.L,p:=s.p,q:=s.q}) (B:=4611686018427387904) h wT (by omega) k1 k4 (by show((yB c x1).take c.X.length).length=_;rw[List.length_take];omega) (q2.take _) (by show(yY c.X.length r.th (yB c x1)).length=_;rw[ae2];exact k3) (cP7 _ _ _) (by unfold aO2 Cnt at*;show(0<=r.n0/\r.n0<=4611686018427387904)/\(0<=r.n1/\r.n1<=4611686018427387904)/\(0<=r.n2+1/\r.n2+1<=4611686018427387904)/\0<=r.n3+1/\r.n3+1<=4611686018427387904;omega) (by omega)
  have hE:=Hs.both h wT s.p;rw[hx1]at hE
  have eZ:rg (lossR c (put s.W (c.off 2) (stepR c s.W s.p).1) ((stepR c s.W s.p).1.take c.X.length)).1 0=lossV c x1:=by
   rw[(Hs.taped h wT s.p).lossV h wT,Hs.stepR h,(rE h wT (t:=s.p) k1 k4).2.2.2.2,hx1]
  rw[eZ]at hinv⊢;unfold Cnt at hc;rw[ht];simp only[zG];show∃r',((il _ _ _ _ _ _ _ _ _ _ _ _ _ _ _ _ _ _ _ _ _ _ _ _ _ _ _ _ _ _ (zH zI (r.n1+1)) _ _ _).bind λr100=>C (_,_,_,_,_,_,_,_,_,_,_,_,_,_,_,_,_,_,_,_,_,_,_,_,_,_,_,_,_,_,(zH zI (r.n1+1)),_,_,max r.pk (zH zI ((max s.lv r100)+(zH zI ((c.fl.n:Int)+(c.fk.n:Int))))),0))=_/\_
  have hfn:=h.pl.n;have hfk:=h.pk.n;rw[bq (n:=r.n1+1) (by have:=H.n1;omega),bq (n:=(c.fl.n:Int)+(c.fk.n:Int)) (by omega)];exact fin {bN2 c s.p r.st (vQ c x1 r)with L:=s.L,n1:=r.n1+1} _ ((c.fl.n:Int)+(c.fk.n:Int)) hinv (S.kept (bv0 h hW s.p).1 rfl rfl rfl) (by omega) (by simp only;omega) rfl H.n0 (by show r.n1+1=s.c1+1;rw[H.n1]) (by show r.n2+1=s.c2+1;rw[H.n2]) (by show r.n3+1+1=s.c3+1+1;rw[H.n3]) rfl hE epk (by omega)
 .simp only[aB,reduceIte]at hdo⊢;by_cases h5:s.q<=0
  .rw[zE h5]at hdo;subst hdo;rw[zE h5,zB (by simp),zC];exact same
  rw[zF h5]at hdo⊢;by_cases h6:s.p≠s.q-1
  .rw[zE h6]at hdo;subst hdo;rw[zE h6,zB (by simp),zC];exact same
  rw[zF h6]at hdo;subst hdo;rw[zF h6,zA (by simp),zD,h.rof];simp only[zG];rw[hlive];simp only[zG,decide_true,decide_false,zC,zD];have ht:kJ c.mode c.X c.T c.R c.l c.Q c.k c.len c.words c.R c.l c.Q c.k (c.X.length:Int) c.T c.fixed c.tp c.sl c.ns s.L s.p s.q r.st r.sl r.sx r.kp r.ax r.th r.ls r.n0 r.n1 r.n2 r.n3 r.pk s.p r.st=_:=aN1 (r:={r with L:=s.L,p:=s.p,q:=s.q}) h wT (by omega) k1 k4 k2 k5 k3 k6 hcr' (by omega);have hE:=Hs.rev h wT s.p;unfold Cnt at hc;rw[ht];simp only[zG];have hfn:=h.pl.n;rw[bq (n:=r.n1+1) (by have:=H.n1;omega)];exact fin {bN2 c s.p r.st r with L:=s.L,n1:=r.n1+1} _ (c.fl.n:Int) hinv (S.kept (cb1 h hW s.p).1 rfl rfl rfl) (by omega) (by simp only;omega) rfl H.n0 (by show r.n1+1=s.c1+1;rw[H.n1]) H.n2 (by show r.n3+1=s.c3+1;rw[H.n3]) H.ls hE epk (by omega)
end
end
section
open List renaming length_take -> aB, take_succ_eq_append_getElem -> aD
section
variable {c:Cx} {r:RS}
structure Bas (c:Cx)(s:Dy)(r:RS):Prop where
 sl:r.sl=[]
 len:(r.kp.length:Int)=lu s
 kept: ∀i,∀hi:i<r.kp.length,r.kp[i].length=c.X.length/\cg r.kp[i]/\seg s.W (po c i) c.sl.toNat=(mH c (i:Int) r.kp[i]).2.1++(mH c (i:Int) r.kp[i]).1
theorem cl8 {s:Dy}(hi:InvB c s):0<=lu s/\lu s<=s.L:=by
 have:=hi.p;have:=hi.q;unfold lu;split<;>omega
theorem aZ5 (h:c.Ok)(hm:c.mode=3){s:Dy}(hi:InvB c s)(H:Bas c s r):il c.mode c.X c.T c.R c.l c.Q c.k c.len c.words c.R c.l c.Q c.k (c.X.length:Int) c.T c.fixed c.tp c.sl c.ns r.L r.p r.q r.st r.sl r.sx r.kp r.ax r.th r.ls r.n0 r.n1 r.n2 r.n3 r.pk=C s.lv:=by
 obtain⟨b1,b2,b3,b4,b5,b6,b7⟩:=cb3 h hm hi;have hh:=cl8 hi;have hf:=ae9 h;have hn:=h.ns;have nm:=h.num;have hsl0:0<=c.sl:=by rw[nm.sl];have:=nm.R;split<;>omega
 have hlv:=hi.lv;have h0:0<=c.sl*lu s:=Int.mul_nonneg hsl0 hh.1;have e:(((r.sl.countP λx=>Zc (0<=x.1):Nat):Int)+r.kp.length)=lu s:=by rw[H.sl,H.len];simp
 have hkl:r.kp.length<=65535:=by have:=H.len;have:=hi.L;have:=nm.len;omega
 rw[bx5 h (by rw[H.sl];simp) (by omega) (by rw[e];omega) (by omega),e,hlv]
theorem aU9 (h:c.Ok)(e:jc c.mode c.X.length c.T.length c.R c.l c.Q c.k c.len c.words=(c.fixed,c.tp,c.sl,c.ns,0)):mT c.mode c.X c.T c.R c.l c.Q c.k c.len c.words=C (0,c.P):=by
 obtain⟨p,p1,p2,_⟩:=cL9 (a0:=c.mode) (a1:=c.X) (a2:=c.T) (a3:=c.R) (a5:=c.Q) (a7:=c.len) (a8:=c.words) h.hl h.hk;rw[bw2 h e]at p1;injection p1 with p1
 rw[p2,<-p1]
theorem cz5 (h:c.Ok)(wT:cg c.T){i:Nat}(hi:i<r.kp.length)(hi2:i<65536)(hx:r.kp[i].length=c.X.length)(wx:cg r.kp[i]):xc c.mode c.X c.T c.R c.l c.Q c.k c.len c.words c.R c.l c.Q c.k (c.X.length:Int) c.T c.fixed c.tp c.sl c.ns r.L r.p r.q r.st r.sl r.sx r.kp r.ax r.th r.ls r.n0 r.n1 r.n2 r.n3 r.pk (i:Int)=C ((mH c (i:Int) r.kp[i]).2.1++(mH c (i:Int) r.kp[i]).1):=by
 obtain⟨⟨l1,l2⟩,hR,hQ,x1,x2,t2⟩:=h.lens;obtain⟨f1,f2,f3,f4,f5⟩:=rE h wT (t:=(i:Int)) hx wx;have hb:=vl (c:=c) (i:Int) hx;have hu:=h.pl.ulen;have hg:=h.pl.goodU;have wb:=ax7 (t:=(i:Int)) wx wT;unfold xc mt;rw[tE h.pl];simp only[zG];rw[ci hi];simp only[zG];rw[pU (by omega) (by omega) (by simp)];simp only[zG];have e:r.kp[i]++(c.T++[IntKind.u64.wrap (i:Int)])=xm c (i:Int) r.kp[i]:=rfl;rw[e,vq ⟨by omega,by omega⟩ (by omega)];simp only[zG];have hfl:(fill c.R (xm c (i:Int) r.kp[i])).length=c.R.toNat:=ip (by omega);have e1:mH c (i:Int) r.kp[i]=vC mm c.fl.unroll (fill c.R (xm c (i:Int) r.kp[i]),dg c.fl.n,0):=rfl;have wr0:cg (fill c.R (xm c (i:Int) r.kp[i])):=wb.fill;rw[e1]at f1 f2 f3 f4⊢;generalize fill c.R (xm c (i:Int) r.kp[i])=r0 at*
 have key:=ff (f:=rb (c.fl.unroll,0)) (n:=c.fl.unroll.length) (λk=>((vC mm (c.fl.unroll.take k) (r0,dg c.fl.n,0)).2.1.take k,(vC mm (c.fl.unroll.take k) (r0,dg c.fl.n,0)).1)) (c:=((vC mm c.fl.unroll (r0,dg c.fl.n,0)).2.1,(vC mm c.fl.unroll (r0,dg c.fl.n,0)).1)) (by omega)
  (λk hk=>by
   rw[bz3 hk];obtain⟨e3,e4,e5⟩:=aS9 (c.fl.unroll.take k) (r0,dg c.fl.n,0);obtain⟨e6,e7⟩:=cw3 (c.fl.unroll.take k) (r0,dg c.fl.n,0) wr0 (cg.rep _) (λo ho=>(hg o (List.mem_of_mem_take ho)).2);rw[aB,Nat.min_eq_left (by omega)]at e5;generalize vC mm (c.fl.unroll.take k) (r0,dg c.fl.n,0)=s at*;have hgi:=hg _ (List.getElem_mem hk)
   have hcut:ae4 c.fl.unroll (k:Int) ((k+1:Nat):Int)=[c.fl.unroll[k]]:=by
    unfold ae4;simp only[Int.toNat_natCast];rw[aD hk,List.drop_left' (by rw[aB];omega)]
   generalize hx:c.fl.unroll[k]=x at*;obtain⟨kd,ka,kb,q1,q2,q3,g1,g2,g3⟩:=zO hgi.1;have e3:s.1.length=r0.length:=e3;have e4:s.2.1.length=(dg c.fl.n).length:=e4;rw[gl]at e4;have e5:s.2.2=k:=by rw[e5];simp
   unfold rb;simp only;rw[zB (by omega),zC,ci hk,hx];simp only[zG];rw[q1,cl (by omega:kd<s.1.length)];simp only[zG];rw[fh (by omega:kd<s.1.length)];simp only[zG];rw[dh (by rw[aB];omega) (by omega),bq (n:=(k:Int)+1) (by omega),show(k:Int)+1=((k+1:Nat):Int)by omega,lF (by omega),fq,hcut];rw[az9 (l:=[x]) (r:=s.1) (by simp) (by omega) (λo ho=>by rw[List.mem_singleton.1 ho,e3,hfl];exact hgi) e6 0];simp only[zG]
   have e8:(mm x s).2.1.take (k+1)=s.2.1.take k++[rg s.1 (kd:Int)]:=by
    unfold mm;simp only;rw[e5,q1,aD (by rw[List.length_set];omega),List.getElem_set_self,List.take_set_of_le (Nat.le_refl _)]
   rw[e8];unfold mm;rw[q1];show C (Sum.inl (_,_,(vC an6 [x] (s.1,0)).1))=_
   have e9:(vC an6 [x] (s.1,0)).1=s.1.set kd (app x (rg s.1 x.2.2.1) (rg s.1 x.2.2.2.1)):=by
    show s.1.set x.2.1.toNat _=_;rw[q1];rfl
   rw[e9]
   rfl)
  (by
   unfold rb;rw[zA (by simp),zD,List.take_length,hu.1];simp only
   rw[List.take_of_length_le (by omega)])
 rw[show((0:Int),([]:Zd),r0)=((0:Int),(vC mm (c.fl.unroll.take 0) (r0,dg c.fl.n,0)).2.1.take 0,(vC mm (c.fl.unroll.take 0) (r0,dg c.fl.n,0)).1)from rfl,key];simp only[zG];rw[pU (by omega) (by omega) (by simp)];simp only[zG,List.append_nil]
end
end
end Go.V
