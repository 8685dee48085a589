/- A part of the proof. No condition. -/
import Derived.Test.YtlmlogmcgeijcaaGreatDoorL4
import Derived.KernelRfl
import Derived.Test.YtlmlogmcgeijcaaGreatDoorL3
set_option linter.all false
namespace Go.V
open Go.Ab
open Option renaming some->O,none->Y
open Bool renaming true->Za,false->Zb
open Decidable renaming decide->Zc
open List renaming length->dt
open Int renaming toNat->eL
open Option renaming bind->ek
variable {W a cs r t w x:Zd}{s:Dy}{f i l:Nat}{en:Bool}{es:List Ev}{bs:List Bool}
set_option maxRecDepth 100000
section
open Int renaming toNat_natCast -> bD, eq_ofNat_of_zero_le -> cB
open List renaming length_append -> aB, length_singleton -> aD, length -> bB, append_assoc -> cD, nil_append -> cK
def aE8 {α δ:Type}{f:α->Option (α⊕δ)}{n:Nat}{a b:α}{r:Option δ}(h:f a=O (.inl b))(k:am f n b=r):am f (n+1) a=r:=by
 show(f a).bind _=_;rw[h];exact k
def Un {α δ:Type}{f:α->Option (α⊕δ)}{n:Nat}{a:α}{c:δ}(h:f a=O (.inr c)):am f (n+1) a=O c:=by
 show(f a).bind _=_;rw[h];rfl
def aF9 (h:i<9223372036854775807):IntKind.i64.wrap ((i:Int)+1)=((i+1:Nat):Int):=by rw[Zi];rfl
def GQ {n:Int}(h:n<=18446744073709551615):dt (ER (eL n))<=20:=by rw[ab2];exact aO8 _ V1
def am7 {n:Int}(h:0<=n/\n<=18446744073709551615):tV n=O (ER (eL n)):=by
 obtain⟨m,rfl⟩:=cB h.1;rw[bD];exact UU m V1
def aE4 {α:Type}(a:Bool)(x y:α):cond a (O x) (O y)=O (cond a x y):=by cases a<;>rfl
def cnd (a x y:Bool):(cond a x y=Za)↔((a=Za/\x=Za)∨(¬a=Za/\y=Za)):=by cases a<;>simp
def aU7 {b:Bool}{p:Prop}[Decidable p](h:b=Za↔p):b=decide p:=by
 by_cases d:p
 .rw[zB d,h.2 d]
 .rw[zA d,Bool.eq_false_iff];exact λe=>d (h.1 e)
def Ht (k n:Int):Prop:=(k=1/\1<=n/\n<=65535)∨(2<=k/\k<=4/\0<=n/\n<=1048575)∨(5<=k/\k<=9/\n=0)
instance (k n:Int):Decidable (Ht k n):=by unfold Ht;infer_instance
def NO (k n:Int):kL k n=O (Zc (Ht k n)):=by
 unfold kL jw;simp only[aE4,zG];refine congrArg O (aU7 ?_);simp only[cnd,decide_eq_true_eq,Ht,Bool.false_eq_true,and_false,false_and,or_false,false_or,and_true,true_and];omega
def ad4 : ∀n:Nat,u8I (Lib.decDigits n)=ER n:=by
 intro n;induction n using Nat.strongRecOn with
 |ind n d=>
  by_cases h:n<10
  .rw[zw h,Lib.decDigits,dif_pos h];show [((UInt8.ofNat (48+n)).toNat:Int)]=_;rw[UInt8.toNat_ofNat']
   congr 1
   omega
  .rw[HE h,Lib.decDigits,dif_neg h,aB9,d _ V1]
   congr 1
   show [((UInt8.ofNat (48+n % 10)).toNat:Int)]=_;rw[UInt8.toNat_ofNat']
   congr 1
   omega
def ad5 {n:Nat}(h:n<=9223372036854775807):Oi (n:Int)=O (ER n):=by
 unfold Oi ad3 Lib.itoa;rw[Zh,Zf,Zf,bD,ad4];rfl
def B2 {β:Type}{a b:Nat}(h:a+b<=140737488355328){x:Option β}:gd (Jx a b) x=x:=by
 unfold Jx;rw[Nat.ble_eq_true_of_le h];rfl
def nmL :List (Zd):=[[],[97,100,118,97,110,99,101],[115,116,111,114,101],[114,101,115,116,111,114,101],[102,114,101,101],[115,101,101,100],[98,111,116,104],[114,101,118,101,114,115,101],[116,97,112,101],[98,97,99,107]]
def nm (k:Int):Zd:=nmL.getD (eL k) []
def RY (a:Int×Int):Zd:=nm a.1++((if a.1<=4 then 32::ER (eL a.2) else [])++[10])
def ag5 (k:Int):dt (nm k)<=7:=by
 unfold nm
 have h: ∀j:Nat,dt (nmL.getD j [])<=7:=by
  intro j
  match j with
  |0|1|2|3|4|5|6|7|8|9=>decide
  |j+10=>exact Nat.zero_le _
 exact h _
def XI {a:Int×Int}(h:a.2<=18446744073709551615):dt (RY a)<=30:=by
 unfold RY;have d:=ag5 a.1;have e:=GQ h;simp only[aB,aD];split<;>simp<;>omega
section
variable {l:List (Int×Int)}
def ai5 {s:Zd}(u:dt l<=6000)(hi:i<dt l)(v:dt s<=1000000)(g:Ht l[i].1 l[i].2):fU l ((i:Int),s)=O (.inl (((i+1:Nat):Int),s++RY l[i])):=by
 have d:=g;unfold Ht at d;unfold fU;simp only;rw[zB (show(i:Int)<((dt l:Nat):Int)by omega),zC,cg hi];generalize l[i]=x at*;have⟨k,n⟩:=x;simp only at g d;obtain⟨a,rfl⟩:=cB (show 0<=k by omega);obtain⟨b,rfl⟩:=cB (show 0<=n by omega);simp only[zG,NO,zB g,Bool.not_true,zD,yL];rw[br (show a<10 by omega),zG]
 have e: ∀j,List.getD [([]:Zd),[97,100,118,97,110,99,101],[115,116,111,114,101],[114,101,115,116,111,114,101],[102,114,101,101],[115,101,101,100],[98,111,116,104],[114,101,118,101,114,115,101],[116,97,112,101],[98,97,99,107]] j []=nm (j:Int):=λj=>by
  unfold nm;rw[bD];rfl
 simp only[e];have o:=ag5 (a:Int);rw[B2 V1];have p:dt (ER b)<=20:=by have:=GQ (n:=(b:Int)) V1;rwa [bD]at this
 unfold jw qi RY;simp only[aE4,zG];by_cases q:a<=4
 .rw[zB (show(1:Int)<=(a:Int)by omega),zB (show(a:Int)<=4 by omega)];simp only[zC];rw[ad5 V1,zG,B3 Zs,B2 ZA,zG,B2 ZA,aF9 V1,zE (show(a:Int)<=4 by omega),bD];simp only[cD,List.singleton_append,List.cons_append,cK]
 .rw[zB (show(1:Int)<=(a:Int)by omega),zA (show¬(a:Int)<=4 by omega)];simp only[zC,zD,zG];rw[B2 ZA,aF9 V1,zF (show¬(a:Int)<=4 by omega)];simp only[cD,cK]
def XZ {s:Zd}(hi:i<dt l)(d: ¬Ht l[i].1 l[i].2):fU l ((i:Int),s)=O (.inr (.inl ([],s))):=by
 unfold fU;simp only;rw[zB (show(i:Int)<((dt l:Nat):Int)by omega),zC,cg hi];simp only[zG,NO,zA d,Bool.not_false,zC]
def X0 {s:Zd}:fU l (((dt l:Nat):Int),s)=O (.inr (.inr s)):=by
 unfold fU;simp only;rw[zA (show¬((dt l:Nat):Int)<((dt l:Nat):Int)by omega),zD]
end
def Da {l:List (Int×Int)}(y:dt l<=6000): ∃t e,kK l=O (t,e)/\(dt t)<=200000:=by
 have o: ∀(k i n:Nat) (s:Zd),i+k=dt l->k<n->dt s<=30*i->∃r,am (fU l) n ((i:Int),s)=O r/\(∀p,r= .inl p->p.1=[])/\∀t,r= .inr t->dt t<=200000:=by
  intro k;induction k with
  |zero=>
   intro i n s g j u;obtain⟨n,rfl⟩: ∃q,n=q+1:=⟨n-1,V1⟩
   have:i=dt l:=by omega
   subst this;exact⟨_,Un X0,λp h=>by(cases h),λt h=>by cases h;omega⟩
  |succ k z=>
   intro i n s g j u;obtain⟨n,rfl⟩: ∃q,n=q+1:=⟨n-1,V1⟩
   have hi:i<dt l:=by omega
   by_cases d:Ht l[i].1 l[i].2
   .have v:=d;unfold Ht at v;have A:=XI (a:=l[i]) V1;have⟨r,e,h⟩:=z (i+1) n (s++RY l[i]) V1 V1 Z2;exact⟨r,aE8 (ai5 y hi V1 d) e,h⟩
   .exact⟨_,Un (XZ hi d),λp h=>by cases h;rfl,λt h=>by(cases h)⟩
 have⟨r,e,g,j⟩:=o (dt l) 0 cv [] V1 Zm V2;unfold kK;have e:am (fU l) cv (0,[])=O r:=e;rw[e];cases r with
 |inl p=>exact⟨_,_,rfl,by rw[g p rfl];simp⟩
 |inr t=>exact⟨_,_,rfl,j t rfl⟩
def MH {l:Zd}(A:dt w<=10)(z:dt l<=64)(u:gE l): ∃t,fD w l=O t/\(dt t)<=5000:=by
 have d: ∀(k i n:Nat) (s:Zd),i+k=dt l->k<n->dt s<=10+30*i->∃t,am (sA l) n ((i:Int),s)=O t/\(dt t)<=2000:=by
  intro k;induction k with
  |zero=>
   intro i n s o p q;obtain⟨n,rfl⟩: ∃g,n=g+1:=⟨n-1,V1⟩
   refine⟨s,Un ?_,V1⟩;unfold sA;rw[zA Zn,zD]
  |succ k v=>
   intro i n s o p q;obtain⟨n,rfl⟩: ∃g,n=g+1:=⟨n-1,V1⟩
   have hi:i<dt l:=by omega
   have j:=u _ (List.getElem_mem hi);have y:=GQ j.2;have⟨t,e,h⟩:=v (i+1) n (s++(([32]:Zd)++ER (eL (l[i])))) V1 V1 ZA;refine⟨t,aE8 ?_ e,h⟩;unfold sA;rw[zB Zn,zC];refine cd (cg hi) ?_;refine cd (am7 j) ?_;rw[B3 Zs,B2 ZA,Zi];rfl
 have⟨t,e,h⟩:=d (dt l) 0 cv w V1 Zm V1;refine⟨t++[10], ?_,by simp only[aB,aD];omega⟩;unfold fD;rw[B2 V3];refine cd e ?_;rw[B3 Zs]
def Gx (l:List (Int×Int))(z:Int)(x t:Zd):Option (Zd):=
 ek (kK l) λd=>
 ek (fD (([108,111,115,115]:Zd)) [z]) λe=>
 gd (tg (bB d.1) (bB e)) (ek (fD (([120]:Zd)) x) λg=>
 gd (tg (bB ((d.1++e))) (bB g)) (ek (fD (([116,104,101,116,97]:Zd)) t) λj=>
 gd (tg (bB (((d.1++e)++g))) (bB j)) (O ((((d.1++e)++g)++j)))))
def Yi {l:List (Int×Int)}(u:dt l<=6000){z:Int}(B:0<=z/\z<=18446744073709551615)(A:dt x<=64)(H:gE x)(v:dt t<=64)(F:gE t): ∃r,Gx l z x t=O r:=by
 have⟨p,e,g,I⟩:=Da u;have⟨C,j,J⟩:=MH (w:=[108,111,115,115]) (l:=[z]) V2 V2 (λy d=>by rw[List.mem_singleton]at d;subst d;exact B);have⟨D,o,K⟩:=MH (w:=[120]) V2 A H;have⟨E,q,L⟩:=MH (w:=[116,104,101,116,97]) V2 v F;refine⟨((p++C)++D)++E, ?_⟩;unfold Gx;refine cd g ?_;refine cd j ?_;rw[B3 Zn];refine cd o ?_;rw[B3 (by simp only[aB];omega)];refine cd q ?_;rw[B3 (by simp only[aB];omega)]
end
section
section
variable {l:List bz} {R:Int} {f:Fo}
def aj1 (h:Prg R l f)(e:df r)(g:df t):df (Dd f r t).1/\df (Dd f r t).2.1:=aN0 f.unroll (r,t,0) e g (λo d=>(h.goodU o d).2)
def PK (j:df r)(g:df a)(o:df t):df (jZ f r a t).1/\df (jZ f r a t).2.1:=by
 have⟨_,_,_,d,e⟩:=ar8 o f.unroll (r,a,f.n) j g;exact⟨d,e⟩
end
def df.one {v:Int}(h:Rf v):df [v]:=λx d=>by rw[List.mem_singleton.1 d];exact h
def df.cons {v:Int}{l:Zd}(h:Rf v)(k:df l):df (v::l):=λx hx=>by
 rcases List.mem_cons.1 hx with rfl|hx
 .exact h
 .exact k x hx
def WW (s:Dy):Prop:=df s.W/\Rf s.z
section
variable {c:Cx} (h:c.Ok)
include h
def Wr (w:df W)(p:Int):df (i6 c W p).1/\df (i6 c W p).2.1:=
 aj1 h.pl (df.fill ((w.seg _ _).app ((w.seg _ _).app (df.one (U9 _))))) (df.rep _)
def KB (w:df W)(k:df x):df (nA c W x).1/\df (nA c W x).2.1:=
 aj1 h.pk (df.fill (k.app ((w.seg _ _).app (df.rep 0)))) (df.rep _)
omit h in
def PJ (w:df W)(k:df a):df (DA c W a):=((w.put k _).put (k.take _) _).put (aJ6 _ _ _) _
def TV (w:df W)(k:df x):df (NB c W x):=by
 have⟨d,e⟩:=KB h w k;exact PJ (w.put d _) (PK d (df.fill (df.one (show Rf 1 by unfold Rf;omega))) e).2
omit h in
def Wv (w:df W)(d:df r)(e:df t):df (ON c W r t):=PJ w (PK d (df.fill (w.seg _ _)) e).2
def YM {W:Zd}(w:df W)(p:Int): ∀i,df (Kd c W p i)
 |0=>w
 |i+1=>by
  have d:=YM w p i;have k:df (MV c (Kd c W p i) (p+i)):=aM9 _ _ (df.fill ((d.seg _ _).app ((d.seg _ _).app (df.one (U9 _))))) (λo e=>(h.pl.goodU o e).2);exact(d.put k _).put (k.take _) _
omit h in
def iH {p:Prop}[Decidable p]{x y:Int×Dy}(d:WW x.2)(e:WW y.2):WW (if p then x else y).2:=by
 by_cases k:p
 .rw[zE k];exact d
 .rw[zF k];exact e
def aZ1 (w:WW s)(a n:Int):WW (HG c a n s).2:=by
 have e:=w;obtain⟨w,z⟩:=w;have g:=w.seg (c.off 1) (dt c.X);have⟨d,o⟩:=Wr h w s.p;have j:=w.put d (c.off 2);unfold HG;refine iH e (iH e (iH (iH e ⟨YM h w _ _,z⟩) (iH (iH e ⟨w.put (df.cons (U9 _) g) _,z⟩) (iH (iH e ⟨w.put (w.seg _ _) _,z⟩) (iH (iH e ⟨w.put (df.rep _) _,z⟩) (iH (iH e (iH e ⟨TV h w g,Qy (KB h w g).1 0⟩)) (iH (iH e (iH e ⟨Wv (TV h j (d.take _)) d o,Qy (KB h j (d.take _)).1 0⟩)) (iH e (iH e ⟨Wv j d o,z⟩)))))))))
def aZ2 (w:WW s)(a n:Int):WW (Gb c a n s).2:=by
 have e:=w;obtain⟨w,z⟩:=w;have j:=w.seg (c.off 1) (dt c.X);have⟨d,o⟩:=Wr h w s.p;have u:=w.put d (c.off 2);have g:=PK (f:=c.fl) (r:=Cb c s.W (eL (s.q-1))) (a:=fill c.R (seg s.W (c.off 5) (dt c.X))) (t:=xP c s.W (eL (s.q-1))) (w.seg _ _) (df.fill (w.seg _ _)) (w.seg _ _);unfold Gb;exact iH (iH e (iH e (iH e ⟨(u.put (o.app d) _).put (d.take _) _,z⟩))) (iH (iH e (iH e (iH e ⟨TV h w j,Qy (KB h w j).1 0⟩))) (iH (iH e (iH e ⟨(PJ w g.2).put (g.1.take _) _,z⟩)) e))
def Way.ww {q:Nat}{o:Bool}{p:Dy}(H:Way c l f en s es q o p):WW s->WW p:=by
 induction H with
 |nil=>exact id
 |act a b _ j=>exact λw=>j (by unfold sQ;split;exact aZ2 h w _ _;exact aZ1 h w _ _)
 |more a b d e g _ j=>exact λw=>j w
 |stop a b d e _ j=>exact j
omit h in
def aR9 (d:df c.T)(e:df c.X):WW (qE c):=by
 unfold qE;split
 .exact⟨((df.rep _).put d _).put e _,w0⟩
 .exact⟨(((df.rep _).put (df.rep _) _).put d _).put e _,w0⟩
end
end
section
open Go.IntKind renaming wrap -> zH, i64 -> zI, u64 -> zJ
open Int renaming le_of_lt_add_one -> cL, lt_of_le_of_lt -> cM
open List renaming length_take -> aB, length_append -> bB, range -> bD, length_cons -> cB, length_nil -> cD
open Nat renaming le_trans -> aD, zero_add -> cK
def ML {f:(Int×Zd)->Option ((Int×Zd)⊕(Zd))}{v:Zd}(g: ∀(i:Nat) (o:Zd),i<8->dt o<=10000->f ((i:Int),o)=O (.inl (((i+1:Nat):Int),o++[zH zJ (v.getD i 0)])))(e: ∀o,f (8,o)=O (.inr o))(j:dt a<=9000):
  am f cv (0,a)=O (a++(bD 8).map λi=>IntKind.u64.wrap (v.getD i 0)):=by
 have d:=eZ (f:=f) (n:=8) (F:=λi=>a++(bD i).map λi=>IntKind.u64.wrap (v.getD i 0)) (c:=a++(bD 8).map λi=>IntKind.u64.wrap (v.getD i 0)) V1 (λi hi=> ?_) (e _)
 .have:a++(bD 0).map (λi=>IntKind.u64.wrap (v.getD i 0))=a:=by simp
  rw[this]at d;exact d
 .rw[g i _ hi (by rw[bB,List.length_map,List.length_range];omega),List.range_succ,List.map_append,List.append_assoc];rfl
def ah9 (c:Cx)(s:Dy)(n:Nat):Zd:=([0,s.z]++ff [seg s.W (c.off 5) (dt c.X),seg s.W (c.off 6) (dt c.T)])++[zH zJ s.L,zH zJ c.ns,zH zJ s.c0,zH zJ s.c1,zH zJ s.c2,zH zJ s.c3,zH zJ s.pk,zH zJ (n:Int)]
section
variable {c:Cx} (h:c.Ok)
include h
def aA0 (p:c.mode=3)(e0:eo c.mode (dt c.X) (dt c.T) c.R c.l c.Q c.k c.len c.words=(c.fixed,c.tp,c.sl,c.ns,0))(j:dt cs<=1000000)(u:fM w=O (c.mode,c.R,c.l,c.Q,c.k,c.len,c.words,cs,0,c.X,c.T,bs))(hl:l<=40)(D:c.mode=2->dt bs=l)(H:Way c l 0 Zb (qE c) es f en s)(F:Fin c l f en s es):
  de w=O (ah9 c s (dt (kW es)))/\cq w=O (0,kW es)/\cx w=Gx (kW es) s.z (seg s.W (c.off 5) (dt c.X)) (seg s.W (c.off 6) (dt c.T)):=by
 have w0:=kJ h;have B:=H.well h w0;rw[cK]at B;have I:qE c=new1 c:=by unfold qE;rw[zE p]
 have d:=PS h p e0 j bs 0 (i:=0) V1 w0 Dc;have g:=ar3 h p e0 j hl D H F;have y:=WS h p e0 j hl D H F;rw[I]at d g y;have Z:=h.num.x;have hx2:=h.num.t;have A:gA c.mode c.X c.T c.R c.l c.Q c.k c.len c.words=O (eo c.mode (dt c.X) (dt c.T) c.R c.l c.Q c.k c.len c.words):=B8 h.hl h.hk;rw[e0]at A;refine⟨?_, ?_, ?_⟩
 .unfold de;refine cd u ?_;show cond (Zc ((0:Int)≠0)) _ _=_;rw[zA V2,zD];refine cd (ab7 h p e0) ?_;simp only[cb,gi];refine cd d ?_;refine cd g ?_;have C:=we h B;refine cd (a:=(s.z,0,seg s.W (c.off 5) (dt c.X),seg s.W (c.off 6) (dt c.T))) ?_ ?_
  .show fA _ _ _ _ _ _ _ _ _ _ _ _ _ _ _ _ _ _ _ _ _ _ _ _ _ _ _ _ _ _=_;unfold fA;rw[Wj h C.1];unfold D9;rw[zF ZP];rfl
  refine cd A ?_;have N:dt (seg s.W (c.off 5) (dt c.X))<=64:=aD V8 (show dt c.X<=64 by omega);have V:dt (seg s.W (c.off 6) (dt c.T))<=64:=aD V8 (show dt c.T<=64 by omega);refine cd (Fq (l:=[seg s.W (c.off 5) (dt c.X),seg s.W (c.off 6) (dt c.T)]) V2 V3) ?_
  have M:dt (ff [seg s.W (c.off 5) (dt c.X),seg s.W (c.off 6) (dt c.T)])<=200:=by
   unfold ff;simp;omega
  rw[bn V1 V1];refine cd (show pp .. =O (s.c0,s.c1,s.c2,s.c3)from rfl) ?_;refine cd (show gx .. =O s.L from rfl) ?_;refine cd (show pX .. =O s.pk from rfl) ?_;refine cd (ML (v:=[s.L,c.ns,s.c0,s.c1,s.c2,s.c3,s.pk,(dt (kW es):Int)]) (λi o hi ho=> ?_) (λo=> ?_) ZM) ?_
  .show cond (Zc ((i:Int)<8)) ((ix (i:Int) 8).bind _) _=_;rw[Zf,zC];refine cd (br hi) ?_;show gd (fd (dt o+1) 8) _=_;rw[bn V1 V1];show O (Sum.inl (zH zI ((i:Int)+1),_))=_;rw[Zi];rfl
  .rfl
  .rfl
 .unfold cq;refine cd u ?_;show cond (Zc ((0:Int)≠0)) _ _=_;rw[zA V2,zD];refine cd (ab7 h p e0) ?_;simp only[cb,gi];refine cd d ?_;refine cd y ?_;rfl
 .unfold cx;refine cd u ?_;show cond (Zc ((0:Int)≠0)) _ _=_;rw[zA V2,zD];refine cd (ab7 h p e0) ?_;simp only[cb,gi];refine cd d ?_;refine cd y ?_;have J:=zq es;have K:=F.le hl;have⟨t,e,E,_⟩:=Da (l:=kW es) V1;refine cd E ?_;have C:=we h B;refine cd (a:=(s.z,0,seg s.W (c.off 5) (dt c.X),seg s.W (c.off 6) (dt c.T))) ?_ ?_
  .show fA _ _ _ _ _ _ _ _ _ _ _ _ _ _ _ _ _ _ _ _ _ _ _ _ _ _ _ _ _ _=_;unfold fA;rw[Wj h C.1];unfold D9;rw[zF ZP];rfl
  unfold Gx;rw[E];rfl
def aA1 (y:c.mode=1)(E:1<=c.ns)(e0:eo c.mode (dt c.X) (dt c.T) c.R c.l c.Q c.k c.len c.words=(c.fixed,c.tp,c.sl,c.ns,0))(j:dt cs<=1000000)(p:fM w=O (c.mode,c.R,c.l,c.Q,c.k,c.len,c.words,cs,0,c.X,c.T,bs))(hl:l<=40)(D:c.mode=2->dt bs=l)(H:Way c l 0 Zb (qE c) es f en s)(F:Fin c l f en s es):
  de w=O (ah9 c s (dt (kW es)))/\cq w=O (0,kW es)/\cx w=Gx (kW es) s.z (seg s.W (c.off 5) (dt c.X)) (seg s.W (c.off 6) (dt c.T)):=by
 have w0:=kJ h;have B:=H.well h w0;rw[cK]at B;have J:qE c=new2 c:=by unfold qE;rw[Zh]
 have d:=PT h y e0 j bs 0 (i:=0) V1 w0 Dc;have g:=ar4 h y E e0 j hl D H F;have u:=WT h y E e0 j hl D H F;rw[J]at d g u;have hx1:=h.num.x;have hx2:=h.num.t;have A:gA c.mode c.X c.T c.R c.l c.Q c.k c.len c.words=O (eo c.mode (dt c.X) (dt c.T) c.R c.l c.Q c.k c.len c.words):=B8 h.hl h.hk;rw[e0]at A;refine⟨?_, ?_, ?_⟩
 .unfold de;refine cd p ?_;show cond (Zc ((0:Int)≠0)) _ _=_;rw[zA V2,zD];refine cd (ab8 h y e0) ?_;simp only[cb,gi];refine cd d ?_;refine cd g ?_;have C:=we h B;refine cd (a:=(s.z,0,seg s.W (c.off 5) (dt c.X),seg s.W (c.off 6) (dt c.T))) ?_ ?_
  .show eu _ _ _ _ _ _ _ _ _ _ _ _ _ _ _ _ _ _ _ _ _ _ _ _ _ _ _ _ _ _ _ _ _=_;unfold eu;rw[KE h C.1];unfold D9;rw[zF ZP];rfl
  refine cd A ?_;have V:dt (seg s.W (c.off 5) (dt c.X))<=64:=aD V8 (show dt c.X<=64 by omega);have Z:dt (seg s.W (c.off 6) (dt c.T))<=64:=aD V8 (show dt c.T<=64 by omega);refine cd (Fq (l:=[seg s.W (c.off 5) (dt c.X),seg s.W (c.off 6) (dt c.T)]) V2 V3) ?_
  have N:dt (ff [seg s.W (c.off 5) (dt c.X),seg s.W (c.off 6) (dt c.T)])<=200:=by
   unfold ff;simp;omega
  rw[bn V1 V1];refine cd (show mT .. =O (s.c0,s.c1,s.c2,s.c3)from rfl) ?_;refine cd (show fP .. =O s.L from rfl) ?_;refine cd (show nX .. =O s.pk from rfl) ?_;refine cd (ML (v:=[s.L,c.ns,s.c0,s.c1,s.c2,s.c3,s.pk,(dt (kW es):Int)]) (λi o hi ho=> ?_) (λo=> ?_) ZM) ?_
  .show cond (Zc ((i:Int)<8)) ((ix (i:Int) 8).bind _) _=_;rw[Zf,zC];refine cd (br hi) ?_;show gd (fd (dt o+1) 8) _=_;rw[bn V1 V1];show O (Sum.inl (zH zI ((i:Int)+1),_))=_;rw[Zi];rfl
  .rfl
  .rfl
 .unfold cq;refine cd p ?_;show cond (Zc ((0:Int)≠0)) _ _=_;rw[zA V2,zD];refine cd (ab8 h y e0) ?_;simp only[cb,gi];refine cd d ?_;refine cd u ?_;rfl
 .unfold cx;refine cd p ?_;show cond (Zc ((0:Int)≠0)) _ _=_;rw[zA V2,zD];refine cd (ab8 h y e0) ?_;simp only[cb,gi];refine cd d ?_;refine cd u ?_;have K:=zq es;have M:=F.le hl;have⟨t,e,I,_⟩:=Da (l:=kW es) V1;refine cd I ?_;have C:=we h B;refine cd (a:=(s.z,0,seg s.W (c.off 5) (dt c.X),seg s.W (c.off 6) (dt c.T))) ?_ ?_
  .show eu _ _ _ _ _ _ _ _ _ _ _ _ _ _ _ _ _ _ _ _ _ _ _ _ _ _ _ _ _ _ _ _ _=_;unfold eu;rw[KE h C.1];unfold D9;rw[zF ZP];rfl
  unfold Gx;rw[I];rfl
def aA2 (y:c.mode=2)(E:1<=c.ns)(e0:eo c.mode (dt c.X) (dt c.T) c.R c.l c.Q c.k c.len c.words=(c.fixed,c.tp,c.sl,c.ns,0))(j:dt cs<=1000000)(p:fM w=O (c.mode,c.R,c.l,c.Q,c.k,c.len,c.words,cs,0,c.X,c.T,bs))(hl:l<=40)(D:c.mode=2->dt bs=l)(H:Way c l 0 Zb (qE c) es f en s)(F:Fin c l f en s es):
  de w=O (ah9 c s (dt (kW es)))/\cq w=O (0,kW es)/\cx w=Gx (kW es) s.z (seg s.W (c.off 5) (dt c.X)) (seg s.W (c.off 6) (dt c.T)):=by
 have w0:=kJ h;have B:=H.well h w0;rw[cK]at B;have J:qE c=new2 c:=by unfold qE;rw[Zh]
 have d:=PU h y e0 j bs 0 (i:=0) V1 w0 Dc;have g:=ar5 h y E e0 j hl D H F;have u:=WU h y E e0 j hl D H F;rw[J]at d g u;have hx1:=h.num.x;have hx2:=h.num.t;have A:gA c.mode c.X c.T c.R c.l c.Q c.k c.len c.words=O (eo c.mode (dt c.X) (dt c.T) c.R c.l c.Q c.k c.len c.words):=B8 h.hl h.hk;rw[e0]at A;refine⟨?_, ?_, ?_⟩
 .unfold de;refine cd p ?_;show cond (Zc ((0:Int)≠0)) _ _=_;rw[zA V2,zD];refine cd (ab9 h y e0) ?_;simp only[cb,gi];refine cd d ?_;refine cd g ?_;have C:=we h B;refine cd (a:=(s.z,0,seg s.W (c.off 5) (dt c.X),seg s.W (c.off 6) (dt c.T))) ?_ ?_
  .show ew _ _ _ _ _ _ _ _ _ _ _ _ _ _ _ _ _ _ _ _ _ _ _ _ _ _ _ _ _ _ _ _ _=_;unfold ew;rw[KE h C.1];unfold D9;rw[zF ZP];rfl
  refine cd A ?_;have V:dt (seg s.W (c.off 5) (dt c.X))<=64:=aD V8 (show dt c.X<=64 by omega);have Z:dt (seg s.W (c.off 6) (dt c.T))<=64:=aD V8 (show dt c.T<=64 by omega);refine cd (Fq (l:=[seg s.W (c.off 5) (dt c.X),seg s.W (c.off 6) (dt c.T)]) V2 V3) ?_
  have N:dt (ff [seg s.W (c.off 5) (dt c.X),seg s.W (c.off 6) (dt c.T)])<=200:=by
   unfold ff;simp;omega
  rw[bn V1 V1];refine cd (show mU .. =O (s.c0,s.c1,s.c2,s.c3)from rfl) ?_;refine cd (show fQ .. =O s.L from rfl) ?_;refine cd (show nY .. =O s.pk from rfl) ?_;refine cd (ML (v:=[s.L,c.ns,s.c0,s.c1,s.c2,s.c3,s.pk,(dt (kW es):Int)]) (λi o hi ho=> ?_) (λo=> ?_) ZM) ?_
  .show cond (Zc ((i:Int)<8)) ((ix (i:Int) 8).bind _) _=_;rw[Zf,zC];refine cd (br hi) ?_;show gd (fd (dt o+1) 8) _=_;rw[bn V1 V1];show O (Sum.inl (zH zI ((i:Int)+1),_))=_;rw[Zi];rfl
  .rfl
  .rfl
 .unfold cq;refine cd p ?_;show cond (Zc ((0:Int)≠0)) _ _=_;rw[zA V2,zD];refine cd (ab9 h y e0) ?_;simp only[cb,gi];refine cd d ?_;refine cd u ?_;rfl
 .unfold cx;refine cd p ?_;show cond (Zc ((0:Int)≠0)) _ _=_;rw[zA V2,zD];refine cd (ab9 h y e0) ?_;simp only[cb,gi];refine cd d ?_;refine cd u ?_;have K:=zq es;have M:=F.le hl;have⟨t,e,I,_⟩:=Da (l:=kW es) V1;refine cd I ?_;have C:=we h B;refine cd (a:=(s.z,0,seg s.W (c.off 5) (dt c.X),seg s.W (c.off 6) (dt c.T))) ?_ ?_
  .show ew _ _ _ _ _ _ _ _ _ _ _ _ _ _ _ _ _ _ _ _ _ _ _ _ _ _ _ _ _ _ _ _ _=_;unfold ew;rw[KE h C.1];unfold D9;rw[zF ZP];rfl
  unfold Gx;rw[I];rfl
end
def SV {w':Zd}{m R Q n b:Int}{X T:Zd}{I J:List bz}(o4:OpsOk I)(o6:OpsOk J)(uX:gE X)(uT:gE T){q:Zd}(g:dt cs<=1000000)(v:dt q<=1000000)
  (j:fM w=O (m,R,I,Q,J,n,b,cs,0,X,T,bs)) (B:fM w'=O (m,R,I,Q,J,n,b,q,0,X,T,bs))
  (hp:(eo m (dt X) (dt T) R I Q J n b).2.2.2.2=0) (C:(if m≠2 then n else(dt bs:Int))<=40):
  ∃(r t:Zd) (l:List (Int×Int)),(de w=O r/\cq w=O (0,l)/\cx w=O t)/\(de w'=O r/\cq w'=O (0,l)/\cx w'=O t)/\(dt r)<=1000/\(dt l)<=6000:=by
 have⟨c,e,e0,e1,e2,e3,e4,e5,e6,e7,e8,u⟩:=bi1 o4 o6 hp;subst e0 e1 e2 e3 e4 e5 e6 e7 e8;have hmm:=e.num.mode;have hln:=e.num.len
 obtain⟨l,d,K,y⟩: ∃l:Nat,l<=40/\(c.mode=2->dt bs=l)/\(c.mode≠2->c.len=l):=by
  by_cases E:c.mode=2
  .rw[zF (λk=>k E)]at C;exact⟨dt bs,V1,λ_=>rfl,λk=>(k E).elim⟩
  .rw[zE E]at C;exact⟨eL c.len,V1,λk=>(E k).elim,λ_=>by omega⟩
 have⟨es,f,en,s,H,F⟩:=aC2 e u (show l<=400 by omega) y;have h6:=F.le d;have h7:=zq es;have hW:=we e (H.well e (kJ e));have hx1:=e.num.x;have hx2:=e.num.t;have L:dt (seg s.W (c.off 5) (dt c.X))<=64:=aD V8 (show dt c.X<=64 by omega);have M:dt (seg s.W (c.off 6) (dt c.T))<=64:=aD V8 (show dt c.T<=64 by omega)
 have D: ∀{w:Zd} {cs:Zd},dt cs<=1000000->fM w=O (c.mode,c.R,c.l,c.Q,c.k,c.len,c.words,cs,0,c.X,c.T,bs)->de w=O (ah9 c s (dt (kW es)))/\cq w=O (0,kW es)/\cx w=Gx (kW es) s.z (seg s.W (c.off 5) (dt c.X)) (seg s.W (c.off 6) (dt c.T)):=by
  intro w cs g j;by_cases N:c.mode=3
  .exact aA0 e N u g j d K H F
  have A:=ag6 e N u;by_cases hk:c.mode=1
  .exact aA1 e hk A u g j d K H F
  .exact aA2 e V1 A u g j d K H F
 have ww:=Way.ww e H (aR9 (λx p=>⟨(uT x p).1,cM (uT x p).2 V4⟩) (λx p=>⟨(uX x p).1,cM (uX x p).2 V4⟩));have w5: ∀o n,gE (seg s.W o n):=λo n x p=>⟨((ww.1.seg o n) x p).1,cL ((ww.1.seg o n) x p).2⟩
 have⟨q1,q2,Z⟩:=D g j;have⟨p1,p2,V⟩:=D v B;obtain⟨t,ht⟩: ∃t,Gx (kW es) s.z (seg s.W (c.off 5) (dt c.X)) (seg s.W (c.off 6) (dt c.T))=O t:=Yi V1 ⟨ww.2.1,cL ww.2.2⟩ L (w5 _ _) M (w5 _ _)
 rw[ht]at Z V;refine⟨_,t,kW es,⟨q1,q2,Z⟩,⟨p1,p2,V⟩, ?_,V1⟩;unfold ah9 ff;simp;omega
end
section
open Bool renaming not_true -> aB
open List renaming length_append -> aD
def ac7 :nZ=O Za:=by kernel_rfl
def XE (d:dt a<1000000):qJ a a=O Za:=by
 have h:am (sq a a) cv 0=O (.inr ()):=by
  refine pi (n:=dt a) V1 (λi hi=> ?_) ?_
  .unfold sq;rw[ag,Zg,cg hi];simp only[zG,ag];rw[zF (λh=>h rfl),ad (n:=(i:Int)+1) V1];rfl
  .unfold sq;rw[ag,Zh]
 unfold qJ;rw[ag,zF (λh=>h rfl),h];rfl
def WR {a:List (Int×Int)}(d:a.length<1000000):tN a a=O Za:=by
 have h:am (su a a) cv 0=O (.inr ()):=by
  refine pi (n:=a.length) V1 (λi hi=> ?_) ?_
  .unfold su;rw[ag,Zg,cg hi];simp only[zG];rw[ad (n:=(i:Int)+1) V1];rfl
  .unfold su;rw[ag,Zh]
 unfold tN;rw[ag,zF (λh=>h rfl),h];rfl
section
variable {m R Q n b:Int} {X T:Zd} {l k:List bz}
def Bw (m R Q n b:Int)(X T:Zd)(l k:List bz)(cs:Zd)(N:Int)(B:Zd):Zd:=Kf m X T R l Q k n b++(((dt cs:Nat):Int)::(cs++if m=2 then N::B else []))
def Vz :dt (Kf m X T R l Q k n b)<=9+5*dt l+5*dt k+dt X+dt T:=by
 have d:=HY l;have e:=HY k;unfold Kf ff;simp;omega
def HO (g:OpsOk l)(j:OpsOk k)(p:dt l<=60)(q:dt k<=60)(l1:dt X<=200)(z:dt T<=200){N:Int}{cs B:Zd}(o:dt cs<=200)(u:dt B<=100)(v:0<=N/\N<=6400):rK m X T R l Q k n b cs B N=O (if mO m (dt X) (dt T) R l Q k n b≠0 then(Zb,[])else(Za,Bw m R Q n b X T l k cs N B)):=by
 unfold rK;refine cd (Qw g j V1 V1 V1 V1) ?_;have y:=Vz (m:=m) (X:=X) (T:=T) (R:=R) (l:=l) (Q:=Q) (k:=k) (n:=n) (b:=b);by_cases d:mO m (dt X) (dt T) R l Q k n b≠0
 .rw[zE d,zE d];show cond (Zc (mO m (dt X) (dt T) R l Q k n b≠0)) _ _=_;rw[zB d,zC]
 .rw[zF d,zF d];show cond (Zc ((0:Int)≠0)) _ _=_;rw[zA V2,zD];simp only;rw[bn V1 V1,bn V3 V1,qW V1];unfold Bw;by_cases e:m=2
  .rw[zB e,zC,zE e,bn V3 V1,bn V3 V1,bt (n:=N) V1];simp
  .rw[zA e,zD,zF e];simp
def Uc (p:1<=m/\m<=3){N:Int}{cs B:Zd}(o:0<=N/\N<=64*(dt B:Int)):P5 (Bw m R Q n b X T l k cs N B)=O (cs,if m=2 then pR B (eL N) else []):=by
 unfold Bw P5
 have g:(Kf m X T R l Q k n b++(((dt cs:Nat):Int)::(cs++if m=2 then N::B else []))).drop 5=ff [(gT l).2,(gT k).2,X,T,cs]++(if m=2 then N::B else []):=by
  show ff [(gT l).2,(gT k).2,X,T]++_=_;simp[ff]
 have d:=Pw [(gT l).2,(gT k).2,X,T,cs] [] (if m=2 then N::B else []);have d:S 5 (ff [(gT l).2,(gT k).2,X,T,cs]++(if m=2 then N::B else [])) []=_:=d
 have j:(Kf m X T R l Q k n b++(((dt cs:Nat):Int)::(cs++if m=2 then N::B else []))).getD 0 0=m:=by
  show IntKind.u64.wrap m=m;rw[Zk]
 rw[zF (by unfold Kf;simp),g,d,j];simp only;by_cases e:m=2
 .simp only[zE e];rw[Zh];rfl
 .simp only[zF e];rfl
def JQ (d:OpsOk l)(e:OpsOk k)(g:mO m (dt X) (dt T) R l Q k n b=0){N:Int}{cs B:Zd}(p:dt B<=100)(j:0<=N/\N<=64*(dt B:Int)):E4 (Bw m R Q n b X T l k cs N B)=if(eo m (dt X) (dt T) R l Q k n b).2.2.2.2≠0 then .inl (eo m (dt X) (dt T) R l Q k n b).2.2.2.2 else .inr (⟨m,X,T,R,l,Q,k,n,b⟩,cs,(if m=2 then pR B (eL N) else []).takeWhile id):=by
 have o:=zO d e g;unfold E4;rw[Uc o.mode j];simp only;unfold Bw;rw[as8 d e g];simp only
 have q:dt ((if m=2 then pR B (eL N) else []).takeWhile id)<=6400:=by
  refine Nat.le_trans (HP _) ?_;split
  .rw[yv];omega
  .simp
 show(if(eo m (dt X) (dt T) R l Q k n b).2.2.2.2≠0 then _ else if m=2/\65536<=dt ((if m=2 then pR B (eL N) else []).takeWhile id) then _ else _)=_;rw[zF (show¬(m=2/\65536<=dt ((if m=2 then pR B (eL N) else []).takeWhile id))from λh=>by omega)];rfl
def Tk (e:OpsOk l)(g:OpsOk k)(q:gE X)(u:gE T)(l1:dt X<=200)(z:dt T<=200){N:Int}{cs B:Zd}(j:dt cs<=200)(d:gE cs)(v:0<=N/\N<=6400)(p:gE B):gE (Bw m R Q n b X T l k cs N B):=by
 have o:=at8 (a0:=m) (a1:=X) (a2:=T) (a3:=R) (a4:=l) (a5:=Q) (a6:=k) (a7:=n) (a8:=b) e g q u V1 V1;intro y hy;unfold Bw at hy;rcases List.mem_append.1 hy with hy|hy
 .exact o y hy
 .rcases List.mem_cons.1 hy with rfl|hy
  .omega
  rcases List.mem_append.1 hy with hy|hy
  .exact d y hy
  .split at hy
   .rcases List.mem_cons.1 hy with rfl|hy
    .omega
    .exact p y hy
   .cases hy
end
def RC {d w2:Zd}{e:Int}{l:List (Int×Int)}(o:de d=O r/\cq d=O (e,l)/\cx d=O t)(p:de w2=O r/\cq w2=O (e,l)/\cx w2=O t)(D:dt r<=1000)(C:dt l<=6000):
  (ek (cq d) λg=>
  ek (cq w2) λj=>
  ek (de d) λq=>
  ek (de w2) λu=>
  ek (qJ q u) λv=>
  cond (v)
  (cond (Zc (g.1=j.1))
   (ek (tN g.2 j.2) λy=>
   cond (y)
   (ek (cx d) λz=>
   ek (cx w2) λA=>
   cond (Zc (z=A))
    (ek (nZ) λB=>
    O B)
    (O Zb))
   (O Zb))
   (O Zb))
  (O Zb))=O Za:=by
 refine cd o.2.1 ?_;refine cd p.2.1 ?_;refine cd o.1 ?_;refine cd p.1 ?_;refine cd (XE V1) ?_;rw[zC,zB rfl,zC];refine cd (WR Zn) ?_;rw[zC];refine cd o.2.2 ?_;refine cd p.2.2 ?_;rw[zB rfl,zC];exact cd ac7 rfl
def SC (h:fM w=O (0,0,[],0,[],0,0,[],13,[],[],[])):de w=O [13]/\cq w=O (13,[])/\cx w=O [101,114,114,111,114,32,49,51,10]:=by
 refine⟨?_, ?_, ?_⟩
 .unfold de;exact cd h rfl
 .unfold cq;exact cd h rfl
 .unfold cx;rw[h];kernel_rfl
section
variable {a0:Int} {a1 a2:Zd} {a3:Int} {a4:List bz} {a5:Int} {a6:List bz} {a7 a8:Int} {a9 a10:Zd} {a11:Int}
def Uj (h4: ∀o∈a4,Sj o)(h6: ∀o∈a6,Sj o)(u1:gE a1)(u2:gE a2)(u9:gE a9)(E:gE a10):sJ a0 a1 a2 a3 a4 a5 a6 a7 a8 a9 a10 a11=O Za:=by
 unfold sJ
 have d: ∀{β:Option Bool},cond Za (ek (nZ) λr13=>O r13) β=O Za:=by
  intro β;rw[zC];exact cd ac7 rfl
 rcases Wp (a0:=a0) (a1:=a1) (a2:=a2) (a3:=a3) (a5:=a5) (a7:=a7) (a8:=a8) h4 h6 with e|⟨e,v,y,F,H⟩
 .exact cd (a:=Za) (cd e rfl) d
 have g:dt a4<=60/\(dt a6)<=60:=by
  unfold jf vL at e;by_cases j:(dt a4:Int)<=60
  .by_cases z:(dt a6:Int)<=60
   .omega
   .rw[zB j,zA z]at e;cases e
  .rw[zA j]at e;cases e
 by_cases j:200<((dt a9:Nat):Int)
 .exact cd (a:=Za) (cd e (by rw[aB,zD,zB j,zC])) d
 by_cases z:100<((dt a10:Nat):Int)
 .exact cd (a:=Za) (cd e (by rw[aB,zD,zA j,zD,zB z,zC])) d
 by_cases I:a11<0
 .exact cd (a:=Za) (cd e (by rw[aB,zD,zA j,zD,zA z,zD,zB I,zC])) d
 by_cases J:IntKind.i64.wrap (64*((dt a10:Nat):Int))<a11
 .exact cd (a:=Za) (cd e (by rw[aB,zD,zA j,zD,zA z,zD,zA I,zD,zB J])) d
 refine cd (a:=Zb) (cd e (by rw[aB,zD,zA j,zD,zA z,zD,zA I,zD,zA J])) ?_;rw[zD];rw[Zi]at J;have hw1:=HO (m:=a0) (R:=a3) (Q:=a5) (n:=a7) (b:=a8) (cs:=[]) (B:=a10) v y g.1 g.2 F H (N:=a11) V2 V1 V1;have hw2:=HO (m:=a0) (R:=a3) (Q:=a5) (n:=a7) (b:=a8) (cs:=a9) (B:=a10) v y g.1 g.2 F H (N:=a11) V1 V1 V1;refine cd hw1 ?_;refine cd hw2 ?_;by_cases p:mO a0 (dt a1) (dt a2) a3 a4 a5 a6 a7 a8≠0
 .rw[zE p];exact cd (a:=Za) rfl d
 rw[zF p,zF p];have p:=Decidable.not_not.1 p;have D:=Tk (m:=a0) (R:=a3) (Q:=a5) (n:=a7) (b:=a8) (cs:=[]) (B:=a10) v y u1 u2 F H (N:=a11) V2 (λx hx=>by cases hx) V1 E;have hu2:=Tk (m:=a0) (R:=a3) (Q:=a5) (n:=a7) (b:=a8) (cs:=a9) (B:=a10) v y u1 u2 F H (N:=a11) V1 u9 V1 E;have he:=Vz (m:=a0) (X:=a1) (T:=a2) (R:=a3) (l:=a4) (Q:=a5) (k:=a6) (n:=a7) (b:=a8)
 have hl: ∀cs:Zd,dt cs<=200->dt (Bw a0 a3 a5 a7 a8 a1 a2 a4 a6 cs a11 a10)<=1500:=λcs hcs=>by
  unfold Bw;rw[aD,List.length_cons,aD];split<;>simp<;>omega
 have u:=JQ (cs:=[]) v y p (N:=a11) (B:=a10) V1 V1;have V:=JQ (cs:=a9) v y p (N:=a11) (B:=a10) V1 V1;have A:=JL D (hl [] V2);have C:=JL hu2 (hl a9 V1);rw[u]at A;rw[V]at C;have⟨bb,Z,M⟩:=aB2 D
 refine cd (a:= !bb) (by
  show(rJ _).bind _=_
  exact cd Z rfl) ?_
 cases bb with
 |false=>exact d
 |true=>
  rw[aB,zD];obtain⟨_,M⟩:=M rfl;by_cases q:(eo a0 (dt a1) (dt a2) a3 a4 a5 a6 a7 a8).2.2.2.2≠0
  .rw[zE q]at A C
   have K:(eo a0 (dt a1) (dt a2) a3 a4 a5 a6 a7 a8).2.2.2.2=13:=by
    unfold eo at q⊢;rw[Zh]at q⊢;split at q
    .rename_i c;rw[zE c]
    .exact(q rfl).elim
   rw[K]at A C;exact RC (SC A) (SC C) V2 V2
  .rw[zF q]at A C u;have⟨L,_⟩:=M _ _ _ u;have⟨r,t,l,k1,k2,k3,k4⟩:=SV v y u1 u2 V2 V1 A C (Decidable.not_not.1 q) L;exact RC k1 k2 k3 k4
end
end
end Go.V
