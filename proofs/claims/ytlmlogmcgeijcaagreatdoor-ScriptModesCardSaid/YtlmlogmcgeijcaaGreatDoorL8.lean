/- A part of the proof. No condition. -/
import Derived.Test.YtlmlogmcgeijcaaGreatDoorL7
import Derived.KernelRfl
set_option linter.unusedVariables false
set_option linter.unusedSimpArgs false
set_option linter.unusedSectionVars false
namespace Go.V
open Go.Ab
open Option renaming some->O,none->Y
open Bool renaming true->Za,false->Zb
open Decidable renaming decide->Zc
variable {L:Nat}
set_option maxRecDepth 100000
section
open Go.IntKind renaming wrap -> zH, i64 -> zI, u64 -> zJ
open Bool renaming not_true -> aB
open Int renaming toNat -> cB, lt_of_le_of_lt -> cK, toNat_natCast -> cL
open IntKind renaming bits -> cD
open List renaming length -> aD, length_append -> bB, length_cons -> bD
theorem Ns {α δ:Type}{f:α->Option (α⊕δ)}{n:Nat}{a b:α}{r:Option δ}(h:f a=O (.inl b))(k:aq f n b=r):aq f (n+1) a=r:=by
 show(f a).bind _=_;rw[h];exact k
theorem O1 {α δ:Type}{f:α->Option (α⊕δ)}{n:Nat}{a:α}{c:δ}(h:f a=O (.inr c)):aq f (n+1) a=O c:=by
 show(f a).bind _=_;rw[h];rfl
theorem H5 :fH=O Za:=by kernel_rfl
theorem Wa {a:Zd}(c:a.length<1000000):si a a=O Za:=by
 have h:aq (qG a a) di 0=O (.inr ()):=by
  refine pO (n:=a.length) (by omega) (λi hi=> ?_) ?_
  .unfold qG;rw[ag,Zg,cl hi];simp only[zG,ag];rw[zF (λh=>h rfl),ad (n:=(i:Int)+1) (by omega)];rfl
  .unfold qG;rw[ag,Zh]
 unfold si;rw[ag,zF (λh=>h rfl),h];rfl
def cx0 (R Q:Int)(X T:Zd)(l k:List bx)(fl fk:Fo):Cx:=⟨1,R,Q,0,0,X,T,l,k,fl,fk,0,0,0,0⟩
def DY (c:Cx)(l:Nat):Zd:=[0,lossV c (lY c l)]++eu [(qY c l l).1,(qY c l l).2]
section
variable {m R Q n b:Int} {X T:Zd} {l k:List bx} {fl fk:Fo} {f1 t1 s1 n1:Int}
theorem Pu : ∀i,lY ⟨m,R,Q,n,b,X,T,l,k,fl,fk,f1,t1,s1,n1⟩ i=lY (cx0 R Q X T l k fl fk) i
 |0=>rfl
 |i+1=>by rw[Ef,Ef,Pu i];rfl
theorem TM (L:Nat): ∀i,qY ⟨m,R,Q,n,b,X,T,l,k,fl,fk,f1,t1,s1,n1⟩ L i=qY (cx0 R Q X T l k fl fk) L i
 |0=>by simp only[qY];rw[Pu];rfl
 |i+1=>by simp only[qY];rw[Pu,TM L i];rfl
theorem X0 (L:Nat):DY ⟨m,R,Q,n,b,X,T,l,k,fl,fk,f1,t1,s1,n1⟩ L=DY (cx0 R Q X T l k fl fk) L:=by
 unfold DY;rw[Pu,TM];rfl
theorem aL7 (e:OpsOk l)(d:OpsOk k)(c:Prg R l fl)(a:Prg Q k fk)(h:(fJ m X.length T.length R l Q k n b).2.2.2.2=0):
  ∃f1 t1 s1 n1,(⟨m,R,Q,n,b,X,T,l,k,fl,fk,f1,t1,s1,n1⟩:Cx).Ok/\fJ m X.length T.length R l Q k n b=(f1,t1,s1,n1,0):=by
 obtain⟨o,p,f,g,i,j⟩:=Wx e d h;exact⟨vw X.length T.length R Q,tv m l k,tu m X.length R l,p,⟨e,d,o,c,a,rfl,rfl,rfl,g,i,j⟩,f⟩
def wg (m R Q n b:Int)(X T:Zd)(l k:List bx)(N:Int)(B:Zd):Zd:=JA m X T R l Q k n b++(0::if m=2 then N::B else [])
theorem Uf :(JA m X T R l Q k n b).length<=9+5*l.length+5*k.length+X.length+T.length:=by
 have a:=G5 l;have c:=G5 k;unfold JA eu;simp;omega
theorem Qz (d:OpsOk l)(e:OpsOk k)(f:l.length<=60)(g:k.length<=60)(l1:X.length<=64)(j:T.length<=64){N:Int}{x:Int}(h:0<=N/\N<=30):nY m X T R l Q k n b [] [x] N=O (if pu m X.length T.length R l Q k n b≠0 then(Zb,[])else(Za,wg m R Q n b X T l k N [x])):=by
 unfold nY;refine db (Pj d e (by omega) (by omega) (by omega) (by omega)) ?_;have i:=Uf (m:=m) (X:=X) (T:=T) (R:=R) (l:=l) (Q:=Q) (k:=k) (n:=n) (b:=b);by_cases a:pu m X.length T.length R l Q k n b≠0
 .rw[zE a,zE a];show cond (Zc (pu m X.length T.length R l Q k n b≠0)) _ _=_;rw[zB a,zC]
 .rw[zF a,zF a];show cond (Zc ((0:Int)≠0)) _ _=_;rw[zA (by simp),zD];simp only;rw[bp (by omega) (by omega),bp (by simp;omega) (by omega)];unfold wg;by_cases c:m=2
  .rw[zB c,zC,zE c,bp (by simp;omega) (by omega),bp (by simp;omega) (by omega),bl (n:=N) (by omega)];simp;rfl
  .rw[zA c,zD,zF c];simp;rfl
theorem VP (g:1<=m/\m<=3){N x:Int}(f:0<=N/\N<=30):Qo (wg m R Q n b X T l k N [x])=O ([],if m=2 then rA [x] N.toNat else []):=by
 unfold wg Qo
 have d:(JA m X T R l Q k n b++(0::if m=2 then N::[x]else [])).drop 5=eu [(gy l).2,(gy k).2,X,T,[]]++(if m=2 then N::[x]else []):=by
  show eu [(gy l).2,(gy k).2,X,T]++_=_;simp[eu]
 have a:=On [(gy l).2,(gy k).2,X,T,[]] [] (if m=2 then N::[x]else []);have a:S 5 (eu [(gy l).2,(gy k).2,X,T,[]]++(if m=2 then N::[x]else [])) []=_:=a
 have e:(JA m X T R l Q k n b++(0::if m=2 then N::[x]else [])).getD 0 0=m:=by
  show zH zJ m=m;rw[Zk]
 rw[zF (by unfold JA;simp),d,a,e];simp only;by_cases c:m=2
 .simp only[zE c];rw[zF (by simp;omega)];rfl
 .simp only[zF c];rfl
theorem TD (a:OpsOk l)(c:OpsOk k)(d:pu m X.length T.length R l Q k n b=0){N x:Int}(e:0<=N/\N<=30):UO (wg m R Q n b X T l k N [x])=if(fJ m X.length T.length R l Q k n b).2.2.2.2≠0 then .inl (fJ m X.length T.length R l Q k n b).2.2.2.2 else .inr (⟨m,X,T,R,l,Q,k,n,b⟩,[],(if m=2 then rA [x] N.toNat else []).takeWhile id):=by
 have f:=FR a c d;unfold UO;rw[VP f.mode e];simp only;unfold wg;rw[ag4 a c d];simp only
 have g:((if m=2 then rA [x] N.toNat else []).takeWhile id).length<=30:=by
  refine Nat.le_trans (OZ _) ?_;split
  .rw[HI];omega
  .simp
 show(if(fJ m X.length T.length R l Q k n b).2.2.2.2≠0 then _ else if m=2/\65536<=((if m=2 then rA [x] N.toNat else []).takeWhile id).length then _ else _)=_;rw[zF (show¬(m=2/\65536<=((if m=2 then rA [x] N.toNat else []).takeWhile id).length)from λh=>by omega)];rfl
theorem as3 (a:OpsOk l)(c:OpsOk k)(f:iL X)(g:iL T)(l1:X.length<=64)(i:T.length<=64){N x:Int}(h:0<=N/\N<=30)(e:0<=x/\x<=18446744073709551615):iL (wg m R Q n b X T l k N [x]):=by
 have d:=ah4 (a0:=m) (a1:=X) (a2:=T) (a3:=R) (a4:=l) (a5:=Q) (a6:=k) (a7:=n) (a8:=b) a c f g (by omega) (by omega);intro y hy;unfold wg at hy;rcases List.mem_append.1 hy with hy|hy
 .exact d y hy
 .rcases List.mem_cons.1 hy with rfl|hy
  .omega
  .split at hy
   .rcases List.mem_cons.1 hy with rfl|hy
    .omega
    .rcases List.mem_cons.1 hy with rfl|hy
     .exact e
     .cases hy
   .cases hy
def O8 (L:Nat):Int:=zH zJ ((zH zJ (1*2 ^ (min (cB (zH zJ (L:Int))) (cD .u64))))-1)
theorem Wr : ∀L:_root_.Fin 31,(rA [O8 L.val] L.val).takeWhile id=List.replicate L.val Za:=by decide+kernel
theorem ao6 (L:Nat):0<=O8 L/\O8 L<=18446744073709551615:=by
 unfold O8;rw[Ma];omega
def IF (R Q:Int)(X T:Zd)(l k:List bx)(L:Nat)(r:Zd):Prop:=(∃fl fk,Prg R l fl/\Prg Q k fk)/\∀fl fk,Prg R l fl->Prg Q k fk->∃v,v.length=7/\r=DY (cx0 R Q X T l k fl fk) L++(L:Int)::v/\(DY (cx0 R Q X T l k fl fk) L).length=4+X.length+T.length
theorem Yl (j:OpsOk l)(o:OpsOk k)(g4:l.length<=60)(g6:k.length<=60)(F:iL X)(H:iL T)(l1:X.length<=64)(l2:T.length<=64)(hL:L<=30)(V:m≠2->n=L)(I:pu m X.length T.length R l Q k n b=0):
  ∃r,ew (wg m R Q n b X T l k (L:Int) [O8 L])=O r/\(r=[13]∨IF R Q X T l k L r):=by
 have W:=as3 (m:=m) (R:=R) (Q:=Q) (n:=n) (b:=b) j o F H l1 l2 (N:=(L:Int)) (by omega) (ao6 L);have he:=Uf (m:=m) (X:=X) (T:=T) (R:=R) (l:=l) (Q:=Q) (k:=k) (n:=n) (b:=b)
 have Z:(wg m R Q n b X T l k (L:Int) [O8 L]).length<=1500:=by
  unfold wg;rw[bB,bD];split<;>simp<;>omega
 have e:=Rs W Z;rw[TD j o I (by omega)]at e;by_cases g:(fJ m X.length T.length R l Q k n b).2.2.2.2≠0
 .rw[zE g]at e
  have t:(fJ m X.length T.length R l Q k n b).2.2.2.2=13:=by
   unfold fJ at g⊢;rw[Zh]at g⊢;split at g
   .rename_i c;rw[zE c]
   .exact(g rfl).elim
  rw[t]at e;refine⟨[13], ?_, .inl rfl⟩;unfold ew;exact db e rfl
 .rw[zF g]at e;have A:(fJ m X.length T.length R l Q k n b).2.2.2.2=0:=by omega
  have w: ∃fl fk,Prg R l fl/\Prg Q k fk:=by
   obtain⟨p1,p2⟩:=Wv (H8 I).1;obtain⟨fl,d⟩:=YN j p1;obtain⟨fk,a⟩:=YN o p2;exact⟨fl,fk,d,a⟩
  have i: ∀fl fk,Prg R l fl->Prg Q k fk->∃v,v.length=7/\ew (wg m R Q n b X T l k (L:Int) [O8 L])=O (DY (cx0 R Q X T l k fl fk) L++(L:Int)::v)/\(DY (cx0 R Q X T l k fl fk) L).length=4+X.length+T.length:=by
   intro fl fk d a;obtain⟨f1,t1,s1,n1,z,B⟩:=aL7 j o d a A
   have M:m=2->((if m=2 then rA [O8 L] ((L:Int)).toNat else []).takeWhile id).length=L:=λu=>by
    rw[zE u,cL,Wr ⟨L,by omega⟩,List.length_replicate]
   obtain⟨⟨D,E⟩,v,J,p⟩:=Ru z (λx h=>⟨(H x h).1,cK (H x h).2 (by decide)⟩) (λx h=>⟨(F x h).1,cK (F x h).2 (by decide)⟩) B (cs:=[]) (by simp) e (l:=L) (by omega) M V;rw[<-X0 (m:=m) (n:=n) (b:=b) (f1:=f1) (t1:=t1) (s1:=s1) (n1:=n1)];refine⟨v,J,p, ?_⟩;unfold DY eu;have D:(qY ⟨m,R,Q,n,b,X,T,l,k,fl,fk,f1,t1,s1,n1⟩ L L).1.length=X.length:=D;have E:(qY ⟨m,R,Q,n,b,X,T,l,k,fl,fk,f1,t1,s1,n1⟩ L L).2.length=T.length:=E;simp[D,E];omega
  obtain⟨fl,fk,d,a⟩:=w;obtain⟨v,J,p,hh⟩:=i fl fk d a;refine⟨_,p, .inr ⟨⟨fl,fk,d,a⟩,λs q K u=> ?_⟩⟩;obtain⟨v',C,f,y⟩:=i s q K u;rw[p]at f;injection f with f
  exact⟨v',C,f,y⟩
end
section
variable {a0:Int} {a1 a2:Zd} {a3:Int} {a4:List bx} {a5:Int} {a6:List bx} {a7 a8 a9 a10:Int}
theorem Tw (F:OpsOk a4)(H:OpsOk a6)(D:a4.length<=60)(E:a6.length<=60)(u1:iL a1)(u2:iL a2)(l1:a1.length<=64)(M:a2.length<=64)(W:L<=30)(V:a7=(L:Int)){m n b:Int}(hn:m≠2->n=L){i:Int}(hi:0<=i/\i<=3){acc:List (Zd)}(I:acc.length<=3):
  (((((cond (Zc (b<0))
  (O Za)
  (O (Zc (3000<b)))):Option (Bool))).bind λo=>
 cond (o)
  ((fH).bind λf=>
  O (.inr (((.inl ((f,a0,a1,a2,a3,a4,a5,a6,a7,a8,a9,a10)))))))
  (gd (Zc (0<=(zH zJ (a7)))) ((nY m a1 a2 a3 a4 a5 a6 n b [] ([zH zJ ((zH zJ (1*2 ^ (min (cB (zH zJ (a7))) (cD .u64))))-1)]) a7).bind λd=>
  cond (!d.1)
  ((fH).bind λg=>
  O (.inr (((.inl ((g,a0,a1,a2,a3,a4,a5,a6,a7,a8,a9,a10)))))))
  ((ew d.2).bind λc=>
  (((cond (Zc (((((aD c):Nat):Int))=1))
   ((ix 0 ((aD c))).bind λe=>
   (c[e]?).bind λq=>
   O (Zc (q=13)))
   (O Zb)):Option (Bool))).bind λp=>
  cond (p)
   ((fH).bind λj=>
   O (.inr (((.inl ((j,a0,a1,a2,a3,a4,a5,a6,a7,a8,a9,a10)))))))
   (gd (fB (aD acc+1) 24) (O (.inl ((zH zI (i+1),a0,a1,a2,a3,a4,a5,a6,a7,a8,a9,a10,(acc++[c]))))))))):Option ((Int×Int×(Zd)×(Zd)×Int×(List (Int×Int×Int×Int×Int))×Int×(List (Int×Int×Int×Int×Int))×Int×Int×Int×Int×List (Zd))⊕((Bool×Int×(Zd)×(Zd)×Int×(List (Int×Int×Int×Int×Int))×Int×(List (Int×Int×Int×Int×Int))×Int×Int×Int×Int)⊕(Int×(Zd)×(Zd)×Int×(List (Int×Int×Int×Int×Int))×Int×(List (Int×Int×Int×Int×Int))×Int×Int×Int×Int×List (Zd)))))=O (.inr (.inl (Za,a0,a1,a2,a3,a4,a5,a6,a7,a8,a9,a10))))∨∃r,IF a3 a5 a1 a2 a4 a6 L r/\(((((cond (Zc (b<0))
  (O Za)
  (O (Zc (3000<b)))):Option (Bool))).bind λo=>
 cond (o)
  ((fH).bind λf=>
  O (.inr (((.inl ((f,a0,a1,a2,a3,a4,a5,a6,a7,a8,a9,a10)))))))
  (gd (Zc (0<=(zH zJ (a7)))) ((nY m a1 a2 a3 a4 a5 a6 n b [] ([zH zJ ((zH zJ (1*2 ^ (min (cB (zH zJ (a7))) (cD .u64))))-1)]) a7).bind λd=>
  cond (!d.1)
  ((fH).bind λg=>
  O (.inr (((.inl ((g,a0,a1,a2,a3,a4,a5,a6,a7,a8,a9,a10)))))))
  ((ew d.2).bind λc=>
  (((cond (Zc (((((aD c):Nat):Int))=1))
   ((ix 0 ((aD c))).bind λe=>
   (c[e]?).bind λq=>
   O (Zc (q=13)))
   (O Zb)):Option (Bool))).bind λp=>
  cond (p)
   ((fH).bind λj=>
   O (.inr (((.inl ((j,a0,a1,a2,a3,a4,a5,a6,a7,a8,a9,a10)))))))
   (gd (fB (aD acc+1) 24) (O (.inl ((zH zI (i+1),a0,a1,a2,a3,a4,a5,a6,a7,a8,a9,a10,(acc++[c]))))))))):Option ((Int×Int×(Zd)×(Zd)×Int×(List (Int×Int×Int×Int×Int))×Int×(List (Int×Int×Int×Int×Int))×Int×Int×Int×Int×List (Zd))⊕((Bool×Int×(Zd)×(Zd)×Int×(List (Int×Int×Int×Int×Int))×Int×(List (Int×Int×Int×Int×Int))×Int×Int×Int×Int)⊕(Int×(Zd)×(Zd)×Int×(List (Int×Int×Int×Int×Int))×Int×(List (Int×Int×Int×Int×Int))×Int×Int×Int×Int×List (Zd)))))=O (.inl (i+1,a0,a1,a2,a3,a4,a5,a6,a7,a8,a9,a10,acc++[r]))):=by
 by_cases u:b<0
 .refine .inl (db (a:=Za) (by rw[zB u,zC]) ?_);rw[zC];exact db H5 rfl
 by_cases s:3000<b
 .refine .inl (db (a:=Za) (by rw[zA u,zD,zB s]) ?_);rw[zC];exact db H5 rfl
 have C:(((cond (Zc (b<0)) (O Za) (O (Zc (3000<b)))):Option (Bool)))=O Zb:=by rw[zA u,zD,zA s]
 have t:=Qz (m:=m) (R:=a3) (Q:=a5) (n:=n) (b:=b) F H D E l1 M (N:=(L:Int)) (x:=O8 L) (by omega);subst V;have A:(0:Int)<=IntKind.u64.wrap (L:Int):=by rw[uB (by omega)];omega
 by_cases w:pu m a1.length a2.length a3 a4 a5 a6 n b≠0
 .left;rw[zE w]at t;refine db C ?_;rw[zD,OW A];refine db t ?_;show cond Za _ _=_;rw[zC];exact db H5 rfl
 rw[zF w]at t;obtain⟨r,K,h⟩:=Yl F H D E u1 u2 l1 M W hn (Decidable.not_not.1 w);rcases h with rfl|h
 .left;refine db C ?_;rw[zD,OW A];refine db t ?_;refine db K ?_;refine db (a:=Za) rfl ?_;rw[zC];exact db H5 rfl
 .right;refine⟨r,h, ?_⟩;obtain⟨⟨fl,fk,z,y⟩,h⟩:=h;obtain⟨v,hv,B,Z⟩:=h fl fk z y;have J:r.length=4+a1.length+a2.length+8:=by rw[B,bB,Z,bD,hv]
  refine db C ?_;rw[zD,OW A];refine db t ?_;refine db K ?_;refine db (a:=Zb) (by rw[Ze,zD]) ?_;rw[zD,bp (by omega) (by omega),Zi]
theorem aC6 (p:OpsOk a4)(q:OpsOk a6)(j:a4.length<=60)(o:a6.length<=60)(t:iL a1)(u:iL a2)(l1:a1.length<=64)(s:a2.length<=64)(r:L<=30)(g:a7=(L:Int)):
  aq (cq a7) di (1,a0,a1,a2,a3,a4,a5,a6,a7,a8,a9,a10,[])=O (.inl (Za,a0,a1,a2,a3,a4,a5,a6,a7,a8,a9,a10))∨∃a c f,(IF a3 a5 a1 a2 a4 a6 L a/\IF a3 a5 a1 a2 a4 a6 L c/\IF a3 a5 a1 a2 a4 a6 L f)/\aq (cq a7) di (1,a0,a1,a2,a3,a4,a5,a6,a7,a8,a9,a10,[])=O (.inr (a0,a1,a2,a3,a4,a5,a6,a7,a8,a9,a10,[a,c,f])):=by
 have v:di=18446744073709551612+1+1+1+1:=rfl;rw[v];rcases Tw (a0:=a0) (a8:=a8) (a9:=a9) (a10:=a10) p q j o t u l1 s r g (m:=1) (n:=a7) (b:=a8) (λ_=>g) (i:=1) (by omega) (acc:=[]) (by simp)with s1|⟨a,G1,s1⟩
 .left;have s1:cq a7 (1,a0,a1,a2,a3,a4,a5,a6,a7,a8,a9,a10,[])=_:=s1;exact O1 s1
 have s1:cq a7 (1,a0,a1,a2,a3,a4,a5,a6,a7,a8,a9,a10,[])=_:=s1;rcases Tw (a0:=a0) (a8:=a8) (a9:=a9) (a10:=a10) p q j o t u l1 s r g (m:=2) (n:=0) (b:=a9) (λh=>(h rfl).elim) (i:=2) (by omega) (acc:=[a]) (by simp)with d|⟨c,G2,d⟩
 .left;have d:cq a7 (1+1,a0,a1,a2,a3,a4,a5,a6,a7,a8,a9,a10,[]++[a])=_:=d;exact Ns s1 (O1 d)
 have d:cq a7 (1+1,a0,a1,a2,a3,a4,a5,a6,a7,a8,a9,a10,[]++[a])=_:=d;rcases Tw (a0:=a0) (a8:=a8) (a9:=a9) (a10:=a10) p q j o t u l1 s r g (m:=3) (n:=a7) (b:=a10) (λ_=>g) (i:=3) (by omega) (acc:=[a,c]) (by simp)with e|⟨f,G3,e⟩
 .left;have e:cq a7 (2+1,a0,a1,a2,a3,a4,a5,a6,a7,a8,a9,a10,[a]++[c])=_:=e;exact Ns s1 (Ns d (O1 e))
 have e:cq a7 (2+1,a0,a1,a2,a3,a4,a5,a6,a7,a8,a9,a10,[a]++[c])=_:=e;right;refine⟨a,c,f,⟨G1,G2,G3⟩, ?_⟩;have w:cq a7 (3+1,a0,a1,a2,a3,a4,a5,a6,a7,a8,a9,a10,[a,c]++[f])=O (.inr (.inr (a0,a1,a2,a3,a4,a5,a6,a7,a8,a9,a10,[a,c,f]))):=rfl;exact Ns s1 (Ns d (Ns e (O1 w)))
theorem Wh {r s t:Zd}(l1:a1.length<=64)(E:a2.length<=64)(D:L<=30)(x:a7=(L:Int))(G:IF a3 a5 a1 a2 a4 a6 L r/\IF a3 a5 a1 a2 a4 a6 L s/\IF a3 a5 a1 a2 a4 a6 L t):
  aq (jO a7 a1 a2 [r,s,t]) di 0=O (.inr ()):=by
 obtain⟨⟨⟨fl,fk,g,f⟩,G1⟩,⟨_,G2⟩,⟨_,G3⟩⟩:=G
 have c: ∀i (hi:i<3),∃v,v.length=7/\([r,s,t]:List (Zd))[i]?=O (DY (cx0 a3 a5 a1 a2 a4 a6 fl fk) L++(L:Int)::v)/\(DY (cx0 a3 a5 a1 a2 a4 a6 fl fk) L).length=4+a1.length+a2.length:=by
  intro i hi;rcases(show i=0∨i=1∨i=2 by omega)with rfl|rfl|rfl
  .obtain⟨v,o,p,q⟩:=G1 fl fk g f;exact⟨v,o,congrArg O p,q⟩
  .obtain⟨v,o,p,q⟩:=G2 fl fk g f;exact⟨v,o,congrArg O p,q⟩
  .obtain⟨v,o,p,q⟩:=G3 fl fk g f;exact⟨v,o,congrArg O p,q⟩
 generalize C:DY (cx0 a3 a5 a1 a2 a4 a6 fl fk) L=K at c;have w:([r,s,t]:List (Zd)).length=3:=rfl;generalize ([r,s,t]:List (Zd))=B at c w
 have A:zH zI (zH zI (4+((a1.length:Nat):Int))+((a2.length:Nat):Int))=((4+a1.length+a2.length:Nat):Int):=by
  rw[ad (n:=4+((a1.length:Nat):Int)) (by omega),Zi];omega
 refine pO (n:=3) (by omega) (λi hi=> ?_) ?_
 .have h:i<B.length:=by omega
  obtain⟨v,y,e,j⟩:=c i (by omega);obtain⟨F,z,e0,_⟩:=c 0 (by omega);unfold jO;rw[A,Zf,zC];refine db (bq h) ?_;refine db e ?_;rw[zA (by rw[bB,bD,y,j,Zi];omega),zD];refine db (bq h) ?_;refine db e ?_;rw[fy (by rw[bB,j];omega),ci];refine db (bq (k:=0) (by omega)) ?_;refine db e0 ?_;rw[fy (by rw[bB,j];omega),ci]
  have d: ∀u:Zd,pm (K++u) 0 ((4+a1.length+a2.length:Nat):Int)=K:=λu=>by
   unfold pm;rw[cL,<-j,List.take_left];rfl
  refine db (a:=Za) (by rw[d,d];exact Wa (by omega)) ?_;rw[aB,zD];refine db (bq h) ?_;refine db e ?_;refine db (a:=(L:Int)) (by rw[zw (by rw[bB,bD,j];omega),List.getD_eq_getElem?_getD,List.getElem?_append_right (by omega),j,Nat.sub_self];rfl) ?_;rw[x,uB (by omega),zA (by simp),zD,Zi];rfl
 .unfold jO;rfl
theorem QA (q: ∀o∈a4,S5 o)(r: ∀o∈a6,S5 o)(u:iL a1)(v:iL a2):pY a0 a1 a2 a3 a4 a5 a6 a7 a8 a9 a10=O Za:=by
 unfold pY
 have d: ∀{β:Option Bool},cond Za ((fH).bind λj=>O j) β=O Za:=by
  intro β;rw[zC];exact db H5 rfl
 rcases ar1 (a0:=a0) (a1:=a1) (a2:=a2) (a3:=a3) (a5:=a5) (a7:=a7) (a8:=a8) q r with c|⟨c,s,t,_,_⟩
 .exact db (a:=Za) (db c rfl) d
 have h:a4.length<=60/\a6.length<=60:=by
  unfold nX uD at c;by_cases f:(a4.length:Int)<=60
  .by_cases g:(a6.length:Int)<=60
   .omega
   .rw[zB f,zA g]at c;cases c
  .rw[zA f]at c;cases c
 by_cases f:a7<0
 .exact db (a:=Za) (db c (by rw[aB,zD,zB f,zC])) d
 by_cases g:30<a7
 .exact db (a:=Za) (db c (by rw[aB,zD,zA f,zD,zB g,zC])) d
 by_cases i:64<((a1.length:Nat):Int)
 .exact db (a:=Za) (db c (by rw[aB,zD,zA f,zD,zA g,zD,zB i,zC])) d
 by_cases p:64<((a2.length:Nat):Int)
 .exact db (a:=Za) (db c (by rw[aB,zD,zA f,zD,zA g,zD,zA i,zD,zB p])) d
 refine db (a:=Zb) (db c (by rw[aB,zD,zA f,zD,zA g,zD,zA i,zD,zA p])) ?_;rw[zD];obtain⟨L,rfl⟩:=Int.eq_ofNat_of_zero_le (show 0<=a7 by omega);rcases aC6 (a0:=a0) (a8:=a8) (a9:=a9) (a10:=a10) s t h.1 h.2 u v (by omega) (by omega) (L:=L) (by omega) rfl with e|⟨w,x,y,G,e⟩
 .exact db e rfl
 .refine db e ?_;refine db (Wh (by omega) (by omega) (by omega) rfl G) ?_;exact db H5 rfl
end
end
end Go.V
