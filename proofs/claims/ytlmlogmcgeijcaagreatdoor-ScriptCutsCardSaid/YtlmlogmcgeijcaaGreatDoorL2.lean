/- A part of the proof. No condition. -/
import Derived.Test.YtlmlogmcgeijcaaGreatDoorL1
set_option linter.all false
namespace Go.V
open Go.Ab
open Option renaming some->O,none->Y
open Bool renaming true->Za,false->Zb
open Decidable renaming decide->Zc
open List renaming length->dt
open Int renaming toNat->eL
open Option renaming bind->ek
variable {T W W' X a r t w x:Zd}{B L Q a0 a1 a10 a11 a12 a13 a14 a15 a16 a2 a3 a4 a5 a6 a7 a8 a9 b bd c0 c1 c2 c3 i0 ii lv m p pk q sb sn sx z:Int}{i j k o:Nat}{l:List bz}
set_option maxRecDepth 100000
section
open Go.IntKind renaming wrap -> zH, i64 -> zI, u64 -> zJ
open Int renaming toNat_natCast -> aB
open List renaming getElem?_eq_getElem -> aD
def xL (f:Nat->Int): ∀{j:Nat},j<8->List.getD [f 0,f 1,f 2,f 3,f 4,f 5,f 6,f 7] j 0=f j
 |0,_=>rfl
 |1,_=>rfl
 |2,_=>rfl
 |3,_=>rfl
 |4,_=>rfl
 |5,_=>rfl
 |6,_=>rfl
 |7,_=>rfl
 |n+8,h=>by omega
def app (o:bz)(x y:Int):Int:=
 if o.1=1 then zH zJ (x+y)else if o.1=2 then zH zJ (x-y)else if o.1=3 then zH zJ (x*y)else if o.1=4 then zH zJ (0-x)else if o.1=5 then o.2.2.2.2 else if o.1=6 then x else 0
def HV (o:bz)(x y:Int):qa o.1 o.2.1 o.2.2.1 o.2.2.2.1 o.2.2.2.2 x y=O (app o x y):=by
 unfold qa app;simp only[ag]
 repeat' split
 all_goals rfl
def VK (R:Nat)(o:bz):Prop:=(0<=o.2.1/\o.2.1<R)/\(0<=o.2.2.1/\o.2.2.1<R)/\0<=o.2.2.2.1/\o.2.2.2.1<R
def KA {R:Nat}{o:bz}(h:VK R o): ∃d a b:Nat,o.2.1=d/\o.2.2.1=a/\o.2.2.2.1=b/\d<R/\a<R/\b<R:=by
 unfold VK at h;exact⟨eL o.2.1,eL o.2.2.1,eL o.2.2.2.1,V1,V1,V1,V1,V1,V1⟩
def rg (r:Zd)(k:Int):Int:=r.getD (eL k) 0
def jt (h:k<dt r):r[k]?=O (rg r (k:Int)):=by
 unfold rg;rw[aB,aD h,List.getD_eq_getElem?_getD,aD h];rfl
abbrev TS :=Zd×Zd×Nat
def U0 (o:bz)(s:TS):TS:=(s.1.set (eL o.2.1) (app o (rg s.1 o.2.2.1) (rg s.1 o.2.2.2.1)),s.2.1.set s.2.2 (rg s.1 o.2.1),s.2.2+1)
def VdT (R N:Nat)(m:Nat)(s:TS):Prop:=dt s.1=R/\(dt s.2.1)=N/\s.2.2+m<=N
def stT (p d:Nat)(l:Nat->Int)(s:TS):Int×Int×Int×(Zd)×(Zd)×Int×Int×Int×Int×Int×Int×Int×Int:=
 ((p:Int),(s.2.2:Int),(d:Int),s.1,s.2.1,l 0,l 1,l 2,l 3,l 4,l 5,l 6,l 7)
def lG {code:List xi}{p:Nat}{x:xi}(d:dt code<=8192)(h:code[p]?=O x):p<dt code/\ix (p:Int) (dt code)=O p:=by
 have:=(List.getElem?_eq_some_iff.1 h).1;exact⟨this,br this⟩
def X6 {code:List xi}(A:code.length<=8192){R N:Nat}(hN:N<=1000000):Runs (kT code) code stT U0 (VdT R N) (VK R)where
 op:=by
  intro p d l s m o E h V y g C;obtain⟨D,u⟩:=lG A h;obtain⟨I,F,H,J,K,M,g1,g2,g3⟩:=KA V;obtain⟨v1,v2,v3⟩:=C;refine⟨?_,by unfold U0;exact⟨by simp[v1],by simp[v2],by show s.2.2+1+m<=N;omega⟩⟩;unfold stT U0;simp only[kT];rw[Ze,zD,u];simp only[zG];rw[h];simp only[zG,cj];rw[Ze,zD,Ze,zD];simp only[HV,zG];rw[J,K,M,br (show I<s.1.length by omega)];simp only[zG];rw[jt (show I<s.1.length by omega)];simp only[zG];rw[br (show s.2.2<s.2.1.length by omega)];simp only[zG];rw[jt (show s.2.2<s.2.1.length by omega)];simp only[zG];rw[br (show F<s.1.length by omega)];simp only[zG];rw[jt (show F<s.1.length by omega)];simp only[zG];rw[br (show H<s.1.length by omega)];simp only[zG];rw[jt (show H<s.1.length by omega)]
  simp only[zG];rw[ad (n:=(p:Int)+1) V1,ad (n:=(s.2.2:Int)+1) V1];rfl
 rep:=by
  intro p d l s m o E h y g C;obtain⟨D,u⟩:=lG A h;unfold stT;simp only[kT];rw[Ze,zD,u];simp only[zG];rw[h];simp only[zG,cj];rw[zB y,zC,br g];simp only[zG];rw[ad (n:=(p:Int)+1) V1,ad (n:=(d:Int)+1) V1];rfl
 nxt:=by
  intro p d l s m e E h y g Z hl2 C;obtain⟨D,u⟩:=lG A h;have v:=xL (upd l d (l d-1)) g;rw[oZ]at v;unfold upd at v;unfold stT;simp only[kT];rw[Ze,zD,u];simp only[zG];rw[h];simp only[zG,cj];rw[Ze,zD,zB y,zC,ad (n:=((d+1:Nat):Int)-1) V1,show((d+1:Nat):Int)-1=(d:Int)by omega,br g];simp only[zG];rw[xL l g,Zk,v,Zf,zC];rfl
 out:=by
  intro p d l s m e E h y g Z C;obtain⟨D,u⟩:=lG A h;have v:=xL (upd l d (l d-1)) g;rw[oZ]at v;unfold upd at v;unfold stT;simp only[kT];rw[Ze,zD,u];simp only[zG];rw[h];simp only[zG,cj];rw[Ze,zD,zB y,zC,ad (n:=((d+1:Nat):Int)-1) V1,show((d+1:Nat):Int)-1=(d:Int)by omega,br g];simp only[zG];rw[xL l g,Zk,v,Ze,zD,ad (n:=(p:Int)+1) V1];rfl
abbrev FS :=Zd×Nat
def Yc (o:bz)(s:FS):FS:=(s.1.set (eL o.2.1) (app o (rg s.1 o.2.2.1) (rg s.1 o.2.2.2.1)),s.2+1)
def VdF (R M:Nat)(m:Nat)(s:FS):Prop:=dt s.1=R/\s.2+m<=M
def stF (p d:Nat)(l:Nat->Int)(s:FS):Int×Int×Int×(Zd)×Int×Int×Int×Int×Int×Int×Int×Int:=
 ((p:Int),(s.2:Int),(d:Int),s.1,l 0,l 1,l 2,l 3,l 4,l 5,l 6,l 7)
def aj8 {code:List xi}(A:code.length<=8192){R M:Nat}(hM:M<=1000000):Runs (iz (-1) code) code stF Yc (VdF R M) (VK R)where
 op:=by
  intro p d l s m o E h V y g C;obtain⟨D,u⟩:=lG A h;obtain⟨I,F,H,J,K,N,g1,g2,g3⟩:=KA V;obtain⟨v1,v2⟩:=C;refine⟨?_,by unfold Yc;exact⟨by simp[v1],by show s.2+1+m<=M;omega⟩⟩;unfold stF Yc;simp only[iz];rw[zA (show¬((p:Int)=(code.length:Int))by omega),zD,zA (show¬((s.2:Int)= -1)by omega),zD,u];simp only[zG];rw[h];simp only[zG,cj];rw[Ze,zD,Ze,zD];simp only[HV,xc,zG];rw[J,K,N,br (show F<s.1.length by omega)];simp only[zG];rw[jt (show F<s.1.length by omega)];simp only[zG];rw[br (show H<s.1.length by omega)];simp only[zG];rw[jt (show H<s.1.length by omega)];simp only[zG];rw[br (show I<s.1.length by omega)];simp only[zG];rw[jt (show I<s.1.length by omega)];simp only[zG]
  rw[ad (n:=(p:Int)+1) V1,ad (n:=(s.2:Int)+1) V1];rfl
 rep:=by
  intro p d l s m o E h y g C;obtain⟨D,u⟩:=lG A h;unfold stF;simp only[iz];rw[zA (show¬((p:Int)=(code.length:Int))by omega),zD,zA (show¬((s.2:Int)= -1)by omega),zD,u];simp only[zG];rw[h];simp only[zG,cj];rw[zB y,zC,br g];simp only[zG];rw[ad (n:=(p:Int)+1) V1,ad (n:=(d:Int)+1) V1];rfl
 nxt:=by
  intro p d l s m e E h y g Z hl2 C;obtain⟨D,u⟩:=lG A h;have v:=xL (upd l d (l d-1)) g;rw[oZ]at v;unfold upd at v;unfold stF;simp only[iz];rw[zA (show¬((p:Int)=(code.length:Int))by omega),zD,zA (show¬((s.2:Int)= -1)by omega),zD,u];simp only[zG];rw[h];simp only[zG,cj];rw[Ze,zD,zB y,zC,ad (n:=((d+1:Nat):Int)-1) V1,show((d+1:Nat):Int)-1=(d:Int)by omega,br g];simp only[zG];rw[xL l g,Zk,v,Zf,zC];rfl
 out:=by
  intro p d l s m e E h y g Z C;obtain⟨D,u⟩:=lG A h;have v:=xL (upd l d (l d-1)) g;rw[oZ]at v;unfold upd at v;unfold stF;simp only[iz];rw[zA (show¬((p:Int)=(code.length:Int))by omega),zD,zA (show¬((s.2:Int)= -1)by omega),zD,u];simp only[zG];rw[h];simp only[zG,cj];rw[Ze,zD,zB y,zC,ad (n:=((d+1:Nat):Int)-1) V1,show((d+1:Nat):Int)-1=(d:Int)by omega,br g];simp only[zG];rw[xL l g,Zk,v,Ze,zD,ad (n:=(p:Int)+1) V1];rfl
def par (o:bz)(x y:Int):Int×Int:=
 if o.1=1 then(1,1)else if o.1=2 then(1,18446744073709551615)else if o.1=3 then(y,x)else if o.1=4 then(18446744073709551615,0)else if o.1=6 then(1,0)else(0,0)
def DI (o:bz)(x y:Int):jD o.1 o.2.1 o.2.2.1 o.2.2.2.1 o.2.2.2.2 x y=O (par o x y):=by
 unfold jD par;simp only[ag]
 repeat' split
 all_goals rfl
def Mr (o:bz)(r a:Zd)(t:Int):Zd×Zd:=
 let g:=rg a o.2.1
 let d:=r.set (eL o.2.1) t
 let a1:=a.set (eL o.2.1) 0
 let q:=par o (rg d o.2.2.1) (rg d o.2.2.2.1)
 let a2:=a1.set (eL o.2.2.1) (zH zJ (rg a1 o.2.2.1+zH zJ (q.1*g)))
 (d,a2.set (eL o.2.2.2.1) (zH zJ (rg a2 o.2.2.2.1+zH zJ (q.2*g))))
def U5 {o:bz}{n:Nat}(H:VK r.length o)(M:a.length=r.length)(v:n<t.length):
  oA o.1 o.2.1 o.2.2.1 o.2.2.2.1 o.2.2.2.2 (n:Int) r a t=O (Mr o r a (rg t (n:Int))):=by
 obtain⟨d,g,h,y,A,C,u,I,J⟩:=KA H;unfold oA;simp only[DI,zG];unfold Mr;simp only[y,A,C,aB];rw[br (show d<a.length by omega)];simp only[zG];rw[jt (show d<a.length by omega)];simp only[zG];rw[br v];simp only[zG];rw[jt v];simp only[zG];rw[br u];simp only[zG];rw[jt u];simp only[zG];have e: ∀x:Int,(r.set d x).length=r.length:=by simp
 have F:(a.set d 0).length=a.length:=by simp
 rw[br (show g<(r.set d (rg t (n:Int))).length by rw[e];omega)];simp only[zG];rw[jt (show g<(r.set d (rg t (n:Int))).length by rw[e];omega)];simp only[zG];rw[br (show h<(r.set d (rg t (n:Int))).length by rw[e];omega)];simp only[zG];rw[jt (show h<(r.set d (rg t (n:Int))).length by rw[e];omega)];simp only[zG];rw[br (show g<(a.set d 0).length by omega)];simp only[zG];rw[jt (show g<(a.set d 0).length by omega)];simp only[zG];generalize K:par o _ _=P;generalize D:(a.set d 0).set g _=A2;have E:A2.length=a.length:=by rw[<-D];simp
 rw[br (show h<A2.length by omega)];simp only[zG];rw[jt (show h<A2.length by omega)];simp only[zG]
abbrev BS :=Zd×Zd×Nat
def Fg (t:Zd)(o:bz)(s:BS):BS:=((Mr o s.1 s.2.1 (rg t ((s.2.2-1:Nat):Int))).1,(Mr o s.1 s.2.1 (rg t ((s.2.2-1:Nat):Int))).2,s.2.2-1)
def VdB (R N:Nat)(m:Nat)(s:BS):Prop:=dt s.1=R/\(dt s.2.1)=R/\m<=s.2.2/\s.2.2<=N
def stB (p d:Nat)(l:Nat->Int)(s:BS):Int×Int×Int×(Zd)×(Zd)×Int×Int×Int×Int×Int×Int×Int×Int:=
 ((p:Int)-1,(d:Int),(s.2.2:Int),s.1,s.2.1,l 0,l 1,l 2,l 3,l 4,l 5,l 6,l 7)
def Ms (o:bz)(r a:Zd)(t:Int):dt (Mr o r a t).1=dt r/\(dt (Mr o r a t).2)=dt a:=by
 unfold Mr;simp
def aU5 {code:List xi}(C:code.length<=8192){R:Nat}(hN:t.length<=1000000):Backs (fR t code) code stB (Fg t) (VdB R t.length) (VK R)where
 op:=by
  intro p d l s m o A h J y g D;obtain⟨E,u⟩:=lG C h;obtain⟨H,v2,v3,v4⟩:=D;obtain⟨V,Z⟩:=Ms o s.1 s.2.1 (rg t ((s.2.2-1:Nat):Int));refine⟨?_,by unfold Fg;exact⟨by simp[H,V],by simp[v2,Z],by show m<=s.2.2-1;omega,by show s.2.2-1<=_;omega⟩⟩;unfold stB Fg;simp only[fR];rw[show((p+1:Nat):Int)-1=(p:Int)by omega,Ze,zD,u];simp only[zG];rw[h];simp only[zG,cj];rw[Ze,zD,Ze,zD,ad (n:=(s.2.2:Int)-1) V1,show(s.2.2:Int)-1=((s.2.2-1:Nat):Int)by omega,U5 (by rw[H];exact J) V1 V1];simp only[zG];rw[ad (n:=(p:Int)-1) V1]
 rep:=by
  intro p q d l s m o e A h y F g D;obtain⟨E,u⟩:=lG C h;obtain⟨h3,I⟩:=lG C F;unfold stB;simp only[fR];rw[show((p+1:Nat):Int)-1=(p:Int)by omega,Ze,zD,u];simp only[zG];rw[h];simp only[zG,cj];rw[zB y,zC,ad (n:=((q+1:Nat):Int)-1) V1,show((q+1:Nat):Int)-1=(q:Int)by omega,I];simp only[zG];rw[F];simp only[zG,cj];rw[br g];simp only[zG];rw[ad (n:=(p:Int)-1) V1,ad (n:=(d:Int)+1) V1];rfl
 nxt:=by
  intro p d l s m o A h N y g K M D;obtain⟨E,u⟩:=lG C h;have v:=xL (upd l d (l d-1)) g;rw[oZ]at v;unfold upd at v;unfold stB;simp only[fR];rw[show((p+1:Nat):Int)-1=(p:Int)by omega,Ze,zD,u];simp only[zG];rw[h];simp only[zG,cj];rw[Ze,zD,zB y,zC,ad (n:=((d+1:Nat):Int)-1) V1,show((d+1:Nat):Int)-1=(d:Int)by omega,br g];simp only[zG];rw[xL l g,Zk,v,Zf,zC];rw[ad (n:=((A+1:Nat):Int)-2) V1,show((A+1:Nat):Int)-2=(A:Int)-1 by omega];rfl
 out:=by
  intro p d l s m o A h y g K D;obtain⟨E,u⟩:=lG C h;have v:=xL (upd l d (l d-1)) g;rw[oZ]at v;unfold upd at v;unfold stB;simp only[fR];rw[show((p+1:Nat):Int)-1=(p:Int)by omega,Ze,zD,u];simp only[zG];rw[h];simp only[zG,cj];rw[Ze,zD,zB y,zC,ad (n:=((d+1:Nat):Int)-1) V1,show((d+1:Nat):Int)-1=(d:Int)by omega,br g];simp only[zG];rw[xL l g,Zk,v,Ze,zD,ad (n:=(p:Int)-1) V1];rfl
end
section
open Bool renaming and_eq_true -> cB, not_eq_true' -> cD
open List renaming getElem?_append_right -> bB, append_assoc -> bD, length_append -> cK
open Nat renaming le_refl -> aB, sub_self -> aD
def aU6 {w v c:Int}{n:Nat}(h:At w v=O c)(e:0<=v)(g:w=(n:Int)):c=((n*eL v:Nat):Int):=by
 have d:((eL v:Nat):Int)=v:=Int.toNat_of_nonneg e;rw[Int.natCast_mul,d,<-g];unfold At at h;split at h
 .rename_i u;injection h with h
  rw[u,Int.zero_mul,h]
 split at h
 .cases h
 split at h
 .cases h
 .injection h with h
  exact h.symm
def aD9 (l:List bz)(m S:Zd):Prop:=dt m=dt l/\(dt S)=dt l/\∀(A B:List bz) (o e:bz) (b:Fo),l=A++o::(b.src++e::B)->b.Ok->o.1=7->e.1=0->
 m[dt A]?=O ((dt A+1+b.len:Nat):Int)/\S[dt A]?=O ((b.n*Ae o:Nat):Int)
def aW5 {m S R:Zd}(H:MOK l m)(Z:dt S=dt l)(J: ∀o∈l,Sj o)(h: ∀j,j<dt l->∃a b,S[j]?=O a/\R[j]?=O b/\aJ1 l j a b):aD9 l m S:=by
 refine⟨H.len,Z,λA B o e b u y I E=> ?_⟩;have F:dt l=dt A+1+(b.len+(dt B+1)):=by rw[u];simp[Fo.src_len];omega
 have g:dt A<dt l:=by omega
 have d:l[dt A]=o:=by
  have:l[dt A]?=O o:=by rw[u,bB (aB _),aD];rfl
  rw[List.getElem?_eq_getElem g]at this;injection this
 have D:l.drop (dt A+1)=b.src++e::B:=by rw[u,List.drop_append,List.drop_of_length_le V1,show dt A+1-dt A=1 by omega];rfl
 refine⟨?_, ?_⟩
 .have:=H.at' (dt A) g (by rw[d];exact I) b.src e B D E (Fo.scan0 y);rw[Fo.src_len]at this;exact this
 .obtain⟨a,c,M,h2,N⟩:=h (dt A) g;have⟨V,C⟩:=(N g).1 (by rw[d];exact I) b.src e B D E (Fo.scan0 y);have v: ∀x∈b.src,0<=x.2.2.2.2:=λx hx=>(J x (by rw[u];simp[hx])).1
  have K:=Fo.Q9_n b y v V;rw[d]at C;rw[M,aU6 C (J o (by rw[u];simp)).1 K];rfl
section
variable {l:List bz} {m S:Zd} {em es:Int}
def aV5 {op:Zd}{out:List xi}(h:dt l<=8192)(u:dt out<=8192){x:bz}(e:l[i]?=O x)(g:0<x.1/\x.1<7):
  fG l (em,m) (es,S) ((i:Int),op,out)=O (.inl (((i+1:Nat):Int),op,out++[cj x 0])):=by
 have⟨hi,d⟩:=List.getElem?_eq_some_iff.1 e;simp only[fG];rw[zB (show(i:Int)<(dt l:Int)by omega),zC,cg hi,d,zG,zA (show¬x.1=7 by omega),zA (show¬x.1=0 by omega)];simp only[zD,zG,cb];rw[bn V1 V1,Zi];rfl
def au6 {op:Zd}{out:List xi}(C:dt l<=8192){x:bz}(y:l[i]?=O x)(v:x.1=7)(h:S[i]?=O 0)(g:m[i]?=O (j:Int))(A:j<=8192):
  fG l (em,m) (es,S) ((i:Int),op,out)=O (.inl (((j+1:Nat):Int),op,out)):=by
 have⟨hi,u⟩:=List.getElem?_eq_some_iff.1 y;have⟨d,_⟩:=List.getElem?_eq_some_iff.1 h;have⟨e,_⟩:=List.getElem?_eq_some_iff.1 g;simp only[fG];rw[zB (show(i:Int)<(dt l:Int)by omega),zC,cg hi,u,zG,zB v];simp only[zC];rw[br d,zG,h];simp only[zG,gi];rw[decide_true,zC,br e,zG,g];simp only[zG,gi];rw[Zi];rfl
def au5 {n:Int}{op:Zd}{out:List xi}(y:dt l<=8192)(A:dt out<=8192)(C:dt op<=8192){x:bz}(v:l[i]?=O x)(h:x.1=7)(e:S[i]?=O n)(u:n≠0):
  fG l (em,m) (es,S) ((i:Int),op,out)=O (.inl (((i+1:Nat):Int),op++[(dt out:Int)],out++[cj x 0])):=by
 have⟨hi,g⟩:=List.getElem?_eq_some_iff.1 v;have⟨d,_⟩:=List.getElem?_eq_some_iff.1 e;simp only[fG];rw[zB (show(i:Int)<(dt l:Int)by omega),zC,cg hi,g,zG,zB h];simp only[zC];rw[br d,zG,e];simp only[zG,gi];rw[zA u,zD,bn V1 V1];simp only[zG,gi,cb];rw[bn V1 V1,Zi];rfl
def ac1 {q:Nat}{op:Zd}{out:List xi}{o:bz}{t:Nat}(A:dt l<=8192)(C:dt out<=8192)(D:dt op<=8192){x:bz}(y:l[i]?=O x)(v:x.1=0)(h:out[q]?=O (cj o t)):
  fG l (em,m) (es,S) ((i:Int),op++[(q:Int)],out)=O (.inl (((i+1:Nat):Int),op,out.set q (cj o (dt out+1))++[cj x (q+1)])):=by
 have⟨hi,u⟩:=List.getElem?_eq_some_iff.1 y;have⟨d,_⟩:=List.getElem?_eq_some_iff.1 h;have g:dt (op++[(q:Int)])=dt op+1:=by simp
 simp only[fG];rw[zB (show(i:Int)<(dt l:Int)by omega),zC,cg hi,u,zG,zA (show¬x.1=7 by omega),zB v];simp only[zD,zC,zG,cb];rw[ad (n:=(dt (op++[(q:Int)]):Int)-1) V1,show(dt (op++[(q:Int)]):Int)-1=(dt op:Int)by omega,br (show dt op<(dt (op++[(q:Int)])) by omega),zG,bB (aB _),aD];simp only[List.getElem?_cons_zero,zG];rw[Zl,cf,br d,zG,h,zG,bn V3 V1];simp only[zG,gi,cb]
 have e:(op++[(q:Int)]).take (eL (dt op:Int)-0)=op:=by
  rw[show(eL (dt op:Int))-0=(dt op) by omega,List.take_left'];rfl
 rw[e,ad (n:=(i:Int)+1) V1,ad (n:=(dt out:Int)+1) V1,ad (n:=(q:Int)+1) V1];rfl
def LR (g:dt l<=8192)(C:aD9 l m S): ∀(f:Fo) (A B:List bz) (op:Zd) (out:List xi),l=A++f.src++B->f.Ok->dt op<=dt A->dt out<=dt A->
  ∃k,k<=f.len/\Reach (fG l (em,m) (es,S)) k ((dt A:Int),op,out) (((dt A+f.len:Nat):Int),op,out++f.bare.code (dt out))
 | .nil,A,B,op,out,d,_,_,_=>by
  refine⟨0,aB _, ?_⟩;simp only[Fo.bare,Fo.code,Fo.len,List.append_nil,Nat.add_zero];exact Reach.refl
 | .op o r,A,B,op,out,d,F,hp,ho=>by
  have K:dt (A++[o])=dt A+1:=by simp
  have Z:dt l=dt A+(r.len+1)+dt B:=by rw[d];simp[Fo.src,Fo.src_len];omega
  have H:l[dt A]?=O o:=by rw[d,bD,bB (aB _),aD];rfl
  have⟨k,I,E⟩:=LR g C r (A++[o]) B op (out++[cj o 0]) ZH F.2 V1 V3;refine⟨1+k,by simp only[Fo.len];omega, ?_⟩;have h:=(Reach.one (aV5 (em:=em) (es:=es) (op:=op) (out:=out) g V1 H F.1)).trans (show Reach _ k _ _ from by rw[K]at E;exact E);simp only[Fo.bare,Fo.code,Fo.len];rw[show dt A+(r.len+1)=dt A+1+r.len by omega];rw[bD,cK]at h;exact h
 | .rep o b e r,A,B,op,out,d,F,hp,ho=>by
  have⟨⟨I,E⟩,k3,k4⟩:=F;have Z:dt l=dt A+(b.len+r.len+2)+dt B:=by rw[d];simp[Fo.src,Fo.src_len];omega
  have H:l[dt A]?=O o:=by rw[d,bD,bB (aB _),aD];rfl
  have⟨hm,N⟩:=C.2.2 A (r.src++B) o e b ZH k3 I E;have M:dt (A++o::b.src)=dt A+1+b.len:=by simp[Fo.src_len];omega
  have hxe:l[dt A+1+b.len]?=O e:=by
   rw[show l=(A++o::b.src)++(e::(r.src++B))by rw[d];simp[Fo.src],<-M,bB (aB _),aD];rfl
  have u:dt (A++o::(b.src++[e]))=dt A+1+b.len+1:=by simp[Fo.src_len];omega
  simp only[Fo.bare,Fo.len];by_cases hz:b.n*Ae o=0
  .rw[zE hz];rw[hz]at N;have⟨k,g1,y⟩:=LR g C r (A++o::(b.src++[e])) B op out ZH k4 V1 V1;refine⟨1+k,V1, ?_⟩;have h:=(Reach.one (au6 (em:=em) (es:=es) (op:=op) (out:=out) g H I N hm V1)).trans (show Reach _ k _ _ from by rw[u]at y;exact y);rw[show dt A+(b.len+r.len+2)=dt A+1+b.len+1+r.len by omega];exact h
  .rw[zF hz];have K:dt (A++[o])=dt A+1:=by simp
   have⟨kb,b1,b2⟩:=LR g C b (A++[o]) (e::(r.src++B)) (op++[(dt out:Int)]) (out++[cj o 0]) ZH k3 V3 V3;rw[K]at b2;have hbl:=b.bare_len;have hrl:=r.bare_len;have v:dt (out++[cj o 0]++b.bare.code (dt (out++[cj o 0])))=dt out+1+b.bare.len:=by simp[Fo.code_len];omega
   have hq:(out++[cj o 0]++b.bare.code (dt (out++[cj o 0])))[dt out]?=O (cj o 0):=by
    rw[bD,bB (aB _),aD];rfl
   have J:=ac1 (em:=em) (es:=es) (m:=m) (S:=S) (op:=op) g V1 V1 hxe E hq;rw[v]at J
   have D:(out++[cj o 0]++b.bare.code (dt (out++[cj o 0]))).set (dt out) (cj o (dt out+1+b.bare.len+1))=out++cj o (dt out+1+b.bare.len+1)::b.bare.code (dt out+1):=by
    rw[bD,List.set_append_right _ _ (aB _),aD,cK];rfl
   rw[D]at J;have⟨k,g1,y⟩:=LR g C r (A++o::(b.src++[e])) B op (out++cj o (dt out+1+b.bare.len+1)::b.bare.code (dt out+1)++[cj e (dt out+1)]) ZH k4 V1 (by rw[u];simp[Fo.code_len];omega);rw[u]at y;refine⟨1+kb+1+k,V1, ?_⟩;have h:=(((Reach.one (au5 (em:=em) (es:=es) (m:=m) (op:=op) (out:=out) g V1 V1 H I N V1)).trans b2).trans (Reach.one J)).trans y;rw[show dt A+(b.len+r.len+2)=dt A+1+b.len+1+r.len by omega]
   have e1:out++cj o (dt out+1+b.bare.len+1)::b.bare.code (dt out+1)++[cj e (dt out+1)]++r.bare.code (dt (out++cj o (dt out+1+b.bare.len+1)::b.bare.code (dt out+1)++[cj e (dt out+1)]))=out++(Fo.rep o b.bare e r.bare).code (dt out):=by
    have V:dt (out++cj o (dt out+1+b.bare.len+1)::b.bare.code (dt out+1)++[cj e (dt out+1)])=dt out+b.bare.len+2:=by simp[Fo.code_len];omega
    rw[V];simp only[Fo.code];rw[show dt out+1+b.bare.len+1=dt out+b.bare.len+2 by omega];simp
   rw[e1]at h;exact h
end
def NJ :Co l=ek (kR l) λr=>O (r.2.1,r.2.2.1):=rfl
def Xs {R:Int}(h:Db R l=0):IY l=0/\IZ R l=0/\I0 l=0/\I1 l=0:=by
 unfold Db at h;split at h
 .omega
 split at h
 .omega
 split at h
 .omega
 .omega
structure Prg (R:Int)(l:List bz)(f:Fo):Prop where
 ops:OpsOk l
 ok:f.Ok
 src:f.src=l
 z:Db R l=0
 R1:1<=R/\R<=64
 deep:f.hi<=8
 n:f.n<=65536
 w:di l=((f.n:Int),0)
 regs: ∀o∈l,0<o.1/\o.1<7->VK (eL R) o
def ai3 {R:Int}(h:OpsOk l)(N:Db R l=0): ∃f,Prg R l f:=by
 have⟨J,K,A,u⟩:=Xs N
 have e:zM l=Za:=by
  unfold IY at J;split at J
  .assumption
  .omega
 have g:H5 R l=Za:=by
  unfold IZ at K;split at K
  .assumption
  .omega
 unfold zM at e;rw[cB,decide_eq_true_eq,cD]at e;have⟨D,hr⟩:=e;unfold H5 at g;rw[cB,decide_eq_true_eq,cD]at g;have⟨hR,ho⟩:=g;have⟨f,E,y⟩:=Fo.parse _ l (aB _) D
 have C: ∃t,Q9 l=O t/\t<=65536:=by
  unfold I1 di at u;rw[zE D]at u;cases C:Q9 l with
  |none=>rw[C]at u;cases u
  |some t=>
   rw[C]at u;refine⟨t,rfl, ?_⟩;by_cases c:65536<t
   .simp only[zE c]at u;cases u
   .omega
 have⟨t,V,hle⟩:=C;have hn:t=(f.n:Int):=Fo.Q9_n f E (λx hx=>(h.v x (y▸hx)).1) (by rw[y];exact V);refine⟨f,h,E,y,N,hR, ?_,V1, ?_,λo M I=> ?_⟩
 .have Z:=Fo.hi_le E;rw[y]at Z;unfold I0 LJ at A;rw[zE D]at A;by_cases c:(8:Int)<((hmax l 0 0:Nat):Int)
  .simp only[zE c]at A;cases A
  .omega
 .unfold di;rw[zE D,V];show(if 65536<t then((0:Int),(9:Int))else(t,0))=_;rw[Zh,hn]
 .have F:=List.any_eq_false.1 hr o M;have H:=List.any_eq_false.1 ho o M;have F:kB o=Za:=by simpa using F
  have H:Ql R o=Zb:=by simpa using H
  have⟨k,d,a,b,v⟩:=o;have I:k=1∨k=2∨k=3∨k=4∨k=5∨k=6:=by simp only at I;omega
  unfold VK
  rcases I with rfl|rfl|rfl|rfl|rfl|rfl<;>
   .simp[kB,Ca,ba]at F;simp[Ql,ba]at H;simp only;omega
def FG {R:Int}{f:Fo}(d:Prg R l f):nL R l=O (0,f.bare.code 0):=by
 unfold nL;rw[Nw d.ops];simp only[zG];rw[d.z,zA V2,zD];have M:=d.ops.len;have F:bu l 0=O 0:=by rw[<-d.src];exact Fo.scan0 d.ok
 obtain⟨m,C,A⟩:=Kh (l:=l) V1 F;obtain⟨r,E,V,Z,g⟩:=QH (l:=l) V1 d.ops.v;rw[C,NJ,E];simp only[zG];have H:=d.w;rcases g with⟨g,_⟩|⟨_,_,J,r5,K⟩
 .rw[H]at g;exact(g rfl).elim
 have y:=aW5 A J (λo D=>d.ops.v o D) K;obtain⟨k,N,I⟩:=LR (em:=0) (es:=r.2.1) V1 y f [] [] [] [] (by simp[d.src]) d.ok V2 V2;have h:f.len=l.length:=by rw[<-Fo.src_len,d.src]
 have u:=I (18446744073709551616-k);rw[show 18446744073709551616-k+k=cv by unfold cv;omega,show 18446744073709551616-k=(18446744073709551615-k)+1 by omega]at u
 have e:am (fG l (0,m) (r.2.1,r.2.2.1)) cv ((0:Int),([]:Zd),([]:List xi))=O (f.bare.code 0):=by
  refine u.trans ?_;rw[bm];simp only[fG];rw[zA (by rw[h];simp),zD];rfl
 rw[e];rfl
end
section
open List renaming replicate -> aB, length_replicate -> aD
def FR {α γ:Type}{g:α->Option (α⊕γ)}{s e:α}{c:γ}(h:Reach g k s e)(v:k<=1000000000)(u:g e=O (.inr c)):am g cv s=O c:=by
 have d:=h (18446744073709551616-k);rw[show 18446744073709551616-k+k=cv by unfold cv;omega,show 18446744073709551616-k=(18446744073709551615-k)+1 by omega]at d;refine d.trans ?_;rw[bm,u];rfl
section
variable {R:Int} {l:List bz} {f:Fo}
def Prg.len (h:Prg R l f):f.len<=4096:=by
 have:=h.ops.len;rw[<-Fo.src_len,h.src];exact this
def Prg.clen (h:Prg R l f):dt (f.bare.code 0)<=8192:=by
 have d:=h.len;have e:=f.bare_len;rw[Fo.code_len];omega
def Prg.steps (h:Prg R l f):f.bare.steps<=1000000000:=by
 have d:=Fo.steps_le f.bare f.bare_pos;rw[Fo.bare_n]at d;have g:=h.len;have u:=f.bare_len;have e:=h.n;have v:(2*f.bare.len+1)*f.n<=8193*65536:=Nat.mul_le_mul V1 e;omega
def Prg.good (h:Prg R l f): ∀o∈f.bare.src,(0<o.1/\o.1<7->VK (eL R) o)/\Sj o:=λo d=>by
 have:=Fo.bare_mem f d;rw[h.src]at this;exact⟨h.regs o this,h.ops.v o this⟩
def Prg.hi (h:Prg R l f):0+f.bare.hi<=8:=by
 have d:=h.deep;have e:=f.bare_hi;omega
def Prg.writes (h:Prg R l f):gk l=O ((f.n:Int),0):=by
 rw[wV (by have:=h.ops.len;omega) h.ops.v,h.w]
def aE5 (R:Nat)(o:bz):Prop:=0<o.1/\o.1<7->VK R o
def OE {Z γ S:Type}{g:Z->Option (Z⊕γ)}{code:List xi}{st:Nat->Nat->(Nat->Int)->S->Z}{d:bz->S->S}{Vd:Nat->S->Prop}{R:Nat}(h:Runs g code st d Vd (VK R)):Runs g code st d Vd (aE5 R):=
 ⟨λu v e y A=>h.op u (v e) e y A,h.rep,h.nxt,h.out⟩
def Lq {Z γ S:Type}{g:Z->Option (Z⊕γ)}{code:List xi}{st:Nat->Nat->(Nat->Int)->S->Z}{d:bz->S->S}{Vd:Nat->S->Prop}{R:Nat}(h:Backs g code st d Vd (VK R)):Backs g code st d Vd (aE5 R):=
 ⟨λu v e y A=>h.op u (v e) e y A,h.rep,h.nxt,h.out⟩
def Dd (f:Fo)(r t:Zd):TS:=Ud U0 f.unroll (r,t,0)
def Yh (h:Prg R l f)(C:dt r=eL R)(D:f.n<=dt t)(v:dt t<=1000000):
  Az (f.bare.code 0) r t=O (((Dd f r t).2.2:Int),(Dd f r t).1,(Dd f r t).2.1)/\(dt (Dd f r t).1)=eL R/\(dt (Dd f r t).2.1)=dt t:=by
 have⟨g,_,y,u⟩:=MK (m:=0) (l:=λ_=>0) (s:=((r,t,0):TS)) (d:=0) (p:=0) (A:=[]) (B:=[]) (OE (X6 (R:=eL R) (N:=dt t) h.clen v)) f.bare V2 rfl (Fo.bare_ok f h.ok) f.bare_pos h.hi h.good ⟨C,rfl,by rw[Fo.bare_n];show 0+(f.n+0)<=_;omega⟩;rw[Fo.bare_unroll]at y u;refine⟨?_,u.1,u.2.1⟩;unfold Az
 have:=FR y h.steps (c:=(((Dd f r t).2.2:Int),(Dd f r t).1,(Dd f r t).2.1,g 0,g 1,g 2,g 3,g 4,g 5,g 6,g 7)) (by
  unfold stT;simp only[kT];rw[zB (by rw[Fo.code_len];omega),zC]
  rfl)
 have e:stT 0 0 (λ_=>0) ((r,t,0):TS)=(0,0,0,r,t,0,0,0,0,0,0,0,0):=rfl;rw[e]at this;rw[this];rfl
def tj (h:Prg R l f)(v:dt r=eL R)(y:f.n<=dt t)(d:dt t<=1000000):
  mE R l r t=O (((Dd f r t).2.2:Int),0,(Dd f r t).1,(Dd f r t).2.1)/\(dt (Dd f r t).1)=eL R/\(dt (Dd f r t).2.1)=dt t:=by
 have⟨e,g,u⟩:=Yh h v y d;refine⟨?_,g,u⟩;unfold mE Cp;rw[FG h,h.writes];have A:=h.R1;simp only[zG];rw[zA (show¬((0:Int)≠0)by simp),zD,zA (show¬((dt r:Int)≠R)by omega),zD,zA (show¬((dt t:Int)<(f.n:Int))by omega),zD,zG,zA (show¬((0:Int)≠0)by simp),zD,e];rfl
def X5 (f:Fo)(r:Zd):Zd:=(Ud Yc f.unroll (r,0)).1
def P4 (h:Prg R l f)(y:dt r=eL R):tF (-1) (f.bare.code 0) r=O (X5 f r)/\(dt (X5 f r))=eL R:=by
 have⟨g,_,u,v⟩:=MK (m:=0) (l:=λ_=>0) (s:=((r,0):FS)) (d:=0) (p:=0) (A:=[]) (B:=[]) (OE (aj8 (R:=eL R) (M:=65536) h.clen V1)) f.bare V2 rfl (Fo.bare_ok f h.ok) f.bare_pos h.hi h.good ⟨y,by rw[Fo.bare_n];show 0+(f.n+0)<=_;have:=h.n;omega⟩;rw[Fo.bare_unroll]at u v;refine⟨?_,v.1⟩;unfold tF
 have:=FR u h.steps (c:=(X5 f r,g 0,g 1,g 2,g 3,g 4,g 5,g 6,g 7)) (by
  unfold stF;simp only[iz];rw[zB (by rw[Fo.code_len];omega),zC]
  rfl)
 have e:stF 0 0 (λ_=>0) ((r,0):FS)=(0,0,0,r,0,0,0,0,0,0,0,0):=rfl;rw[e]at this;rw[this];rfl
def fill (R:Int)(r:Zd):Zd:=r++aB (eL R-dt r) 0
def uG {R:Int}(h:dt r<=eL R):dt (fill R r)=eL R:=by
 unfold fill;rw[List.length_append,aD];omega
def W8 {R:Int}(h:dt r<=eL R):BU (aB (eL R) (0:Int)) 0 (dt (aB (eL R) (0:Int))) r=fill R r:=by
 unfold BU fill;rw[aD,List.take_zero,List.nil_append,Nat.zero_add,Nat.min_eq_right h,List.take_of_length_le h,List.drop_replicate]
def RL (h:Prg R l f)(d:dt r<=eL R):pa R l r=O (0,X5 f (fill R r))/\(dt (X5 f (fill R r)))=eL R:=by
 have⟨e,g⟩:=P4 h (uG d);refine⟨?_,g⟩;have u:=h.R1;unfold pa xd;rw[FG h,zG,zA (show¬((0:Int)≠0)by simp),zD,zA (show¬(R<(dt r:Int))by omega),zD,zB (show 0<=R by omega),zB (show R<=R by omega),zB (show 8*R<=140737488355328 by omega),W8 d];show((gd Za _).bind _)=_;rw[cf,zG,zA (show¬((0:Int)≠0)by simp),zD,e];rfl
def jZ (f:Fo)(r a t:Zd):BS:=Nu (Fg t) f.unroll (r,a,f.n)
def U4 (h:Prg R l f)(E:dt r=eL R)(C:dt a=eL R)(F:f.n<=dt t)(v:dt t<=1000000):
  oz (f.n:Int) r a t (f.bare.code 0)=O ((jZ f r a t).1,(jZ f r a t).2.1)/\(dt (jZ f r a t).1)=eL R/\(dt (jZ f r a t).2.1)=eL R:=by
 have⟨g,_,y,u⟩:=Hx (m:=0) (l:=λ_=>0) (s:=((r,a,f.n):BS)) (d:=0) (p:=0) (A:=[]) (B:=[]) (Lq (aU5 (R:=eL R) (t:=t) h.clen v)) f.bare V2 rfl (Fo.bare_ok f h.ok) f.bare_pos h.hi h.good ⟨E,C,by rw[Fo.bare_n];exact Nat.le_refl _,F⟩;rw[Fo.bare_unroll]at y u;refine⟨?_,u.1,u.2.1⟩;unfold oz;have D:=h.clen;rw[Fo.code_len]at D
 have:=FR y h.steps (c:=((jZ f r a t).1,(jZ f r a t).2.1,g 0,g 1,g 2,g 3,g 4,g 5,g 6,g 7)) (by
  unfold stB;simp only[fR];rw[Zf,zC]
  rfl)
 have e:stB (0+f.bare.len) 0 (λ_=>0) ((r,a,f.n):BS)=(IntKind.i64.wrap ((dt (f.bare.code 0):Int)-1),0,(f.n:Int),r,a,0,0,0,0,0,0,0,0):=by
  unfold stB;rw[Fo.code_len,Zi,Nat.zero_add];rfl
 rw[e]at this;rw[this];rfl
def qG (h:Prg R l f)(y:r.length=R.toNat)(v:a.length=R.toNat)(A:f.n<=t.length)(d:t.length<=1000000):
  ov R l r a t=O (0,(jZ f r a t).1,(jZ f r a t).2.1)/\(jZ f r a t).1.length=R.toNat/\(jZ f r a t).2.1.length=R.toNat:=by
 obtain⟨e,g,u⟩:=U4 h y v A d;refine⟨?_,g,u⟩;have C:=h.R1;unfold ov;rw[FG h,h.writes];simp only[zG];rw[zA (show¬((0:Int)≠0)by simp),zD,zA (show¬((r.length:Int)≠R)by omega),zD,zA (show¬((a.length:Int)≠R)by omega),zD,zA (show¬((t.length:Int)<(f.n:Int))by omega),zD,e];rfl
end
end
section
open List renaming length_take -> aB, take_length -> aD, length_append -> bB, getElem?_drop -> bD, getElem?_take -> cB, getElem?_append_left -> cD, getElem?_append_right -> cK, getElem_mem -> cL, length_drop -> cM
def seg (W:Zd)(o n:Nat):Zd:=(W.drop o).take n
def put (W:Zd)(o:Nat)(w:Zd):Zd:=W.take o++(w++W.drop (o+dt w))
def QD (W:Zd)(o n i:Nat):(seg W o n)[i]?=if i<n then W[o+i]? else Y:=by
 unfold seg;rw[cB];split
 .rw[bD]
 .rfl
def Qp (h:o+dt w<=dt W)(i:Nat):(put W o w)[i]?=if o<=i/\i<o+dt w then w[i-o]? else W[i]?:=by
 unfold put;have g:dt (W.take o)=o:=by rw[aB];omega
 by_cases d:i<o
 .rw[cD V1,cB,zE d,Zh]
 .rw[cK V1,g];by_cases e:i<o+dt w
  .rw[cD V1,zE ⟨V1,e⟩]
  .rw[cK V1,bD,Zh]
   congr 1
   omega
def fY {n:Nat}(h:o+n<=dt W):dt (seg W o n)=n:=by
 unfold seg;rw[aB,cM];omega
def az5 (h:o+dt w<=dt W):dt (put W o w)=dt W:=by
 unfold put;rw[bB,bB,aB,cM];omega
def ai9 (h:o+dt w<=dt W)(d:i<o∨o+dt w<=i):(put W o w)[i]?=W[i]?:=by
 rw[Qp h,Zh]
def Y7 (h:o+dt w<=dt W):BU W o (dt w) w=put W o w:=by
 unfold BU put;rw[aD,Nat.min_self]
def zr {n tk:Nat}(h:o+n<=tk)(d:tk<=dt W)(e:dt W<=1048576):dj (o:Int) (n:Int) (tk:Int) W=O (0,seg W o n):=by
 unfold dj;rw[Ze,zD,Ze,zD,Ze,zD,ad (n:=(tk:Int)-o) V1,Ze,zD,ad (n:=(o:Int)+n) V1,Zl,cf];unfold ak;rw[show(eL ((o:Int)+n))-eL (o:Int)=n by omega,show(eL (o:Int))=o by omega,bn Z2 V1];rfl
def WZ {tk:Nat}(h:o<tk)(e:tk<=dt W)(g:dt W<=1048576):fV (o:Int) (tk:Int) W=O (rg W (o:Int),0):=by
 unfold fV;rw[Ze,zD,Ze,zD,ad (n:=(tk:Int)-o) V1,Ze,zD,ad (n:=(o:Int)+1) V1,Zl,cf];unfold ak;rw[show(eL ((o:Int)+1))-eL (o:Int)=1 by omega,show(eL (o:Int))=o by omega,bn Z2 V1]
 have d:(W.drop o).take 1=[rg W (o:Int)]:=by
  apply List.ext_getElem?;intro i;rw[cB,bD];rcases Nat.eq_zero_or_pos i with rfl|hi
  .rw[Zg,Nat.add_zero,jt V1];rfl
  .rw[Zh,List.getElem?_eq_none V3]
 rw[d];rfl
def ta {tk:Nat}(h:o+dt w<=tk)(d:tk<=dt W)(e:dt W<=1048576):dx (o:Int) w (tk:Int) W=O (0,put W o w):=by
 unfold dx;rw[Ze,zD,Ze,zD,Ze,zD,ad (n:=(tk:Int)-o) V1,Ze,zD,ad (n:=(o:Int)+dt w) V1,Zl,cf,show(eL ((o:Int)+dt w))-eL (o:Int)=(dt w) by omega,show(eL (o:Int))=o by omega,Y7 V1]
def qD {n:Int}(h:0<=n)(g:0<=lv)(e:lv+n<=bd)(d:bd<=1048576):ck n lv pk bd=O (0,lv+n,max pk (lv+n),bd):=by
 unfold ck oe jY;rw[Ze,zD,zG,ad (n:=bd-lv) V1,Zf,ad (n:=lv+n) V1];rfl
def vE {n:Int}(h:0<=n)(e:n<=lv)(g:lv<=pk)(d:lv<=1048576):bi n lv pk bd=O (0,lv-n,pk,bd):=by
 unfold bi jY;rw[Ze,zD,Ze,zD,zG,ad (n:=0-n) V1,Zi,show lv+(0-n)=lv-n by omega,Int.max_eq_left V1]
def Xt (ls:List (Zd))(h: ∀l∈ls,dt l<=100000):dt ls.flatten<=100000*dt ls:=by
 induction ls with
 |nil=>simp
 |cons a r e=>
  have g:=h a V2;have u:=e λl d=>h l (by simp[d])
  rw[List.flatten_cons,bB,List.length_cons];omega
def OJ {ls:List (Zd)}(h:i<dt ls):(ls.take (i+1)).flatten=(ls.take i).flatten++ls[i]:=by
 rw[List.take_succ_eq_append_getElem h,List.flatten_append];simp
def Yg (ls:List (Zd))(h: ∀l∈ls,dt l<=100000)(d:dt ls<=1000)(i:Nat):dt (ls.take i).flatten<=100000000:=by
 have e:=Xt (ls.take i) λl d=>h l (List.mem_of_mem_take d)
 rw[aB]at e;omega
def N1 {ls:List (Zd)}(h: ∀l∈ls,l.length<=100000)(y:ls.length<=1000):fh ls=O ls.flatten:=by
 have d:=Yg ls h y
 have C:am (fW ls) cv (0,0)=O (((ls.take ls.length).flatten.length:Nat):Int):=by
  refine eZ (n:=ls.length) (λi=>(((ls.take i).flatten.length:Nat):Int)) V1 (λi hi=> ?_) ?_
  .unfold fW;have e:=d i;have v:=h ls[i] (cL hi);simp only;rw[zB (show(i:Int)<(ls.length:Int)by omega),zC,cg hi];simp only[zG];rw[ad (n:=(((ls.take i).flatten.length:Nat):Int)+((ls[i].length:Nat):Int)) V1,Ze,zD,ad (n:=(i:Int)+1) V1,OJ hi,bB];rfl
  .unfold fW;simp only;rw[Ze,zD]
 have u: ∀(f:Int×Zd->Option ((Int×Zd)⊕Zd)),(∀s,f s=cond (Zc (s.1<((ls.length:Nat):Int))) ((rd ls s.1).bind λx=>gd (fd (s.2.length+x.length) 8) (O (.inl (IntKind.i64.wrap (s.1+1),s.2++x)))) (O (.inr s.2)))->
   am f cv (0,[])=O (ls.take ls.length).flatten:=by
  intro f g;refine eZ (n:=ls.length) (λi=>(ls.take i).flatten) V1 (λi hi=> ?_) ?_
  .rw[g];have e:=d i;have v:=h ls[i] (cL hi);rw[zB (show(i:Int)<(ls.length:Int)by omega),zC,cg hi];simp only[zG];rw[bn V1 V1,ad (n:=(i:Int)+1) V1,OJ hi];rfl
  .rw[g];rw[Ze,zD]
 unfold fh;rw[C];rw[aD];simp only[zG];have e:=d ls.length;rw[aD]at e;rw[Ze,zD,ad (n:=((ls.flatten.length:Nat):Int)-0) V1,ag];split
 .rw[Int.sub_zero]
  have A:my 8 ((ls.flatten.length:Nat):Int)=Za:=by
   generalize ls.flatten.length=N at e⊢;unfold my;rw[Zf,Zf,Zf];rfl
  rw[A,cf,bn (by rw[List.length_replicate];omega) V1,Zl,cf,List.take_zero,u (mg ls) λs=>rfl,aD];rfl
 .rw[u (mh ls) λs=>rfl,aD];rfl
end
section
open List renaming length_append -> aB, length_replicate -> aD, not_mem_nil -> bB
structure Cx where
 mode:Int
 R:Int
 Q:Int
 len:Int
 words:Int
 X:Zd
 T:Zd
 l:List bz
 k:List bz
 fl:Fo
 fk:Fo
 fixed:Int
 tp:Int
 sl:Int
 ns:Int
namespace Cx
def sz (c:Cx):Nat->Nat
 |0=>dt c.T
 |1=>dt c.X
 |2=>eL c.R
 |3=>eL c.Q
 |4=>max (eL c.R) (eL c.Q)
 |5=>dt c.X
 |6=>dt c.T
 |7=>eL c.tp
 |8=>eL (c.sl*c.ns)
 |_=>0
def off (c:Cx):Nat->Nat
 |0=>0
 |i+1=>c.off i+c.sz i
def P (c:Cx):Zd:=(List.range 10).map λi=>(c.off i:Int)
def tk (c:Cx):Int:=(c.off 9:Int)
structure Ok (c:Cx):Prop where
 hl:OpsOk c.l
 hk:OpsOk c.k
 hc:mO c.mode (dt c.X) (dt c.T) c.R c.l c.Q c.k c.len c.words=0
 pl:Prg c.R c.l c.fl
 pk:Prg c.Q c.k c.fk
 fixed:c.fixed=rZ (dt c.X) (dt c.T) c.R c.Q
 tp:c.tp=ri c.mode c.l c.k
 sl:c.sl=rh c.mode (dt c.X) c.R c.l
 ns:0<=c.ns/\c.ns<=1048576
 fit:c.fixed+c.tp+c.sl*c.ns<=c.words
 base:c.mode=3->c.ns=c.len
end Cx
structure Num (c:Cx):Prop where
 mode:1<=c.mode/\c.mode<=3
 R:1<=c.R/\c.R<=64
 Q:1<=c.Q/\c.Q<=64
 x:1<=dt c.X/\(dt c.X)<=64
 t:dt c.T<=64
 xtR:(dt c.X:Int)+dt c.T+1<=c.R
 xtQ:(dt c.X:Int)+dt c.T<=c.Q
 len:0<=c.len/\c.len<=65535
 words:0<=c.words/\c.words<=1048576
 n:c.fl.n<=65536
 m:c.fk.n<=65536
 tp:c.tp=(if c.mode=3 then(c.fk.n:Int)else c.fl.n+c.fk.n)
 sl:c.sl=(if c.mode=3 then(c.fl.n:Int)+c.R else dt c.X+1)
 fixed:c.fixed=2*dt c.T+2*dt c.X+c.R+c.Q+max c.R c.Q
 mul:0<=c.sl*c.ns
def Of {x t:Nat}{R:Int}{k:List bz}{n:Int}(h:mO m x t R l Q k n b=0):kw R l Q k=0/\vk R Q x t=0:=by
 unfold mO at h;split at h
 .rename_i c;exact(c h).elim
 split at h
 .rename_i c;exact(c h).elim
 split at h
 .rename_i c;exact(c h).elim
 rename_i c1 c2 c3;exact⟨V1,V1⟩
def XW {R:Int}{k:List bz}(h:kw R l Q k=0):Db R l=0/\Db Q k=0:=by
 unfold kw at h
 repeat' split at h
 all_goals first|(exact absurd h ZI)|skip
 unfold Db;constructor
 .repeat' split
  all_goals first|(rename_i c;exact V1)|omega
 .repeat' split
  all_goals first|(rename_i c;exact V1)|omega
def Xi {R:Int}{x t:Nat}(e:x<=64)(d:t<=64)(h:vk R Q x t=0):(x:Int)+t+1<=R/\(x:Int)+t<=Q:=by
 unfold vk at h;rw[ad (n:=(x:Int)+t) V1,ad (n:=(x:Int)+t+1) V1]at h
 repeat' split at h
 all_goals omega
def Cx.Ok.num {c:Cx}(h:c.Ok):Num c:=by
 have f:=zO h.hl h.hk h.hc;have⟨y,e⟩:=Of h.hc;have⟨g,u⟩:=Xi f.xs.2 f.ts e;have d:=h.pl.w;have v:=h.pk.w;have s:=MS h.hl h.hk h.hc;refine⟨f.mode,f.regs,f.regs',f.xs,f.ts,g,u,f.len,f.bud,h.pl.n,h.pk.n, ?_, ?_, ?_, ?_⟩
 .rw[h.tp];unfold ri;rw[d,v]
 .rw[h.sl];unfold rh;rw[d]
 .rw[h.fixed];unfold rZ;rfl
 .rw[h.sl];exact(Qi (by have:=s.sl;omega) h.ns).1
section
variable {c:Cx}
def bi4 :c.off 1=dt c.T:=Nat.zero_add _
def bi5 :c.off 2=dt c.T+dt c.X:=by show c.off 1+_=_;rw[bi4];rfl
def bi6 :c.off 3=dt c.T+dt c.X+eL c.R:=by show c.off 2+_=_;rw[bi5];rfl
def bi7 :c.off 4=dt c.T+dt c.X+eL c.R+eL c.Q:=by show c.off 3+_=_;rw[bi6];rfl
def bi8 :c.off 5=dt c.T+dt c.X+eL c.R+eL c.Q+max (eL c.R) (eL c.Q):=by show c.off 4+_=_;rw[bi7];rfl
def bi9 :c.off 6=dt c.T+dt c.X+eL c.R+eL c.Q+max (eL c.R) (eL c.Q)+dt c.X:=by show c.off 5+_=_;rw[bi8];rfl
def aX2 :c.off 7=dt c.T+dt c.X+eL c.R+eL c.Q+max (eL c.R) (eL c.Q)+dt c.X+dt c.T:=by show c.off 6+_=_;rw[bi9];rfl
def bj0 :c.off 8=c.off 7+eL c.tp:=rfl
def NG :c.off 9=c.off 8+eL (c.sl*c.ns):=rfl
def aP2 (h:i<=j):c.off i<=c.off j:=by
 induction j with
 |zero=>rw[Nat.le_zero.1 h];exact Nat.le_refl _
 |succ j d=>
  rcases Nat.lt_or_ge i (j+1)with h1|h1
  .exact Nat.le_trans (d V1) (Nat.le_add_right _ _)
  .rw[Nat.le_antisymm h h1];exact Nat.le_refl _
def oN (h:i<j):c.off i+c.sz i<=c.off j:=aP2 (c:=c) (i:=i+1) h
def Cx.Ok.off9_le (h:c.Ok):(c.off 9:Int)<=c.words:=by
 have n:=h.num;have g:=n.R;have u:=n.Q;have v:=n.fixed;have d:=n.tp;have y:=n.mul;have A:=h.fit;have e:0<=c.tp:=by rw[d];split<;>omega
 rw[NG,bj0,aX2];omega
def Cx.P_get (h:i<10):c.P[i]?=O (c.off i:Int):=by
 unfold Cx.P;rw[List.getElem?_map,List.getElem?_range h];rfl
def Cx.P_len :dt c.P=10:=by unfold Cx.P;simp
def Wd (c:Cx)(W:Zd):Prop:=dt W=eL c.words
def Wd.tk (h:c.Ok)(d:Wd c W):c.off 9<=dt W/\(dt W)<=1048576:=by
 have:=h.off9_le;have:=h.num.words;unfold Wd at d;omega
def Wd.put (h:c.Ok)(d:Wd c W)(e:o+dt w<=c.off 9):Wd c (put W o w):=by
 have:=d.tk h;unfold Wd at d⊢;rw[az5 V1,d]
def RQ {k:List bz}(h:c.Ok)(v:Wd c W)(hi:ii=(i:Int))(d:i<9):
  bp ii a0 a1 a2 a3 a4 a5 a6 a7 a8 a9 a10 a11 a12 a13 a14 a15 a16 X T l k c.P c.tk lv pk bd W=O (seg W (c.off i) (c.sz i)):=by
 subst hi;have g:=v.tk h;have u:=oN (c:=c) (i:=i) (j:=9) d;unfold bp;rw[br (show i<c.P.length by rw[Cx.P_len];omega)];simp only[zG];rw[Cx.P_get (show i<10 by omega)];simp only[zG];rw[ad (n:=(i:Int)+1) V1,show(i:Int)+1=((i+1:Nat):Int)by omega,br (show i+1<c.P.length by rw[Cx.P_len];omega)];simp only[zG];rw[Cx.P_get (show i+1<10 by omega)];simp only[zG]
 have e:IntKind.i64.wrap ((c.off (i+1):Int)-(c.off i:Int))=(c.sz i:Int):=by
  have:c.off (i+1)=c.off i+c.sz i:=rfl;rw[Zi];omega
 rw[e];unfold Cx.tk;rw[zr u g.1 g.2];rfl
def Kn {k:List bz}(h:c.Ok)(g:Wd c W)(hi:ii=(i:Int))(d:i<9)(v:dt w<=c.sz i):
  ap ii w a0 a1 a2 a3 a4 a5 a6 a7 a8 a9 a10 a11 a12 a13 a14 a15 a16 X T l k c.P c.tk lv pk bd W=O (put W (c.off i) w):=by
 subst hi;have e:=g.tk h;have u:=oN (c:=c) (i:=i) (j:=9) d;unfold ap;rw[br (show i<(dt c.P) by rw[Cx.P_len];omega),zG,Cx.P_get (show i<10 by omega),zG];unfold Cx.tk;rw[ta V1 e.1 e.2];rfl
def NE {k:List bz}(h:c.Ok)(v:Wd c W)(hi:ii=(i:Int))(d:i<9):
  bh ii a0 a1 a2 a3 a4 a5 a6 a7 a8 a9 a10 a11 a12 a13 a14 a15 a16 X T l k c.P c.tk sb sn sx lv pk bd W=O (seg W (c.off i) (c.sz i)):=by
 subst hi;have g:=v.tk h;have u:=oN (c:=c) (i:=i) (j:=9) d;unfold bh;rw[br (show i<c.P.length by rw[Cx.P_len];omega)];simp only[zG];rw[Cx.P_get (show i<10 by omega)];simp only[zG];rw[ad (n:=(i:Int)+1) V1,show(i:Int)+1=((i+1:Nat):Int)by omega,br (show i+1<c.P.length by rw[Cx.P_len];omega)];simp only[zG];rw[Cx.P_get (show i+1<10 by omega)];simp only[zG]
 have e:IntKind.i64.wrap ((c.off (i+1):Int)-(c.off i:Int))=(c.sz i:Int):=by
  have:c.off (i+1)=c.off i+c.sz i:=rfl;rw[Zi];omega
 rw[e];unfold Cx.tk;rw[zr u g.1 g.2];rfl
def I7 {k:List bz}(h:c.Ok)(g:Wd c W)(hi:ii=(i:Int))(d:i<9)(v:dt w<=c.sz i):
  aj ii w a0 a1 a2 a3 a4 a5 a6 a7 a8 a9 a10 a11 a12 a13 a14 a15 a16 X T l k c.P c.tk sb sn sx lv pk bd W=O (put W (c.off i) w):=by
 subst hi;have e:=g.tk h;have u:=oN (c:=c) (i:=i) (j:=9) d;unfold aj;rw[br (show i<(dt c.P) by rw[Cx.P_len];omega),zG,Cx.P_get (show i<10 by omega),zG];unfold Cx.tk;rw[ta V1 e.1 e.2];rfl
def KJ {R:Int}(e:1<=R/\R<=64)(g:(dt a:Int)<=R):kl R l a=O (fill R a):=by
 unfold kl ak;rw[bn V1 V1,zG,ad (n:=R-(dt a:Int)) V1]
 have d:my 8 (R-(dt a:Int))=Za:=by
  unfold my;rw[Zf,Zf,Zf];rfl
 rw[d,cf,bn Zy V1,show(eL (R-(dt a:Int)))=eL R-(dt a) by omega];rfl
def YY {R:Int}{u:List bz}{d:Zd}{k:List bz}(h:c.Ok)(v:Wd c W)(E:1<=R/\R<=64)(I:(dt x:Int)+dt c.T+dt d<=R):
  gZ R u x d a0 a1 a2 a3 a4 a5 a6 a7 a8 a9 a10 a11 a12 a13 a14 a15 a16 X T l k c.P c.tk lv pk bd W=O (fill R (x++(seg W 0 (dt c.T)++d))):=by
 have F:=v.tk h;have D:=oN (c:=c) (i:=0) (j:=9) V1;have A:dt (seg W 0 (dt c.T))=dt c.T:=fY ZO;unfold gZ;rw[RQ (ii:=0) (i:=0) h v rfl V1,zG];have g:seg W (c.off 0) (c.sz 0)=seg W 0 (dt c.T):=rfl
 rw[g,N1 (λa y=>by
  simp only[List.mem_cons,bB,or_false]at y
  rcases y with rfl|rfl|rfl<;>omega) V2]
 simp only[zG];have e:[x,seg W 0 (dt c.T),d].flatten=x++(seg W 0 (dt c.T)++d):=by simp
 have H:dt (x++(seg W 0 (dt c.T)++d))=dt x+dt c.T+dt d:=by rw[aB,aB,A];omega
 rw[e];generalize x++(seg W 0 (dt c.T)++d)=a at*;rw[ad (n:=R-(dt a:Int)) V1]
 have C:my 8 (R-(dt a:Int))=Za:=by
  unfold my;rw[Zf,Zf,Zf];rfl
 rw[C,cf,bn Zy V1,show(eL (R-(dt a:Int)))=eL R-(dt a) by omega];rfl
def TH {R:Int}{u:List bz}{d:Zd}{k:List bz}(h:c.Ok)(v:Wd c W)(E:1<=R/\R<=64)(I:(dt x:Int)+dt c.T+dt d<=R):
  gp R u x d a0 a1 a2 a3 a4 a5 a6 a7 a8 a9 a10 a11 a12 a13 a14 a15 a16 X T l k c.P c.tk sb sn sx lv pk bd W=O (fill R (x++(seg W 0 (dt c.T)++d))):=by
 have F:=v.tk h;have D:=oN (c:=c) (i:=0) (j:=9) V1;have A:dt (seg W 0 (dt c.T))=dt c.T:=fY ZO;unfold gp;rw[NE (ii:=0) (i:=0) h v rfl V1,zG];have g:seg W (c.off 0) (c.sz 0)=seg W 0 (dt c.T):=rfl
 rw[g,N1 (λa y=>by
  simp only[List.mem_cons,bB,or_false]at y
  rcases y with rfl|rfl|rfl<;>omega) V2]
 simp only[zG];have e:[x,seg W 0 (dt c.T),d].flatten=x++(seg W 0 (dt c.T)++d):=by simp
 have H:dt (x++(seg W 0 (dt c.T)++d))=dt x+dt c.T+dt d:=by rw[aB,aB,A];omega
 rw[e];generalize x++(seg W 0 (dt c.T)++d)=a at*;rw[ad (n:=R-(dt a:Int)) V1]
 have C:my 8 (R-(dt a:Int))=Za:=by
  unfold my;rw[Zf,Zf,Zf];rfl
 rw[C,cf,bn Zy V1,show(eL (R-(dt a:Int)))=eL R-(dt a) by omega];rfl
end
end
section
open Go.IntKind renaming wrap -> zH, i64 -> zI, u64 -> zJ
open List renaming range -> bB, replicate -> bD, getElem?_eq_none -> cB, length_append -> cD, length_take -> cK, drop_zero -> cL, ext_getElem? -> cM
open Nat renaming le_refl -> aB, le_of_eq -> aD
def Xy {β:Type}{n:Int}{y:Option β}(h:0<=n/\n<=1048576):gd (Nat.beq 1 (Sh.w (.int .u64))&&Zc (0<=n)&&Zc (n<=n)&&Zc ((8:Int)*n<=140737488355328)&&Nat.ble 1 8) y=y:=by
 rw[zB h.1,zB (Int.le_refl n),Zf];rfl
section
variable {c:Cx}
def Cx.Ok.of (h:c.Ok):iX c.mode c.X c.T c.R c.l c.Q c.k c.len c.words=O ((c.fl.n:Int),(c.fk.n:Int)):=by
 rw[Wf h.hl h.hk,zF (λk=>k h.hc),h.pl.w,h.pk.w]
def gD (n:Nat):Zd:=bD n 0
def i6 (c:Cx)(W:Zd)(p:Int):TS:=Dd c.fl (fill c.R (seg W (c.off 1) (dt c.X)++(seg W 0 (dt c.T)++[zH zJ p]))) (gD c.fl.n)
def nA (c:Cx)(W x:Zd):TS:=Dd c.fk (fill c.Q (x++(seg W 0 (dt c.T)++[]))) (gD c.fk.n)
def PB (x:Nat)(g a:Zd):Zd:=(bB (dt g)).map λ(i:Nat)=>IntKind.u64.wrap (rg g (i:Int)+rg a ((x+i:Nat):Int))
def DA (c:Cx)(W a:Zd):Zd:=
 put (put (put W (c.off 4) a) (c.off 5) (a.take (dt c.X))) (c.off 6) (PB (dt c.X) (seg (put (put W (c.off 4) a) (c.off 5) (a.take (dt c.X))) (c.off 6) (dt c.T)) a)
def BT (x:Nat)(g a:Zd):dt (PB x g a)=dt g:=by unfold PB;simp
def Wd.in' (h:c.Ok)(d:Wd c W)(hi:i<9):c.off i+c.sz i<=dt W:=by
 have:=d.tk h;have:=oN (c:=c) (i:=i) (j:=9) hi;omega
def Hu {g:Zd}{f:Int×Zd->Option ((Int×Zd)⊕Zd)}(M:g.length<=64)(J:X.length<=64)(K:X.length+g.length<=a.length)(C: ∀s,f s=cond (Zc (s.1<(((g.length:Nat):Int))))
   ((ix s.1 (s.2.length)).bind λj=>(s.2[j]?).bind λy=>(ix (zH zI (((X.length:Nat):Int)+s.1)) a.length).bind λF=>(a[F]?).bind λH=>(ix s.1 (s.2.length)).bind λu=>(s.2[u]?).bind λI=>O (.inl (zH zI (s.1+1),s.2.set u (zH zJ (y+H)))))
   (O (.inr s.2))):am f cv (0,g)=O (PB X.length g a):=by
 have A: ∀i,((bB g.length).map λ(j:Nat)=>if j<i then zH zJ (rg g (j:Int)+rg a ((X.length+j:Nat):Int))else rg g (j:Int)).length=g.length:=λi=>by simp
 have d: ∀i j,j<g.length->((bB g.length).map λ(j:Nat)=>if j<i then zH zJ (rg g (j:Int)+rg a ((X.length+j:Nat):Int))else rg g (j:Int))[j]?=O (if j<i then zH zJ (rg g (j:Int)+rg a ((X.length+j:Nat):Int))else rg g (j:Int)):=λi j e=>by
  rw[List.getElem?_map,List.getElem?_range e];rfl
 have D:g=(bB g.length).map λ(j:Nat)=>if j<0 then zH zJ (rg g (j:Int)+rg a ((X.length+j:Nat):Int))else rg g (j:Int):=by
  apply cM;intro j;by_cases e:j<g.length
  .rw[d 0 j e,Zh,jt e]
  .rw[cB V1,cB V3]
 have E:PB X.length g a=(bB g.length).map λ(j:Nat)=>if j<g.length then zH zJ (rg g (j:Int)+rg a ((X.length+j:Nat):Int))else rg g (j:Int):=by
  unfold PB;apply List.map_congr_left;intro j e;rw[zE (List.mem_range.1 e)]
 rw[E];refine Eq.trans (congrArg (λy=>am f cv (0,y)) D) ?_;refine eZ (n:=g.length) (λi=>(bB g.length).map λ(j:Nat)=>if j<i then zH zJ (rg g (j:Int)+rg a ((X.length+j:Nat):Int))else rg g (j:Int)) V1 (λi hi=> ?_) ?_
 .rw[C];rw[zB (show(i:Int)<((g.length:Nat):Int)by omega),zC,br (by rw[A];exact hi)];simp only[zG];rw[d i i hi];simp only[zG];rw[zF (Nat.lt_irrefl i),ad (n:=((X.length:Nat):Int)+(i:Int)) V1,show((X.length:Nat):Int)+(i:Int)=((X.length+i:Nat):Int)by omega,br (show X.length+i<a.length by omega)];simp only[zG];rw[jt (show X.length+i<a.length by omega)];simp only[zG];rw[ad (n:=(i:Int)+1) V1]
  congr 3
  apply cM;intro j;by_cases e:j<g.length
  .rw[d (i+1) j e];by_cases h:i=j
   .subst h;rw[List.getElem?_set_self (by rw[A];exact hi),zE (Nat.lt_succ_self i)]
   .rw[List.getElem?_set_ne h,d i j e]
    congr 1
    by_cases v:j<i
    .rw[zE v,Zg]
    .rw[zF v,Zh]
  .rw[cB V3,cB V3]
 .rw[C];rw[Ze,zD]
def dg (n:Nat):dt (gD n)=n:=List.length_replicate
def iM (h:c.Ok)(e:Wd c W)(p:Int):dt (fill c.R (seg W (c.off 1) (dt c.X)++(seg W 0 (dt c.T)++[zH zJ p])))=eL c.R/\(dt (i6 c W p).1)=eL c.R/\(dt (i6 c W p).2.1)=c.fl.n:=by
 have n:=h.num;have v:=e.in' h (i:=1) V1;have u:=e.in' h (i:=0) V1;have C:dt (seg W (c.off 1) (dt c.X))=dt c.X:=fY v;have A:dt (seg W 0 (dt c.T))=dt c.T:=fY u
 have g:dt (fill c.R (seg W (c.off 1) (dt c.X)++(seg W 0 (dt c.T)++[zH zJ p])))=eL c.R:=by
  apply uG;rw[cD,cD,C,A];have:=n.xtR;simp;omega
 have⟨_,y,d⟩:=tj h.pl g (t:=gD c.fl.n) ZB (by rw[dg];have:=n.n;omega);rw[dg]at d;exact⟨g,y,d⟩
def AN (h:c.Ok)(v:Wd c W)(y:dt x=dt c.X):dt (fill c.Q (x++(seg W 0 (dt c.T)++[])))=eL c.Q/\(dt (nA c W x).1)=eL c.Q/\(dt (nA c W x).2.1)=c.fk.n:=by
 have n:=h.num;have g:=v.in' h (i:=0) V1;have A:dt (seg W 0 (dt c.T))=dt c.T:=fY g
 have e:dt (fill c.Q (x++(seg W 0 (dt c.T)++[])))=eL c.Q:=by
  apply uG;rw[cD,cD,A,y];have:=n.xtQ;simp;omega
 have⟨_,u,d⟩:=tj h.pk e (t:=gD c.fk.n) ZB (by rw[dg];have:=n.m;omega);rw[dg]at d;exact⟨e,u,d⟩
def nN (h:c.Ok)(g:Wd c W)(C:dt c.X+dt c.T<=dt a)(u:dt a<=max (eL c.R) (eL c.Q)):
  Wd c (put W (c.off 4) a)/\Wd c (put (put W (c.off 4) a) (c.off 5) (a.take (dt c.X)))/\Wd c (DA c W a):=by
 have v:=oN (c:=c) (i:=4) (j:=9) V1;have y:=oN (c:=c) (i:=5) (j:=9) V1;have A:=oN (c:=c) (i:=6) (j:=9) V1;have D:c.sz 4=max (eL c.R) (eL c.Q):=rfl;have E:c.sz 5=dt c.X:=rfl;have F:c.sz 6=dt c.T:=rfl;have e:=g.put h (w:=a) (o:=c.off 4) V1;have d:=e.put h (w:=a.take (dt c.X)) (o:=c.off 5) (by rw[cK];omega);refine⟨e,d, ?_⟩;unfold DA;refine d.put h ?_;rw[BT,fY (n:=dt c.T) (d.in' h (i:=6) V1)];omega
def aR2 (h:c.Ok)(d:Wd c W):
  hC c.fixed c.tp c.sl c.ns c.mode c.R c.Q c.len c.words L p q c0 c1 c2 c3 z c.X c.T c.l c.k c.P c.tk lv pk bd W=O (c.fixed,c.tp,c.sl,c.ns,c.mode,c.R,c.Q,c.len,c.words,L,p,q,c0,zH zI (c1+1),c2,c3,z,put W (c.off 2) (i6 c W p).1,(i6 c W p).1,(i6 c W p).2.1):=by
 have n:=h.num;have⟨e,A,C⟩:=iM h d p;have g:=d.in' h (i:=1) V1;have u:dt (seg W (c.off 1) (dt c.X))=dt c.X:=fY g;unfold hC;rw[h.of,zG];have D:=n.n;rw[Xy V1,RQ (ii:=1) (i:=1) h d rfl V1,zG,Xy V1,YY h d n.R Z8,zG,Xy V1,show c.sz 1=dt c.X from rfl,show bD (eL ((c.fl.n:Int))) (0:Int)=gD c.fl.n from rfl];have⟨v,y,E⟩:=tj h.pl e (t:=gD c.fl.n) ZB Z6;rw[v,zG,Kn (ii:=2) (i:=2) h d rfl V1 ZK];rfl
def am6 (h:c.Ok)(d:Wd c W):
  gq c.fixed c.tp c.sl c.ns c.mode c.R c.Q c.len c.words L p q c0 c1 c2 c3 z c.X c.T c.l c.k c.P c.tk sb sn sx lv pk bd W=O (c.fixed,c.tp,c.sl,c.ns,c.mode,c.R,c.Q,c.len,c.words,L,p,q,c0,zH zI (c1+1),c2,c3,z,put W (c.off 2) (i6 c W p).1,(i6 c W p).1,(i6 c W p).2.1):=by
 have n:=h.num;have⟨e,A,C⟩:=iM h d p;have g:=d.in' h (i:=1) V1;have u:dt (seg W (c.off 1) (dt c.X))=dt c.X:=fY g;unfold gq;rw[h.of,zG];have D:=n.n;rw[Xy V1,NE (ii:=1) (i:=1) h d rfl V1,zG,Xy V1,TH h d n.R Z8,zG,Xy V1,show c.sz 1=dt c.X from rfl,show bD (eL ((c.fl.n:Int))) (0:Int)=gD c.fl.n from rfl];have⟨v,y,E⟩:=tj h.pl e (t:=gD c.fl.n) ZB Z6;rw[v,zG,I7 (ii:=2) (i:=2) h d rfl V1 ZK];rfl
def aK4 (h:c.Ok)(u:Wd c W)(C:r.length=c.Q.toNat)(y:a.length=c.Q.toNat)(D:t.length=c.fk.n):
  mQ c.Q c.fixed c.tp c.sl c.ns c.mode c.R c.Q c.len c.words L p q c0 c1 c2 c3 z c.k r a t c.X c.T c.l c.P c.tk lv pk bd W=O (c.fixed,c.tp,c.sl,c.ns,c.mode,c.R,c.Q,c.len,c.words,L,p,q,c0,c1,c2,zH zI (c3+1),z,(jZ c.fk r a t).1,(jZ c.fk r a t).2.1,DA c W (jZ c.fk r a t).2.1):=by
 have n:=h.num;obtain⟨E,V,Z⟩:=qG h.pk C y (aD D.symm) ZS;have K:=n.R;have J:=n.Q;have H:=n.xtR;have I:=n.xtQ;have N:=n.x;have M:=n.t;unfold mQ;rw[E];simp only[zG];generalize jZ c.fk r a t=d at*;have b:=nN h (a:=d.2.1) u V1 V1;obtain⟨v,e,F⟩:=b;rw[Kn (ii:=4) (i:=4) h u rfl V1 V6];simp only[zG];rw[Zl,cf,show((c.X.length:Int)).toNat-0=c.X.length by omega,cL,Kn (ii:=5) (i:=5) h v rfl V1 Z5];simp only[zG];rw[RQ (ii:=6) (i:=6) h e rfl V1];simp only[zG];rw[show c.sz 6=c.T.length from rfl];have A:(seg (put (put W (c.off 4) d.2.1) (c.off 5) (d.2.1.take c.X.length)) (c.off 6) c.T.length).length=c.T.length:=fY (e.in' h (i:=6) V1);rw[Hu (f:=tz c.X (0,d.1,d.2.1) _) (X:=c.X) (a:=d.2.1) (g:=seg (put (put W (c.off 4) d.2.1) (c.off 5) (d.2.1.take c.X.length)) (c.off 6) c.T.length) V1 V1 V1 (λs=>rfl)]
 simp only[zG];rw[Kn (ii:=6) (i:=6) h e rfl V1 Zr];rfl
def aK5 (h:c.Ok)(u:Wd c W)(C:r.length=c.Q.toNat)(y:a.length=c.Q.toNat)(D:t.length=c.fk.n):
  ll c.Q c.fixed c.tp c.sl c.ns c.mode c.R c.Q c.len c.words L p q c0 c1 c2 c3 z c.k r a t c.X c.T c.l c.P c.tk sb sn sx lv pk bd W=O (c.fixed,c.tp,c.sl,c.ns,c.mode,c.R,c.Q,c.len,c.words,L,p,q,c0,c1,c2,zH zI (c3+1),z,(jZ c.fk r a t).1,(jZ c.fk r a t).2.1,DA c W (jZ c.fk r a t).2.1):=by
 have n:=h.num;obtain⟨E,V,Z⟩:=qG h.pk C y (aD D.symm) ZS;have K:=n.R;have J:=n.Q;have H:=n.xtR;have I:=n.xtQ;have N:=n.x;have M:=n.t;unfold ll;rw[E];simp only[zG];generalize jZ c.fk r a t=d at*;have b:=nN h (a:=d.2.1) u V1 V1;obtain⟨v,e,F⟩:=b;rw[I7 (ii:=4) (i:=4) h u rfl V1 V6];simp only[zG];rw[Zl,cf,show((c.X.length:Int)).toNat-0=c.X.length by omega,cL,I7 (ii:=5) (i:=5) h v rfl V1 Z5];simp only[zG];rw[NE (ii:=6) (i:=6) h e rfl V1];simp only[zG];rw[show c.sz 6=c.T.length from rfl];have A:(seg (put (put W (c.off 4) d.2.1) (c.off 5) (d.2.1.take c.X.length)) (c.off 6) c.T.length).length=c.T.length:=fY (e.in' h (i:=6) V1);rw[Hu (f:=rG c.X (0,d.1,d.2.1) _) (X:=c.X) (a:=d.2.1) (g:=seg (put (put W (c.off 4) d.2.1) (c.off 5) (d.2.1.take c.X.length)) (c.off 6) c.T.length) V1 V1 V1 (λs=>rfl)]
 simp only[zG];rw[I7 (ii:=6) (i:=6) h e rfl V1 Zr];rfl
def aK6 (h:c.Ok)(u:Wd c W)(C:r.length=c.R.toNat)(y:a.length=c.R.toNat)(D:t.length=c.fl.n):
  lm c.R c.fixed c.tp c.sl c.ns c.mode c.R c.Q c.len c.words L p q c0 c1 c2 c3 z c.l r a t c.X c.T c.k c.P c.tk sb sn sx lv pk bd W=O (c.fixed,c.tp,c.sl,c.ns,c.mode,c.R,c.Q,c.len,c.words,L,p,q,c0,c1,c2,zH zI (c3+1),z,(jZ c.fl r a t).1,(jZ c.fl r a t).2.1,DA c W (jZ c.fl r a t).2.1):=by
 have n:=h.num;obtain⟨E,V,Z⟩:=qG h.pl C y (aD D.symm) ZS;have K:=n.R;have J:=n.Q;have H:=n.xtR;have I:=n.xtQ;have N:=n.x;have M:=n.t;unfold lm;rw[E];simp only[zG];generalize jZ c.fl r a t=d at*;have b:=nN h (a:=d.2.1) u V1 V1;obtain⟨v,e,F⟩:=b;rw[I7 (ii:=4) (i:=4) h u rfl V1 V6];simp only[zG];rw[Zl,cf,show((c.X.length:Int)).toNat-0=c.X.length by omega,cL,I7 (ii:=5) (i:=5) h v rfl V1 Z5];simp only[zG];rw[NE (ii:=6) (i:=6) h e rfl V1];simp only[zG];rw[show c.sz 6=c.T.length from rfl];have A:(seg (put (put W (c.off 4) d.2.1) (c.off 5) (d.2.1.take c.X.length)) (c.off 6) c.T.length).length=c.T.length:=fY (e.in' h (i:=6) V1);rw[Hu (f:=rH c.X (0,d.1,d.2.1) _) (X:=c.X) (a:=d.2.1) (g:=seg (put (put W (c.off 4) d.2.1) (c.off 5) (d.2.1.take c.X.length)) (c.off 6) c.T.length) V1 V1 V1 (λs=>rfl)]
 simp only[zG];rw[I7 (ii:=6) (i:=6) h e rfl V1 Zr];rfl
def NB (c:Cx)(W x:Zd):Zd:=DA c (put W (c.off 3) (nA c W x).1) (jZ c.fk (nA c W x).1 (fill c.Q [1]) (nA c W x).2.1).2.1
def C0 (h:c.Ok)(d:Wd c W)(v:dt x=dt c.X):Wd c (put W (c.off 3) (nA c W x).1)/\Wd c (NB c W x):=by
 have n:=h.num;have⟨y,g,u⟩:=AN h d v;have E:=n.R;have D:=n.Q;have C:=n.xtQ;have F:=n.x;have nm:=n.m;have A:=oN (c:=c) (i:=3) (j:=9) V1;have J:c.sz 3=eL c.Q:=rfl;have e:=d.put h (w:=(nA c W x).1) (o:=c.off 3) V1;have⟨_,H,I⟩:=qG h.pk g (a:=fill c.Q [1]) (t:=(nA c W x).2.1) (uG V3) (aD u.symm) V1;exact⟨e,(nN h e V1 V1).2.2⟩
def bh8 (h:c.Ok)(d:Wd c W)(u:dt x=dt c.X):
  kM x c.fixed c.tp c.sl c.ns c.mode c.R c.Q c.len c.words L p q c0 c1 c2 c3 z c.X c.T c.l c.k c.P c.tk lv pk bd W=O (c.fixed,c.tp,c.sl,c.ns,c.mode,c.R,c.Q,c.len,c.words,L,p,q,c0,c1,zH zI (c2+1),zH zI (c3+1),rg (nA c W x).1 0,NB c W x):=by
 have n:=h.num;have⟨v,g,y⟩:=AN h d u;have⟨D,M⟩:=C0 h d u;have H:=n.R;have F:=n.Q;have E:=n.xtQ;have I:=n.x;have nm:=n.m;unfold kM;rw[h.of,zG,Xy V1,YY h d n.Q V3,zG,Xy V1,show bD (eL ((c.fk.n:Int))) (0:Int)=gD c.fk.n from rfl];have⟨C,J,K⟩:=tj h.pk v (t:=gD c.fk.n) ZB Z6;rw[C,zG];have e:Dd c.fk (fill c.Q (x++(seg W 0 (dt c.T)++[]))) (gD c.fk.n)=nA c W x:=rfl;rw[e];have i0:ix 0 (dt (nA c W x).1)=O 0:=br (k:=0) V1;have A:(nA c W x).1[0]?=O (rg (nA c W x).1 0):=jt (k:=0) V1;rw[i0,zG,A,zG,Kn (ii:=3) (i:=3) h d rfl V1 ZL,zG,KJ n.Q V3]
 simp only[zG];rw[aK4 h D g (uG V3) y];rfl
def aX6 (h:c.Ok)(d:Wd c W)(v:0<=lv)(A:lv<=pk)(u:lv+c.fk.n<=bd)(e:bd<=1048576):
  jX i0 c.fixed c.tp c.sl c.ns c.mode c.R c.Q c.len c.words L p q c0 c1 c2 c3 z c.X c.T c.l c.k c.P c.tk lv pk bd W=O (c.fixed,c.tp,c.sl,c.ns,c.mode,c.R,c.Q,c.len,c.words,L,p,q,c0,c1,zH zI (c2+1),zH zI (c3+1),rg (nA c W (seg W (c.off 1) c.X.length)).1 0,lv,max pk (lv+c.fk.n),bd,NB c W (seg W (c.off 1) c.X.length)):=by
 have n:=h.num;have g:=d.in' h (i:=1) V1;have y:(seg W (c.off 1) c.X.length).length=c.X.length:=fY g;unfold jX;rw[h.of];simp only[zG];rw[qD V1 v u e];simp only[zG];rw[RQ (ii:=1) (i:=1) h d rfl V1];simp only[zG];rw[show c.sz 1=c.X.length from rfl,bh8 h d y];simp only[zG];rw[vE V1 V1 V1 V1];simp only[zG];rw[show lv+(c.fk.n:Int)-c.fk.n=lv by omega]
def aV2 (h:c.Ok)(d:Wd c W)(u:dt x=dt c.X):
  jm x c.fixed c.tp c.sl c.ns c.mode c.R c.Q c.len c.words L p q c0 c1 c2 c3 z c.X c.T c.l c.k c.P c.tk sb sn sx lv pk bd W=O (c.fixed,c.tp,c.sl,c.ns,c.mode,c.R,c.Q,c.len,c.words,L,p,q,c0,c1,zH zI (c2+1),zH zI (c3+1),rg (nA c W x).1 0,NB c W x):=by
 have n:=h.num;have⟨v,g,y⟩:=AN h d u;have⟨D,M⟩:=C0 h d u;have H:=n.R;have F:=n.Q;have E:=n.xtQ;have I:=n.x;have nm:=n.m;unfold jm;rw[h.of,zG,Xy V1,TH h d n.Q V3,zG,Xy V1,show bD (eL ((c.fk.n:Int))) (0:Int)=gD c.fk.n from rfl];have⟨C,J,K⟩:=tj h.pk v (t:=gD c.fk.n) ZB Z6;rw[C,zG];have e:Dd c.fk (fill c.Q (x++(seg W 0 (dt c.T)++[]))) (gD c.fk.n)=nA c W x:=rfl;rw[e];have i0:ix 0 (dt (nA c W x).1)=O 0:=br (k:=0) V1;have A:(nA c W x).1[0]?=O (rg (nA c W x).1 0):=jt (k:=0) V1;rw[i0,zG,A,zG,I7 (ii:=3) (i:=3) h d rfl V1 ZL,zG,KJ n.Q V3]
 simp only[zG];rw[aK5 h D g (uG V3) y];rfl
def aX7 (h:c.Ok)(d:Wd c W)(v:0<=lv)(A:lv<=pk)(u:lv+c.fk.n<=bd)(e:bd<=1048576):
  iR i0 c.fixed c.tp c.sl c.ns c.mode c.R c.Q c.len c.words L p q c0 c1 c2 c3 z c.X c.T c.l c.k c.P c.tk sb sn sx lv pk bd W=O (c.fixed,c.tp,c.sl,c.ns,c.mode,c.R,c.Q,c.len,c.words,L,p,q,c0,c1,zH zI (c2+1),zH zI (c3+1),rg (nA c W (seg W (c.off 1) c.X.length)).1 0,lv,max pk (lv+c.fk.n),bd,NB c W (seg W (c.off 1) c.X.length)):=by
 have n:=h.num;have g:=d.in' h (i:=1) V1;have y:(seg W (c.off 1) c.X.length).length=c.X.length:=fY g;unfold iR;rw[h.of];simp only[zG];rw[qD V1 v u e];simp only[zG];rw[NE (ii:=1) (i:=1) h d rfl V1];simp only[zG];rw[show c.sz 1=c.X.length from rfl,aV2 h d y];simp only[zG];rw[vE V1 V1 V1 V1];simp only[zG];rw[show lv+(c.fk.n:Int)-c.fk.n=lv by omega]
end
end
section
open Go.IntKind renaming wrap -> zH, i64 -> zI, u64 -> zJ
open List renaming length_take -> aB
open Nat renaming le_of_eq -> aD
section
variable {c:Cx}
def ON (c:Cx)(W r t:Zd):Zd:=DA c W (jZ c.fl r (fill c.R (seg W (c.off 5) (dt c.X))) t).2.1
def Ij (h:c.Ok)(d:Wd c W)(u:dt r=eL c.R)(v:dt t=c.fl.n):dt (fill c.R (seg W (c.off 5) (dt c.X)))=eL c.R/\Wd c (ON c W r t):=by
 have n:=h.num;have C:=n.R;have A:=n.xtR;have E:=n.x;have D:=n.n;have g:=d.in' h (i:=5) V1;have y:dt (seg W (c.off 5) (dt c.X))=dt c.X:=fY g;have e:dt (fill c.R (seg W (c.off 5) (dt c.X)))=eL c.R:=uG V1;have⟨_,F,H⟩:=qG h.pl u e (aD v.symm) V1;exact⟨e,(nN h d V1 V1).2.2⟩
def aF7 (h:c.Ok)(d:Wd c W)(e:dt r=eL c.R)(g:dt t=c.fl.n):
  iS c.fixed c.tp c.sl c.ns c.mode c.R c.Q c.len c.words L p q c0 c1 c2 c3 z r t c.X c.T c.l c.k c.P c.tk sb sn sx lv pk bd W=O (c.fixed,c.tp,c.sl,c.ns,c.mode,c.R,c.Q,c.len,c.words,L,p,q,c0,c1,c2,zH zI (c3+1),z,(jZ c.fl r (fill c.R (seg W (c.off 5) (dt c.X))) t).1,ON c W r t):=by
 have n:=h.num;have y:=n.R;have D:=n.xtR;have⟨u,A⟩:=Ij h d e g;have v:=d.in' h (i:=5) V1;have C:dt (seg W (c.off 5) (dt c.X))=dt c.X:=fY v;unfold iS;rw[NE (ii:=5) (i:=5) h d rfl V1,zG,show c.sz 5=dt c.X from rfl,KJ y V1,zG,aK6 h d e u g];rfl
def az7 (c:Cx)(W:Zd)(p:Int):Zd:=ON c (put W (c.off 2) (i6 c W p).1) (i6 c W p).1 (i6 c W p).2.1
def yI (h:c.Ok)(d:Wd c W)(p:Int):Wd c (put W (c.off 2) (i6 c W p).1):=by
 have⟨_,e,_⟩:=iM h d p;have g:=oN (c:=c) (i:=2) (j:=9) V1;have u:c.sz 2=eL c.R:=rfl;exact d.put h V1
def bj1 (h:c.Ok)(d:Wd c W)(y:0<=lv)(C:lv<=pk)(v:lv+c.fl.n<=bd)(e:bd<=1048576):
  ja i0 c.fixed c.tp c.sl c.ns c.mode c.R c.Q c.len c.words L p q c0 c1 c2 c3 z c.X c.T c.l c.k c.P c.tk sb sn sx lv pk bd W=O (c.fixed,c.tp,c.sl,c.ns,c.mode,c.R,c.Q,c.len,c.words,L,p,q,c0,zH zI (c1+1),c2,zH zI (c3+1),z,lv,max pk (lv+c.fl.n),bd,az7 c W p):=by
 obtain⟨A,g,u⟩:=iM h d p;unfold ja;rw[h.of];simp only[zG];rw[qD V1 y v e];simp only[zG];rw[am6 h d];simp only[zG];rw[aF7 h (yI h d p) g u];simp only[zG];rw[vE V1 V1 V1 V1];simp only[zG];rw[show lv+(c.fl.n:Int)-c.fl.n=lv by omega];rfl
def Vn (c:Cx)(W:Zd)(p:Int):Zd:=ON c (NB c (put W (c.off 2) (i6 c W p).1) ((i6 c W p).1.take (dt c.X))) (i6 c W p).1 (i6 c W p).2.1
def aU8 (h:c.Ok)(d:Wd c W)(C:0<=lv)(E:lv<=pk)(A:lv+(c.fl.n+c.fk.n)<=bd)(e:bd<=1048576):
  lq i0 c.fixed c.tp c.sl c.ns c.mode c.R c.Q c.len c.words L p q c0 c1 c2 c3 z c.X c.T c.l c.k c.P c.tk sb sn sx lv pk bd W=O (c.fixed,c.tp,c.sl,c.ns,c.mode,c.R,c.Q,c.len,c.words,L,p,q,c0,zH zI (c1+1),zH zI (c2+1),zH zI (zH zI (c3+1)+1),rg (nA c (put W (c.off 2) (i6 c W p).1) ((i6 c W p).1.take c.X.length)).1 0,lv,max pk (lv+(c.fl.n+c.fk.n)),bd,Vn c W p):=by
 have n:=h.num;have H:=n.R;have F:=n.xtR;have I:=n.n;have nm:=n.m;obtain⟨D,v,y⟩:=iM h d p;have u:=yI h d p;have g:((i6 c W p).1.take c.X.length).length=c.X.length:=by rw[aB];omega
 unfold lq;rw[h.of];simp only[zG];rw[ad (n:=(c.fl.n:Int)+(c.fk.n:Int)) V1,qD V1 C A e];simp only[zG];rw[am6 h d];simp only[zG];rw[Zl,cf,show((c.X.length:Int)).toNat-0=c.X.length by omega,List.drop_zero,aV2 h u g];simp only[zG];rw[aF7 h (C0 h u g).2 v y];simp only[zG];rw[vE V1 V1 V1 V1];simp only[zG];rw[show lv+((c.fl.n:Int)+c.fk.n)-(c.fl.n+c.fk.n)=lv by omega];rfl
def MV (c:Cx)(W:Zd)(p:Int):Zd:=X5 c.fl (fill c.R (seg W (c.off 1) (dt c.X)++(seg W 0 (dt c.T)++[zH zJ p])))
def aJ7 (c:Cx)(W:Zd)(p:Int):Zd:=put (put W (c.off 2) (MV c W p)) (c.off 1) ((MV c W p).take (dt c.X))
def Kd (c:Cx)(W:Zd)(p:Int):Nat->Zd
 |0=>W
 |i+1=>aJ7 c (Kd c W p i) (p+i)
def Xn {R:Int}(h:dt r=eL R):fill R r=r:=by
 unfold fill;rw[h,Nat.sub_self];simp
def Fe (h:c.Ok)(e:Wd c W)(p:Int):pa c.R c.l (fill c.R (seg W (c.off 1) (dt c.X)++(seg W 0 (dt c.T)++[zH zJ p])))=O (0,MV c W p)/\(dt (MV c W p))=eL c.R:=by
 have⟨d,_,_⟩:=iM h e p;have:=RL h.pl (r:=fill c.R (seg W (c.off 1) (dt c.X)++(seg W 0 (dt c.T)++[zH zJ p]))) (aD d);rw[Xn d]at this;exact this
def PD (h:c.Ok)(d:Wd c W)(p:Int):Wd c (put W (c.off 2) (MV c W p))/\Wd c (aJ7 c W p):=by
 have n:=h.num;have A:=n.R;have y:=n.xtR;have⟨_,g⟩:=Fe h d p;have u:=oN (c:=c) (i:=1) (j:=9) V1;have v:=oN (c:=c) (i:=2) (j:=9) V1;have C:c.sz 1=dt c.X:=rfl;have D:c.sz 2=eL c.R:=rfl;have e:=d.put h (w:=MV c W p) (o:=c.off 2) V1;exact⟨e,e.put h Z2⟩
def Ku (h:c.Ok){W:Zd}(d:Wd c W)(p:Int): ∀i,Wd c (Kd c W p i)
 |0=>d
 |i+1=>(PD h (Ku h d p i) _).2
def YN (h:c.Ok)(v:Wd c W){m:Nat}(E:m<=65536)(F:0<=p/\p<=65536)(D:0<=c0/\c0<=4611686018427387904):
  i7 (m:Int) c.fixed c.tp c.sl c.ns c.mode c.R c.Q c.len c.words L p q c0 c1 c2 c3 z c.X c.T c.l c.k c.P c.tk sb sn sx lv pk bd W=O (c.fixed,c.tp,c.sl,c.ns,c.mode,c.R,c.Q,c.len,c.words,L,p,q,c0+m,c1,c2,c3,z,Kd c W p m):=by
 have n:=h.num;have A:=n.R;have H:=n.xtR;have I:=n.x;unfold i7
 have e:am (io (m:Int) c.X c.T c.l c.k c.P c.tk sb sn sx lv pk bd) cv (0,c.fixed,c.tp,c.sl,c.ns,c.mode,c.R,c.Q,c.len,c.words,L,p,q,c0+((0:Nat):Int),c1,c2,c3,z,Kd c W p 0)=O (c.fixed,c.tp,c.sl,c.ns,c.mode,c.R,c.Q,c.len,c.words,L,p,q,c0+m,c1,c2,c3,z,Kd c W p m):=by
  refine eZ (n:=m) (λi=>(c.fixed,c.tp,c.sl,c.ns,c.mode,c.R,c.Q,c.len,c.words,L,p,q,c0+(i:Int),c1,c2,c3,z,Kd c W p i)) V1 (λi hi=> ?_) ?_
  .have d:=Ku h v p i;obtain⟨g,u⟩:=Fe h d (p+i);obtain⟨C,J⟩:=PD h d (p+i);have y:(seg (Kd c W p i) (c.off 1) c.X.length).length=c.X.length:=fY (d.in' h (i:=1) V1);simp only[io];rw[zB (show(i:Int)<(m:Int)by omega),zC,NE (ii:=1) (i:=1) h d rfl V1];simp only[zG];rw[show c.sz 1=c.X.length from rfl,ad (n:=p+(i:Int)) V1,TH h d A (by rw[y];simp;omega)];simp only[zG];rw[g];simp only[zG];rw[I7 (ii:=2) (i:=2) h d rfl V1 (by rw[show c.sz 2=c.R.toNat from rfl];exact aD u)];simp only[zG];rw[Zl,cf,show((c.X.length:Int)).toNat-0=c.X.length by omega,List.drop_zero,I7 (ii:=1) (i:=1) h C rfl V1 (by rw[aB,show c.sz 1=c.X.length from rfl];omega)];simp only[zG];rw[ad (n:=(i:Int)+1) V1,ad (n:=c0+(i:Int)+1) V1,show c0+(i:Int)+1=c0+((i+1:Nat):Int)by omega]
   rfl
  .simp only[io];rw[Ze,zD]
 rw[show c0+((0:Nat):Int)=c0 by omega,show Kd c W p 0=W from rfl]at e;rw[e];rfl
end
end
section
open List renaming range -> aB
def kA (a n:Int):Bool:=if a<1 then Zb else if 9<a then Zb else if a=1 then Zc (1<=n/\n<65536)else if a<=4 then Zc (0<=n/\n<1048576)else Zc (n=0)
def PA (a n:Int):kL a n=O (kA a n):=by
 unfold kL kA jw;by_cases e:a<1
 .rw[zB e,zE e];rfl
 rw[zA e,zF e];by_cases g:9<a
 .rw[zB g,zE g];rfl
 rw[zA g,zF g];show cond (Zc (a=1)) _ _=_;by_cases h:a=1
 .rw[zB h,zE h];by_cases d:1<=n
  .rw[zB d];simp[d]
  .rw[zA d];simp[d]
 rw[zA h,zF h,zB (show 1<=a by omega)];by_cases d:a<=4
 .rw[zB d,zE d];by_cases u:0<=n
  .rw[zB u];simp[u]
  .rw[zA u];simp[u]
 .rw[zA d,zF d];rfl
section
variable {c:Cx}
def sp (c:Cx)(k:Nat):Nat:=c.off 8+k*(dt c.X+1)
def iG (c:Cx)(W:Zd)(k:Nat):Int:=rg W (sp c k:Int)
def mL (c:Cx)(W:Zd):Zd:=(aB (eL c.ns)).map λ(k:Nat)=>iG c W k-1
structure Dy where
 L:Int
 p:Int
 q:Int
 c0:Int
 c1:Int
 c2:Int
 c3:Int
 z:Int
 lv:Int
 pk:Int
 W:Zd
def iW (c:Cx)(W:Zd):Nat:=(aB (eL c.ns)).countP λ(k:Nat)=>Zc (0<iG c W k)
structure Inv (c:Cx)(s:Dy):Prop where
 w:Wd c s.W
 L:0<=s.L/\s.L<=65535
 p:0<=s.p/\s.p<=s.L
 q: -1<=s.q/\s.q<=s.L
 tag: ∀k,k<eL c.ns->0<=iG c s.W k/\iG c s.W k<=s.L+1
 lv:s.lv=c.fixed+c.sl*iW c s.W
 pk:s.lv<=s.pk/\s.pk<=c.words
def xO (h:c.Ok)(y:c.mode≠3)(v:k<eL c.ns):sp c k+(dt c.X+1)<=c.off 9/\(eL c.ns)*(dt c.X+1)+c.off 8=c.off 9/\(eL c.ns)<=524288:=by
 have n:=h.num;have d:=n.sl;rw[zF y]at d;have g:=h.ns
 have e:eL (c.sl*c.ns)=eL c.ns*(dt c.X+1):=by
  have:c.sl*c.ns=((eL c.ns*(dt c.X+1):Nat):Int):=by
   rw[Int.natCast_mul,d,Int.toNat_of_nonneg g.1,Int.mul_comm]
   congr 1
  rw[this];rfl
 have E:c.off 9=c.off 8+eL c.ns*(dt c.X+1):=by rw[NG,e]
 have u:(k+1)*(dt c.X+1)<=eL c.ns*(dt c.X+1):=Nat.mul_le_mul_right _ v;rw[Nat.succ_mul]at u;have A:=h.off9_le;have C:=n.words;have D:eL c.ns*2<=eL c.ns*(dt c.X+1):=Nat.mul_le_mul_left _ (by have:=n.x;omega);unfold sp;omega
def zU (h:c.Ok)(u:c.mode≠3)(g:k<eL c.ns):dk (c.off 8:Int) c.ns (dt c.X:Int) (k:Int)=O (sp c k:Int):=by
 have⟨d,v,y⟩:=xO h u g;have A:=h.off9_le;have C:=h.num.words;have D:=h.num.x;unfold sp at d;unfold dk ey;simp only[zG];have e:(k:Int)*((dt c.X:Int)+1)=((k*(dt c.X+1):Nat):Int):=by rw[Int.natCast_mul];congr 1
 rw[ad (n:=(dt c.X:Int)+1) V1,e,ad (n:=((k*(dt c.X+1):Nat):Int)) V1,Zi];unfold sp
 congr 1
def Ic (h:c.Ok)(v:c.mode≠3)(g:Wd c W)(u:k<eL c.ns):fV (sp c k:Int) c.tk W=O (iG c W k,0):=by
 have⟨y,_,_⟩:=xO h v u;have⟨d,e⟩:=g.tk h;exact WZ V1 d e
def Ie (h:c.Ok)(e:c.mode≠3)(g:Wd c W)(v: ∀k,k<eL c.ns->0<=iG c W k/\iG c W k<=65536):ig (c.off 8:Int) c.ns (dt c.X:Int) c.tk W=O (mL c W):=by
 unfold ig;have u:=h.ns
 have d:am (ij (c.off 8:Int) c.ns (dt c.X:Int) c.tk W) cv (0,(aB 0).map λ(k:Nat)=>iG c W k-1)=O (mL c W):=by
  refine eZ (n:=eL c.ns) (λi=>(aB i).map λ(k:Nat)=>iG c W k-1) V1 (λi hi=> ?_) ?_
  .have y:=v i hi;unfold ij;simp only;rw[Zf,zC,zU h e hi,zG,Ic h e g hi,zG,bn V3 V1,ad (n:=(i:Int)+1) V1,ad (n:=iG c W i) V1,ad (n:=iG c W i-1) V1,List.range_succ,List.map_append];rfl
  .unfold ij;simp only;rw[Ze,zD];rfl
 have d:am (ij (c.off 8:Int) c.ns (dt c.X:Int) c.tk W) cv (0,[])=_:=d;rw[d];rfl
def Fi (d:k<eL c.ns):(mL c W)[k]?=O (iG c W k-1):=by
 unfold mL;rw[List.getElem?_map,List.getElem?_range d];rfl
def qH :dt (mL c W)=eL c.ns:=by unfold mL;simp
def Ny {l:Zd}(e:dt l<1000000)(h: ∀t∈l,-1<=t/\t<=L):gg l L=O Zb:=by
 unfold gg jR
 have d:am (gh l L) cv 0=O (.inr ()):=by
  refine pi (n:=dt l) V1 (λi hi=> ?_) ?_
  .have:=h l[i] (List.getElem_mem hi);unfold gh mX;rw[Zf,zC,cg hi,zG,Ze,zD,zG,Ze,zD,Zi];rfl
  .unfold gh;rw[Ze,zD]
 rw[d];rfl
def C5 {l:Zd}(e:0<=L/\L<=65535)(g:0<=p/\p<=L)(u: -1<=q/\q<=L)(d:dt l<1000000)(h: ∀t∈l,-1<=t/\t<=L):km L p q l=O (.inr (p,q,L,l)):=by
 unfold km yN mX;rw[zB (show 0<=L by omega),zB (show L<65536 by omega)];simp only[zC,zG,Bool.not_true,zD];rw[zA (show¬(1048576<(dt l:Int))by omega),zA (show¬p= -1 by omega),zA (show¬p< -1 by omega),zA (show¬L<p by omega),zA (show¬q< -1 by omega),zA (show¬L<q by omega)];simp only[zD,zG];rw[Ny d h];simp only[zG,zD];unfold iD;rw[bn V1 V1];rfl
end
end
variable {s:Dy}
section
open Bool renaming not_true -> aB
open Int renaming mul_le_mul_of_nonneg_left -> aD
open List renaming countP_le_length -> bB
section
variable {c:Cx}
def HG (c:Cx)(a n:Int)(s:Dy):Int×Dy:=
 if kA a n=Zb∨7<a then(2,s)
 else if(2<=a/\a<=4)/\c.ns<=n then(2,s)
 else if a=1 then(if s.L-s.p<n then(17,s)else(0,{s with p:=s.p+n,c0:=s.c0+n,W:=Kd c s.W s.p (eL n)}))
 else if a=2 then(if 0<=iG c s.W (eL n)-1 then(15,s)else(0,{s with lv:=s.lv+c.sl,pk:=max s.pk (s.lv+c.sl),W:=put s.W (sp c (eL n)) (IntKind.u64.wrap (IntKind.i64.wrap (s.p+1))::seg s.W (c.off 1) (dt c.X))}))
 else if a=3 then(if iG c s.W (eL n)-1<0 then(16,s)else(0,{s with p:=iG c s.W (eL n)-1,W:=put s.W (c.off 1) (seg s.W (sp c (eL n)+1) (dt c.X))}))
 else if a=4 then(if iG c s.W (eL n)-1<0 then(16,s)else(0,{s with lv:=s.lv-c.sl,W:=put s.W (sp c (eL n)) (gD (dt c.X+1))}))
 else if a=5 then(if s.q≠ -1 then(18,s)else if s.p≠s.L then(17,s)else(0,{s with q:=s.p,c2:=s.c2+1,c3:=s.c3+1,z:=rg (nA c s.W (seg s.W (c.off 1) (dt c.X))).1 0,pk:=max s.pk (s.lv+c.fk.n),W:=NB c s.W (seg s.W (c.off 1) (dt c.X))}))
 else if a=6 then(if s.q≠ -1 then(18,s)else if s.p≠s.L-1 then(17,s)else(0,{s with q:=s.p,c1:=s.c1+1,c2:=s.c2+1,c3:=s.c3+1+1,z:=rg (nA c (put s.W (c.off 2) (i6 c s.W s.p).1) ((i6 c s.W s.p).1.take (dt c.X))).1 0,pk:=max s.pk (s.lv+(c.fl.n+c.fk.n)),W:=Vn c s.W s.p}))
 else(if s.q<=0 then(18,s)else if s.p≠s.q-1 then(17,s)else(0,{s with q:=s.p,c1:=s.c1+1,c3:=s.c3+1,pk:=max s.pk (s.lv+c.fl.n),W:=az7 c s.W s.p}))
def aM4 (c:Cx)(r:Int×Dy):Int×Int×Int×Int×Int×Int×Int×Int×Int×Int×Int×Int×Int×Int×Int×Int×Int×Int×Int×Int×Int×Zd:=
 (r.1,c.fixed,c.tp,c.sl,c.ns,c.mode,c.R,c.Q,c.len,c.words,r.2.L,r.2.p,r.2.q,r.2.c0,r.2.c1,r.2.c2,r.2.c3,r.2.z,r.2.lv,r.2.pk,c.words,r.2.W)
def Ec (B:Int)(s:Dy):Prop:=(0<=s.c0/\s.c0<=B)/\(0<=s.c1/\s.c1<=B)/\(0<=s.c2/\s.c2<=B)/\(0<=s.c3/\s.c3<=B)
def Wx (c:Cx)(W:Zd):iW c W<=eL c.ns:=by
 unfold iW;exact Nat.le_trans bB V2
def HQ (h:c.Ok)(hi:Inv c s):0<=s.lv/\s.lv+c.tp<=c.words/\c.words<=1048576/\0<=c.tp:=by
 have n:=h.num;have g:=hi.lv;have u:=Wx c s.W;have v:=h.fit;have y:=n.fixed;have A:=h.ns;have e:=n.sl;have C:1<=c.sl:=by rw[e];have:=n.R;split<;>omega
 have D:c.sl*(iW c s.W:Int)<=c.sl*c.ns:=aD V1 V1;have E:0<=c.sl*(iW c s.W:Int):=Int.mul_nonneg V1 V1;have d:0<=c.tp:=by rw[n.tp];split<;>omega
 have:=n.R;have:=n.Q;have:=n.words;refine⟨V1,V1,V1,d⟩
def Oq (h:c.Ok)(hi:Inv c s)(C:iW c s.W<eL c.ns):s.lv+c.sl<=c.words:=by
 have n:=h.num;have u:=hi.lv;have v:=h.fit;have y:=h.ns;have e:=n.sl;have A:1<=c.sl:=by rw[e];have:=n.R;split<;>omega
 have g:c.sl*((iW c s.W:Int)+1)<=c.sl*c.ns:=aD V1 V1;have d:0<=c.tp:=by rw[n.tp];split<;>omega
 rw[Int.mul_add,Int.mul_one]at g;omega
def Xf {l:List Nat}{P:Nat->Bool}(e:k∈l)(d:P k=Zb):l.countP P<dt l:=by
 rcases Nat.lt_or_ge (l.countP P) (dt l) with h|h
 .exact h
 .have:=List.countP_eq_length.1 (Nat.le_antisymm bB h) k e;rw[d]at this;cases this
def Oc (d:k<eL c.ns)(e:iG c W k<=0):iW c W<eL c.ns:=by
 have:=Xf (l:=List.range (eL c.ns)) (P:=λ(k:Nat)=>Zc (0<iG c W k)) (k:=k) (List.mem_range.2 d) (zA V1);rw[List.length_range]at this;exact this
def Uf (d:k<eL c.ns):jH sb c.ns sx (k:Int)=O Za:=by
 unfold jH;rw[Zf,zC,Zf]
def aR0 (h:c.Ok)(g:c.mode≠3)(hi:Inv c s)(d:k<eL c.ns)(C:iG c s.W k<=0):
  kj (k:Int) c.fixed c.tp c.sl c.ns c.mode c.R c.Q c.len c.words s.L s.p s.q s.c0 s.c1 s.c2 s.c3 s.z c.X c.T c.l c.k c.P c.tk (c.off 8:Int) c.ns (dt c.X:Int) s.lv s.pk c.words s.W=O (s.lv+c.sl,max s.pk (s.lv+c.sl),c.words,put s.W (sp c k) (IntKind.u64.wrap (IntKind.i64.wrap (s.p+1))::seg s.W (c.off 1) (dt c.X))):=by
 have n:=h.num;have e:=hi.w;have⟨y,H,I⟩:=HQ h hi;have A:=Oq h hi (Oc d C);have u:=n.sl;rw[zF g]at u;have M:=n.x;have K:=hi.p;have J:=hi.L;have D:=(hi.tag k d).1;have⟨N,V,Z⟩:=xO h g d;have⟨E,F⟩:=e.tk h;have v:dt (seg s.W (c.off 1) (dt c.X))=dt c.X:=fY (e.in' h (i:=1) V1);unfold kj;rw[qD V1 y A V1,zG,NE (ii:=1) (i:=1) h e rfl V1,zG,show c.sz 1=dt c.X from rfl];unfold pq;rw[Uf d];simp only[zG,aB,zD];rw[zU h g d,zG,Ic h g e d,zG,zA (show¬s.p<0 by omega),zD,zA (show¬65536<=s.p by omega)];simp only[zG,zD];rw[v,zA (λk=>k rfl),zD,zA (show¬(iG c s.W k≠0)by omega),zD,bn V1 V1]
 unfold Cx.tk;rw[ta (by simp[v];omega) E F];rfl
def aj2 (h:c.Ok)(g:c.mode≠3)(hi:Inv c s)(d:k<c.ns.toNat)(D:0<iG c s.W k):
  i8 (k:Int) c.fixed c.tp c.sl c.ns c.mode c.R c.Q c.len c.words s.L s.p s.q s.c0 s.c1 s.c2 s.c3 s.z c.X c.T c.l c.k c.P c.tk (c.off 8:Int) c.ns (c.X.length:Int) s.lv s.pk c.words s.W=O (put s.W (c.off 1) (seg s.W (sp c k+1) c.X.length)):=by
 have n:=h.num;have e:=hi.w;have C:=hi.L;have u:=(hi.tag k d).2;obtain⟨E,F,H⟩:=xO h g d;obtain⟨y,A⟩:=e.tk h;have v:(seg s.W (sp c k+1) c.X.length).length=c.X.length:=fY V1;unfold i8 nk;rw[Uf d];simp only[zG,aB,zD];rw[zU h g d];simp only[zG];rw[Ic h g e d];simp only[zG];rw[zA (show¬iG c s.W k=0 by omega),zD,ad (n:=(sp c k:Int)+1) V1,show(sp c k:Int)+1=((sp c k+1:Nat):Int)by omega];unfold Cx.tk;rw[zr V1 y A];simp only[zG];rw[show((c.off 9:Nat):Int)=c.tk from rfl,I7 (ii:=1) (i:=1) h e rfl V1 (by rw[v];exact Nat.le_refl _)];rfl
def aV8 (h:c.Ok)(e:c.mode≠3)(hi:Inv c s)(d:k<c.ns.toNat)(H:0<iG c s.W k)(g:c.sl<=s.lv):
  lu (k:Int) c.fixed c.tp c.sl c.ns c.mode c.R c.Q c.len c.words s.L s.p s.q s.c0 s.c1 s.c2 s.c3 s.z c.X c.T c.l c.k c.P c.tk (c.off 8:Int) c.ns (c.X.length:Int) s.lv s.pk c.words s.W=O (s.lv-c.sl,s.pk,c.words,put s.W (sp c k) (gD (c.X.length+1))):=by
 have n:=h.num;have y:=hi.w;have I:=n.x;have v:=n.sl;rw[zF e]at v;obtain⟨D,E,F⟩:=HQ h hi;have u:=hi.pk;obtain⟨J,K,M⟩:=xO h e d;obtain⟨A,C⟩:=y.tk h;unfold lu qg;rw[Uf d];simp only[zG,aB,zD];rw[zU h e d];simp only[zG];rw[Ic h e y d];simp only[zG];rw[zA (show¬iG c s.W k=0 by omega),zD];unfold ey;simp only[zG];rw[ad (n:=(c.X.length:Int)+1) V1,Xy V1,show List.replicate (((c.X.length:Int)+1).toNat) (0:Int)=gD (c.X.length+1)from rfl];unfold Cx.tk;rw[ta Z6 A C];simp only[zG];rw[vE V1 g u.1 V1];rfl
end
end
section
open Int renaming reduceEq -> aD, toNat_of_nonneg -> bB
open Nat renaming reduceSub -> aB
def aO6 (a n p q L d:Int)(l:Zd):Int×Int×Int×Int×Int×Zd:=
 if kA a n=Zb∨7<a then(2,p,q,L,d,l)
 else if(2<=a/\a<=4)/\(dt l:Int)<=n then(2,p,q,L,d,l)
 else if a=1 then(if L-p<n then(17,p,q,L,d,l)else(0,p+n,q,L,d+n,l))
 else if a=2 then(if 0<=rg l n then(15,p,q,L,d,l)else(0,p,q,L,d,l.set (eL n) p))
 else if a=3 then(if rg l n<0 then(16,p,q,L,d,l)else(0,rg l n,q,L,d,l))
 else if a=4 then(if rg l n<0 then(16,p,q,L,d,l)else(0,p,q,L,d,l.set (eL n) (-1)))
 else if a=5 then(if q≠ -1 then(18,p,q,L,d,l)else if p≠L then(17,p,q,L,d,l)else(0,p,p,L,d,l))
 else if a=6 then(if q≠ -1 then(18,p,q,L,d,l)else if p≠L-1 then(17,p,q,L,d,l)else(0,p,p,L,d,l))
 else(if q<=0 then(18,p,q,L,d,l)else if p≠q-1 then(17,p,q,L,d,l)else(0,p,p,L,d,l))
def VX :Nat.beq 0 0=Za:=rfl
def VW (n:Nat):Nat.beq (n+1) 0=Zb:=rfl
def Dg {a n:Int}(h: ¬(kA a n=Zb∨7<a)):kA a n=Za/\(a=1∨a=2∨a=3∨a=4∨a=5∨a=6∨a=7):=by
 have d:kA a n=Za:=by
  cases g:kA a n with
  |true=>rfl
  |false=>exact(h (.inl g)).elim
 refine⟨d, ?_⟩;have u: ¬a<1:=λe=>by unfold kA at d;rw[zE e]at d;cases d
 omega
def Dh {a n:Int}(h:kA a n=Za)(e:1<=a/\a<=4):0<=n/\n<1048576/\(a=1->1<=n/\n<65536):=by
 unfold kA at h;rw[Zh,Zh]at h;by_cases d:a=1
 .rw[zE d]at h;have:=of_decide_eq_true h;omega
 .rw[zF d,Zg]at h;have:=of_decide_eq_true h;omega
def Uo {a n v:Int}{l:Zd}(Z:0<=L/\L<=65535)(hp:0<=p/\p<=L)(hq: -1<=q/\q<=L)(ht:0<=v/\v<=1000000000000):jr a n p q L v l=O (aO6 a n p q L v l):=by
 unfold jr aO6;rw[PA];simp only[zG];by_cases h1:kA a n=Zb∨7<a
 .rw[zE h1]
  have e:(cond (!kA a n) (O Za) (O (Zc (7<a))))=O Za:=by
   rcases h1 with h1|h1
   .rw[h1];rfl
   .rw[zB h1];cases kA a n<;>rfl
  rw[e];rfl
 rw[zF h1];obtain⟨E,V⟩:=Dg h1;have N: ¬7<a:=λh=>h1 (.inr h)
 rw[E,zA N];simp only[Bool.not_true,zD,zG];by_cases y:(2<=a/\a<=4)/\(l.length:Int)<=n
 .rw[zE y,zB y.1.1,zB y.1.2,zB y.2];rfl
 rw[zF y]
 have e:(cond (Zc (2<=a)) (cond (Zc (a<=4)) (cond (Zc ((l.length:Int)<=n)) (O (Sum.inl ())) (O (Sum.inr ()))) (O (Sum.inr ()))) (O (Sum.inr ())):Option (Unit⊕Unit))=O (.inr ()):=by
  by_cases d:2<=a
  .rw[zB d];by_cases g:a<=4
   .rw[zB g,zA (λF=>y ⟨⟨d,g⟩,F⟩)];rfl
   .rw[zA g];rfl
  .rw[zA d];rfl
 rw[e];simp only[zG,cb,mY]
 have u:(2<=a/\a<=4)->0<=n/\n.toNat<l.length/\ix n l.length=O n.toNat/\l[n.toNat]?=O (rg l n):=λJ=>by
  have I:=Dh E ⟨V1,J.2⟩
  have A:n.toNat<l.length:=by
   have: ¬(l.length:Int)<=n:=λF=>y ⟨J,F⟩
   omega
  have H:n=((n.toNat:Nat):Int):=by omega
  refine⟨I.1,A, ?_, ?_⟩
  .conv=>lhs;rw[H]
   exact br A
  .have:=jt A;rw[<-H]at this;exact this
 rcases V with rfl|rfl|rfl|rfl|rfl|rfl|rfl
 .have I:=Dh E V1;rw[show ix 1 8=O 1 from rfl];simp only[zG,aB,VX,VW,zC,zD];rw[zE trivial];unfold lM;rw[ad (n:=L-p) V1,ag];by_cases d:L-p<n
  .rw[zE d,zE d];rfl
  .rw[zF d,zF d,ad (n:=p+n) V1,ad (n:=v+n) V1];rfl
 .obtain⟨K,M,C,D⟩:=u V1;rw[show ix 2 8=O 2 from rfl];simp only[zG,aB,VX,VW,zC,zD];rw[zF V4,zE trivial];unfold mZ;rw[C];simp only[zG];rw[D];simp only[zG,ag];by_cases d:0<=rg l n
  .rw[zE d,zE d];rfl
  .rw[zF d,zF d];rfl
 .obtain⟨K,M,C,D⟩:=u V1;rw[show ix 3 8=O 3 from rfl];simp only[zG,aB,VX,VW,zC,zD];rw[zF V4,zF V4,zE trivial];unfold lN;rw[C];simp only[zG];rw[D];simp only[zG,ag];by_cases d:rg l n<0
  .rw[zE d,zE d];rfl
  .rw[zF d,zF d];rfl
 .obtain⟨K,M,C,D⟩:=u V1;rw[show ix 4 8=O 4 from rfl];simp only[zG,aB,VX,VW,zC,zD];rw[zF V4,zF V4,zF V4,zE trivial];unfold oc;rw[C];simp only[zG];rw[D];simp only[zG,ag];by_cases d:rg l n<0
  .rw[zE d,zE d];rfl
  .rw[zF d,zF d];rfl
 .rw[show ix 5 8=O 5 from rfl];simp only[zG,aB,VX,VW,zC,zD];rw[zF V4,zF V4,zF V4,zF V4,zE trivial];unfold od ia;rw[ad (n:=L-0) V1,ag];by_cases d:q≠ -1
  .rw[zE d,zE d];rfl
  .rw[zF d,zF d,zB (show q= -1 by omega),Bool.and_true,Int.sub_zero];by_cases g:p=L
   .rw[zB g,zF (λk=>k g)];rfl
   .rw[zA g,zE g];rfl
 .rw[show ix 6 8=O 6 from rfl];simp only[zG,aB,VX,VW,zC,zD];rw[zF V4,zF V4,zF V4,zF V4,zF V4,zE trivial];unfold ob ia;rw[ad (n:=L-1) V1,ag];by_cases d:q≠ -1
  .rw[zE d,zE d];rfl
  .rw[zF d,zF d,zB (show q= -1 by omega),Bool.and_true];by_cases g:p=L-1
   .rw[zB g,zF (λk=>k g)];rfl
   .rw[zA g,zE g];rfl
 .rw[show ix 7 8=O 7 from rfl];simp only[zG,aB,VX,VW,zC,zD];rw[zF V4,zF V4,zF V4,zF V4,zF V4,zF V4];unfold lO;rw[ag];by_cases d:q<=0
  .rw[zE d,zE d];rfl
  .rw[zF d,zF d,ad (n:=q-1) V1,ag];by_cases g:p≠q-1
   .rw[zE g,zE g];rfl
   .rw[zF g,zF g];rfl
section
variable {c:Cx}
def If (g: ∀k,k<eL c.ns->0<=iG c W k/\iG c W k<=L+1): ∀t∈mL c W,-1<=t/\t<=L:=λt d=>by
 unfold mL at d;obtain⟨k,e,rfl⟩:=List.mem_map.1 d;have:=g k (List.mem_range.1 e);omega
def az8 {n:Int}(h:0<=n)(e:eL n<eL c.ns):rg (mL c W) n=iG c W (eL n)-1:=by
 have g:=Fi (c:=c) (W:=W) e;have d:=jt (r:=mL c W) (k:=eL n) (by rw[qH];exact e);rw[g,bB h]at d;injection d with d
 exact d.symm
def Ec.in' (h:Ec B s)(d:B<=2305843009213693952):(0<=s.c0/\s.c0<=2305843009213693952)/\(0<=s.c1/\s.c1<=2305843009213693952)/\(0<=s.c2/\s.c2<=2305843009213693952)/\(0<=s.c3/\s.c3<=2305843009213693952):=by
 unfold Ec at h;omega
def an2 (d:k<eL c.ns)(e:0<iG c W k):0<iW c W:=by
 unfold iW;exact List.countP_pos_iff.2 ⟨k,List.mem_range.2 d,zB e⟩
def ae6 (h:c.Ok)(hi:Inv c s)(y:0<iW c s.W):c.sl<=s.lv:=by
 have n:=h.num;have e:=hi.lv;have g:=n.fixed;have d:=n.sl;have u:1<=c.sl:=by rw[d];have:=n.R;split<;>omega
 have v:c.sl*1<=c.sl*(iW c s.W:Int):=Int.mul_le_mul_of_nonneg_left V1 V1;have:=n.R;have:=n.Q;omega
def do2 (h:c.Ok)(E:c.mode≠3)(hi:Inv c s)(hc:Ec B s)(hB:B<=2305843009213693952){a n:Int}:
  jW a n c.fixed c.tp c.sl c.ns c.mode c.R c.Q c.len c.words s.L s.p s.q s.c0 s.c1 s.c2 s.c3 s.z c.X c.T c.l c.k c.P c.tk (c.off 8:Int) c.ns (c.X.length:Int) s.lv s.pk c.words s.W=O (aM4 c (HG c a n s)):=by
 have nm:=h.num;have J:=hi.w;have hL:=hi.L;have hp:=hi.p;have hq:=hi.q;have F:=hi.pk;have Z:=h.ns;obtain⟨k0,k1,k2,k3⟩:=hc.in' hB;obtain⟨M,g2,N,g4⟩:=HQ h hi;have htp:=nm.tp;rw[zF E]at htp
 have g:(mL c s.W).length<1000000:=by
  rw[qH];rcases Nat.eq_zero_or_pos c.ns.toNat with h0|h0
  .omega
  .have:=(xO h E h0).2.2;omega
 unfold jW lJ;simp only[zG];rw[zA E,zD];unfold du;rw[Ie h E J (λk V=>by have:=hi.tag k V;omega)];simp only[zG];rw[C5 hL hp hq g (If hi.tag)];simp only[zG,cb];rw[Uo hL hp hq V1];simp only[zG];unfold aO6 HG;by_cases H:kA a n=Zb∨7<a
 .rw[zE H,zE H,zB V2,zC];rfl
 rw[zF H,zF H];obtain⟨h2,V⟩:=Dg H;rw[qH,bB Z.1];by_cases I:(2<=a/\a<=4)/\c.ns<=n
 .rw[zE I,zE I,zB V2,zC];rfl
 rw[zF I,zF I]
 have A:(2<=a/\a<=4)->n=((n.toNat:Nat):Int)/\n.toNat<c.ns.toNat/\rg (mL c s.W) n=iG c s.W n.toNat-1:=λhs=>by
  have hn:=Dh h2 ⟨V1,hs.2⟩
  have u:n.toNat<c.ns.toNat:=by
   have: ¬c.ns<=n:=λh7=>I ⟨hs,h7⟩
   omega
  exact⟨V1,u,az8 hn.1 u⟩
 simp only[nU,bl,iD,zG];have e: ∀l:Zd,l.length<1000000->gd (fd (0+l.length) 8) (O l)=O l:=λl hl=>bn V1 V1
 have C: ∀(i:Nat) (x:Int),((mL c s.W).set i x).length<1000000:=λi x=>by simp only[List.length_set];exact g
 rcases V with rfl|rfl|rfl|rfl|rfl|rfl|rfl
 .have hn:=Dh h2 V1;simp only[aD,reduceIte];by_cases d:s.L-s.p<n
  .rw[zE d,zE d,zB V2,zC];rfl
  rw[zF d,zF d,zA V2,zD,show ix 1 8=O 1 from rfl];simp only[zG,aB,VX,VW,zC,zD];have D:n=((n.toNat:Nat):Int):=by omega
  have y:=YN h J (m:=n.toNat) (L:=s.L) (p:=s.p) (q:=s.q) (c0:=s.c0) (c1:=s.c1) (c2:=s.c2) (c3:=s.c3) (z:=s.z) (sb:=(c.off 8:Int)) (sn:=c.ns) (sx:=(c.X.length:Int)) (lv:=s.lv) (pk:=s.pk) (bd:=c.words) V1 V1 V1;rw[<-D]at y;rw[y];simp only[zG];rw[e _ g];rfl
 .obtain⟨D,u,K⟩:=A V1;simp only[aD,reduceIte];rw[K];by_cases d:0<=iG c s.W n.toNat-1
  .rw[zE d,zE d,zB V2,zC];rfl
  rw[zF d,zF d,zA V2,zD,show ix 2 8=O 2 from rfl];simp only[zG,aB,VX,VW,zC,zD];have y:=aR0 h E hi u V1;rw[<-D]at y;rw[y];simp only[zG];rw[e _ (C _ _)];rfl
 .obtain⟨D,u,K⟩:=A V1;simp only[aD,reduceIte];rw[K];by_cases d:iG c s.W n.toNat-1<0
  .rw[zE d,zE d,zB V2,zC];rfl
  rw[zF d,zF d,zA V2,zD,show ix 3 8=O 3 from rfl];simp only[zG,aB,VX,VW,zC,zD];have y:=aj2 h E hi u V1;rw[<-D]at y;rw[y];simp only[zG];rw[e _ g];rfl
 .obtain⟨D,u,K⟩:=A V1;simp only[aD,reduceIte];rw[K];by_cases d:iG c s.W n.toNat-1<0
  .rw[zE d,zE d,zB V2,zC];rfl
  rw[zF d,zF d,zA V2,zD,show ix 4 8=O 4 from rfl];simp only[zG,aB,VX,VW,zC,zD];have y:=aV8 h E hi u V1 (ae6 h hi (an2 u V1));rw[<-D]at y;rw[y];simp only[zG];rw[e _ (C _ _)];rfl
 .simp only[aD,reduceIte];by_cases d:s.q≠ -1
  .rw[zE d,zE d,zB V2,zC];rfl
  rw[zF d,zF d];by_cases v:s.p≠s.L
  .rw[zE v,zE v,zB V2,zC];rfl
  rw[zF v,zF v,zA V2,zD,show ix 5 8=O 5 from rfl];simp only[zG,aB,VX,VW,zC,zD];rw[aX7 h J M F.1 V1 N];simp only[zG];rw[e _ g,ad (n:=s.c2+1) V1,ad (n:=s.c3+1) V1];rfl
 .simp only[aD,reduceIte];by_cases d:s.q≠ -1
  .rw[zE d,zE d,zB V2,zC];rfl
  rw[zF d,zF d];by_cases v:s.p≠s.L-1
  .rw[zE v,zE v,zB V2,zC];rfl
  rw[zF v,zF v,zA V2,zD,show ix 6 8=O 6 from rfl];simp only[zG,aB,VX,VW,zC,zD];rw[aU8 h J M F.1 V1 N];simp only[zG];rw[e _ g,ad (n:=s.c1+1) V1,ad (n:=s.c2+1) V1,ad (n:=s.c3+1) V1,ad (n:=s.c3+1+1) V1];rfl
 .simp only[aD,reduceIte];by_cases d:s.q<=0
  .rw[zE d,zE d,zB V2,zC];rfl
  rw[zF d,zF d];by_cases v:s.p≠s.q-1
  .rw[zE v,zE v,zB V2,zC];rfl
  rw[zF v,zF v,zA V2,zD,show ix 7 8=O 7 from rfl];simp only[zG,aB,VX,VW,zC,zD];rw[bj1 h J M F.1 V1 N];simp only[zG];rw[e _ g,ad (n:=s.c1+1) V1,ad (n:=s.c3+1) V1];rfl
end
end
section
open Go.IntKind renaming wrap -> zH, i64 -> zI, u64 -> zJ
open Int renaming reduceEq -> aB, le_max_left -> cB, toNat_natCast -> cD
open List renaming getD_eq_getElem?_getD -> aD, range -> bD, length_take -> cK, countP_append -> cM
open Nat renaming le_of_eq -> bB, le_refl -> cL
section
variable {c:Cx}
def gw (c:Cx)(W W':Zd):Prop:= ∀i,c.off 8<=i->W'[i]?=W[i]?
def gw.refl (W:Zd):gw c W W:=λ_ _=>rfl
def gw.trans {W'':Zd}(h:gw c W W')(d:gw c W' W''):gw c W W'':=λi hi=>(d i hi).trans (h i hi)
def gw.put (h:c.Ok)(d:gw c W W')(e:Wd c W')(hi:i<8)(y:dt w<=c.sz i):gw c W (put W' (c.off i) w):=λj g=>by
 have u:=oN (c:=c) (i:=i) (j:=8) hi;have v:=e.in' h (i:=i) V1;rw[ai9 V1 (.inr V1)];exact d j g
def gw.rg (h:gw c W W')(hi:c.off 8<=i):rg W' (i:Int)=rg W (i:Int):=by
 unfold Go.V.rg;rw[cD,aD,aD,h i hi]
def gw.tag (h:gw c W W')(k:Nat):iG c W' k=iG c W k:=h.rg (by unfold sp;omega)
def gw.used (h:gw c W W'):iW c W'=iW c W:=by
 unfold iW
 congr 1
 funext k
 rw[h.tag k]
def RU (h:c.Ok)(e:Wd c W)(u:dt c.X+dt c.T<=dt a)(d:dt a<=max (eL c.R) (eL c.Q)):gw c W (DA c W a):=by
 have⟨v,g,y⟩:=nN h e u d;unfold DA;refine gw.put h (gw.put h (gw.put h (gw.refl W) e V1 ?_) v V1 ?_) g V1 ?_
 .exact d
 .rw[cK];exact Nat.min_le_left _ _
 .rw[BT,fY (n:=dt c.T) (g.in' h (i:=6) V1)];exact cL _
def Qb (h:c.Ok)(d:Wd c W)(g:dt x=dt c.X):gw c W (NB c W x):=by
 have n:=h.num;have D:=n.R;have C:=n.Q;have A:=n.xtQ;have E:=n.x;have nm:=n.m;have⟨y,e,u⟩:=AN h d g;have⟨v,I⟩:=C0 h d g;have⟨_,F,H⟩:=qG h.pk e (a:=fill c.Q [1]) (t:=(nA c W x).2.1) (uG V3) (bB u.symm) V1;exact(gw.put h (gw.refl W) d (i:=3) V1 (bB e)).trans (RU h v V1 V1)
def RV (h:c.Ok)(d:Wd c W)(e:dt r=eL c.R)(g:dt t=c.fl.n):gw c W (ON c W r t):=by
 have n:=h.num;have A:=n.R;have y:=n.xtR;have D:=n.x;have C:=n.n;have⟨u,v⟩:=Ij h d e g;have⟨_,E,F⟩:=qG h.pl e u (bB g.symm) V1;exact RU h d V1 V1
def Oj (h:c.Ok)(d:Wd c W)(p:Int):gw c W (put W (c.off 2) (i6 c W p).1):=
 gw.put h (gw.refl W) d (i:=2) V1 (bB (iM h d p).2.1)
def Qc (h:c.Ok)(d:Wd c W)(p:Int):gw c W (az7 c W p)/\Wd c (az7 c W p):=by
 have⟨v,e,g⟩:=iM h d p;have u:=yI h d p;exact⟨(Oj h d p).trans (RV h u e g),(Ij h u e g).2⟩
def Yf (h:c.Ok)(d:Wd c W)(p:Int):dt ((i6 c W p).1.take (dt c.X))=dt c.X:=by
 have n:=h.num;have y:=n.R;have v:=n.xtR;have⟨e,g,u⟩:=iM h d p;rw[cK];omega
def L7 (h:c.Ok)(d:Wd c W)(p:Int):gw c W (Vn c W p)/\Wd c (Vn c W p):=by
 have⟨A,e,g⟩:=iM h d p;have v:=yI h d p;have u:=Yf h d p;have y:=(C0 h v u).2;exact⟨((Oj h d p).trans (Qb h v u)).trans (RV h y e g),(Ij h y e g).2⟩
def ad8 (h:c.Ok)(d:Wd c W)(p:Int):gw c W (aJ7 c W p):=by
 have⟨_,e⟩:=Fe h d p;have⟨g,u⟩:=PD h d p;refine gw.put h (gw.put h (gw.refl W) d (i:=2) V1 (bB e)) g (i:=1) V1 ?_;rw[cK];exact Nat.min_le_left _ _
def Qa (h:c.Ok){W:Zd}(d:Wd c W)(p:Int): ∀i,gw c W (Kd c W p i)
 |0=>gw.refl W
 |i+1=>(Qa h d p i).trans (ad8 h (Ku h d p i) _)
def EQ {P P':Nat->Bool}{k:Nat}: ∀{n:Nat},k<n->P k=Zb->P' k=Za->(∀j,j<n->j≠k->P' j=P j)->(bD n).countP P'=(bD n).countP P+1
 |n+1,A,u,v,d=>by
  rw[List.range_succ,cM,cM];by_cases h:k=n
  .subst h
   have e:(bD k).countP P'=(bD k).countP P:=List.countP_congr λj y=>by
    have:=List.mem_range.1 y;rw[d j V1 V1]
   rw[e];simp[u,v]
  .rw[EQ (n:=n) V1 u v λj y g=>d j V1 g];have:[n].countP P'=[n].countP P:=by simp[d n V1 V1]
   omega
def aF2 (h:j<k):sp c j+(dt c.X+1)<=sp c k:=by
 have d:(j+1)*(dt c.X+1)<=k*(dt c.X+1):=Nat.mul_le_mul_right _ h;rw[Nat.succ_mul]at d;unfold sp;omega
def QL (d:sp c k+dt w<=dt W)(g:dt w=dt c.X+1)(e:j≠k):iG c (put W (sp c k) w) j=iG c W j:=by
 unfold iG rg;rw[cD,aD,aD,ai9 d];rcases Nat.lt_or_ge j k with h|h
 .exact .inl (by have:=aF2 (c:=c) h;omega)
 .exact .inr (by have:=aF2 (c:=c) (show k<j by omega);omega)
def Dm (d:sp c k+dt w<=dt W)(e:dt w=dt c.X+1):iG c (put W (sp c k) w) k=w.getD 0 0:=by
 unfold iG rg;rw[cD,aD,aD,Qp d,zE ⟨cL _,V1⟩,Nat.sub_self]
def EY {d:Dy}(hi:Inv c s)(y:Wd c d.W)(v:gw c s.W d.W)(h:d.L=s.L)(A:0<=d.p/\d.p<=s.L)(C: -1<=d.q/\d.q<=s.L)(e:d.lv=s.lv)(g:s.pk<=d.pk/\d.pk<=c.words):Inv c d:=
 ⟨y,by rw[h];exact hi.L,by rw[h];exact A,by rw[h];exact C,λk u=>by rw[v.tag,h];exact hi.tag k u,by rw[e,v.used];exact hi.lv,by rw[e];exact⟨Int.le_trans hi.pk.1 g.1,g.2⟩⟩
def at4 (h:c.Ok)(F:c.mode≠3)(hi:Inv c s)(a n:Int):Inv c (HG c a n s).2:=by
 have nm:=h.num;have v:=hi.w;have hL:=hi.L;have E:=hi.p;have K:=hi.q;have H:=hi.pk;have hns:=h.ns;have nx:=nm.x;have⟨g1,g2,g3,g4⟩:=HQ h hi;have htp:=nm.tp;rw[zF F]at htp;have Z:=nm.sl;rw[zF F]at Z;have l1:dt (seg s.W (c.off 1) (dt c.X))=dt c.X:=fY (v.in' h (i:=1) V1);unfold HG;by_cases M:kA a n=Zb∨7<a
 .rw[zE M];exact hi
 rw[zF M];have⟨h2,hk⟩:=Dg M;by_cases N:(2<=a/\a<=4)/\c.ns<=n
 .rw[zE N];exact hi
 rw[zF N]
 have C:(2<=a/\a<=4)->eL n<eL c.ns:=λhs=>by
  have hn:=Dh h2 ⟨V1,hs.2⟩;have: ¬c.ns<=n:=λh7=>N ⟨hs,h7⟩
  omega
 rcases hk with rfl|rfl|rfl|rfl|rfl|rfl|rfl
 .have hn:=Dh h2 V1;simp only[aB,reduceIte];by_cases e:s.L-s.p<n
  .rw[zE e];exact hi
  .rw[zF e];exact EY hi (Ku h v _ _) (Qa h v _ _) rfl ⟨by show 0<=s.p+n;omega,by show s.p+n<=s.L;omega⟩ K rfl ⟨Int.le_refl _,H.2⟩
 .have d:=C V1;simp only[aB,reduceIte];by_cases e:0<=iG c s.W (eL n)-1
  .rw[zE e];exact hi
  rw[zF e];generalize eL n=k at*;have⟨s1,s2,s3⟩:=xO h F d;have⟨t1,t2⟩:=v.tk h;have I:=hi.tag k d;have J:dt (zH zJ (zH zI (s.p+1))::seg s.W (c.off 1) (dt c.X))=dt c.X+1:=by simp[l1]
  have g:=Dm (c:=c) (W:=s.W) (k:=k) (w:=zH zJ (zH zI (s.p+1))::seg s.W (c.off 1) (dt c.X)) V1 J
  have hv:(zH zJ (zH zI (s.p+1))::seg s.W (c.off 1) (dt c.X)).getD 0 0=s.p+1:=by
   show zH zJ (zH zI (s.p+1))=_;rw[Zi,Zk]
  rw[hv]at g;have u: ∀j,j≠k->iG c (put s.W (sp c k) (zH zJ (zH zI (s.p+1))::seg s.W (c.off 1) (dt c.X))) j=iG c s.W j:=λj y=>QL V1 J y
  have V:=Oq h hi (Oc d V1)
  have hu:iW c (put s.W (sp c k) (zH zJ (zH zI (s.p+1))::seg s.W (c.off 1) (dt c.X)))=iW c s.W+1:=by
   unfold iW;exact EQ d (zA V1) (zB (by rw[g];omega)) λj _ y=>by rw[u j y]
  refine⟨v.put h V1,hL,E,K,λj y=> ?_, ?_, ?_⟩
  .by_cases A:j=k
   .subst A;rw[g];show 0<=s.p+1/\s.p+1<=s.L+1;omega
   .rw[u j A];exact hi.tag j y
  .show s.lv+c.sl=c.fixed+c.sl*((iW c (put s.W (sp c k) _):Nat):Int);rw[hu,hi.lv,show(((iW c s.W+1:Nat)):Int)=(iW c s.W:Int)+1 by omega,Int.mul_add,Int.mul_one,Int.add_assoc]
  .show s.lv+c.sl<=max s.pk (s.lv+c.sl)/\max s.pk (s.lv+c.sl)<=c.words;omega
 .have d:=C V1;simp only[aB,reduceIte];by_cases e:iG c s.W (eL n)-1<0
  .rw[zE e];exact hi
  rw[zF e];have⟨s1,s2,s3⟩:=xO h F d;have⟨t1,t2⟩:=v.tk h;have I:=hi.tag _ d;have l2:dt (seg s.W (sp c (eL n)+1) (dt c.X))=dt c.X:=fY V1;have h1o:=oN (c:=c) (i:=1) (j:=9) V1;have z1:c.sz 1=dt c.X:=rfl;exact EY hi (v.put h (by rw[l2];omega)) (gw.put h (gw.refl s.W) v (i:=1) V1 (by rw[l2];exact cL _)) rfl ⟨by show 0<=iG c s.W (eL n)-1;omega,by show iG c s.W (eL n)-1<=s.L;omega⟩ K rfl ⟨Int.le_refl _,H.2⟩
 .have d:=C V1;simp only[aB,reduceIte];by_cases e:iG c s.W (eL n)-1<0
  .rw[zE e];exact hi
  rw[zF e];generalize eL n=k at*;have⟨s1,s2,s3⟩:=xO h F d;have⟨t1,t2⟩:=v.tk h;have I:=hi.tag k d;have J:dt (gD (dt c.X+1))=dt c.X+1:=dg _;have g:=Dm (c:=c) (W:=s.W) (k:=k) (w:=gD (dt c.X+1)) V1 J;have hv:(gD (dt c.X+1)).getD 0 0=0:=rfl;rw[hv]at g;have u: ∀j,j≠k->iG c (put s.W (sp c k) (gD (dt c.X+1))) j=iG c s.W j:=λj y=>QL V1 J y
  have hu:iW c s.W=iW c (put s.W (sp c k) (gD (dt c.X+1)))+1:=by
   unfold iW;exact EQ d (zA V1) (zB V1) λj _ y=>by rw[u j y]
  refine⟨v.put h V1,hL,E,K,λj y=> ?_, ?_, ?_⟩
  .by_cases A:j=k
   .subst A;rw[g];show(0:Int)<=0/\0<=s.L+1;omega
   .rw[u j A];exact hi.tag j y
  .show s.lv-c.sl=c.fixed+c.sl*((iW c (put s.W (sp c k) (gD (dt c.X+1))):Nat):Int);rw[hi.lv,hu,show(((iW c (put s.W (sp c k) (gD (dt c.X+1)))+1:Nat)):Int)=(iW c (put s.W (sp c k) (gD (dt c.X+1))):Int)+1 by omega,Int.mul_add,Int.mul_one];omega
  .show s.lv-c.sl<=s.pk/\s.pk<=c.words;omega
 .simp only[aB,reduceIte];by_cases e:s.q≠ -1
  .rw[zE e];exact hi
  rw[zF e];by_cases D:s.p≠s.L
  .rw[zE D];exact hi
  rw[zF D];exact EY hi (C0 h v l1).2 (Qb h v l1) rfl E ⟨by show-1<=s.p;omega,E.2⟩ rfl ⟨cB _ _,by show max s.pk (s.lv+(c.fk.n:Int))<=c.words;omega⟩
 .simp only[aB,reduceIte];by_cases e:s.q≠ -1
  .rw[zE e];exact hi
  rw[zF e];by_cases D:s.p≠s.L-1
  .rw[zE D];exact hi
  rw[zF D];exact EY hi (L7 h v s.p).2 (L7 h v s.p).1 rfl E ⟨by show-1<=s.p;omega,E.2⟩ rfl ⟨cB _ _,by show max s.pk (s.lv+((c.fl.n:Int)+c.fk.n))<=c.words;omega⟩
 .simp only[aB,reduceIte];by_cases e:s.q<=0
  .rw[zE e];exact hi
  rw[zF e];by_cases D:s.p≠s.q-1
  .rw[zE D];exact hi
  rw[zF D];exact EY hi (Qc h v s.p).2 (Qc h v s.p).1 rfl E ⟨by show-1<=s.p;omega,E.2⟩ rfl ⟨cB _ _,by show max s.pk (s.lv+(c.fl.n:Int))<=c.words;omega⟩
theorem at3 (g:Ec B s)(a n:Int):Ec (B+65536) (HG c a n s).2:=by
 have d:Ec (B+65536) s:=by unfold Ec at g⊢;omega
 unfold HG;by_cases e:kA a n=Zb∨7<a
 .rw[zE e];exact d
 rw[zF e];obtain⟨h,v⟩:=Dg e;split
 .exact d
 split
 .rename_i u;have y:=Dh h (by omega);split
  .exact d
  .unfold Ec at g⊢;simp only;omega
 repeat' split
 all_goals first|exact d|(unfold Ec at g⊢;simp only;omega)
end
end
section
open Nat renaming add_sub_cancel_left -> aB, le_add_right -> aD
def WV (h:j<dt t):(t++r)[0+j]?=O (rg t (j:Int)):=by
 rw[Nat.zero_add,List.getElem?_append_left h,jt h]
def Iw (h:j<dt r):(t++r)[dt t+j]?=O (rg r (j:Int)):=by
 rw[List.getElem?_append_right (aD _ _),aB,jt h]
def WX {v:Int}:(t++r).set (dt t+j) v=t++r.set j v:=by
 rw[List.set_append_right _ _ (aD _ _),aB]
def stK (t:Zd)(p d:Nat)(l:Nat->Int)(s:BS):Int×Int×Int×(Zd)×(Zd)×Int×Int×Int×Int×Int×Int×Int×Int:=
 ((p:Int)-1,(d:Int),(s.2.2:Int),t++s.1,s.2.1,l 0,l 1,l 2,l 3,l 4,l 5,l 6,l 7)
def aK7 {code:List xi}(D:code.length<=8192){R:Int}(hR:1<=R/\R<=64){e0 e1:Int}(hN:t.length<=1000000)(hw:w.length=t.length+R.toNat):Backs (dw R (e0,w) (e1,code)) code (stK t) (Fg t) (VdB R.toNat t.length) (VK R.toNat)where
 op:=by
  intro p d l s m o C h hg A g F;obtain⟨I,v⟩:=lG D h;obtain⟨v1,v2,v3,v4⟩:=F;obtain⟨q1,q2⟩:=Ms o s.1 s.2.1 (rg t ((s.2.2-1:Nat):Int));refine⟨?_,by unfold Fg;exact⟨by simp[v1,q1],by simp[v2,q2],by show m<=s.2.2-1;omega,by show s.2.2-1<=_;omega⟩⟩;obtain⟨u,H,J,e1,N,V,Z,g2,g3⟩:=KA hg;unfold stK Fg;simp only[dw];rw[show((p+1:Nat):Int)-1=(p:Int)by omega,Ze,zD,v];simp only[zG];rw[h];simp only[zG,cj];rw[Ze,zD,Ze,zD];simp only[DI,zG];rw[ad (n:=(s.2.2:Int)-1) V1,show(s.2.2:Int)-1=((s.2.2-1:Nat):Int)by omega,ad (n:=(w.length:Int)-R) V1,show((w.length:Int)-R).toNat=t.length by omega,show((w.length:Int)).toNat-t.length=R.toNat by omega,Nat.sub_zero];have M:s.2.2-1<t.length:=by omega
  generalize s.2.2-1=n at*;unfold Mr;simp only[e1,N,V,Int.toNat_natCast];rw[br (show u<s.2.1.length by omega)];simp only[zG];rw[jt (show u<s.2.1.length by omega)];simp only[zG];rw[br M];simp only[zG];rw[WV M];simp only[zG];rw[br Z];simp only[zG];rw[Iw (show u<s.1.length by omega)];simp only[zG];rw[br g2];simp only[zG];rw[WX];have E: ∀x:Int,(s.1.set u x).length=s.1.length:=by simp
  have ha1:(s.2.1.set u 0).length=s.2.1.length:=by simp
  rw[Iw (show H<(s.1.set u (rg t (n:Int))).length by rw[E];omega)];simp only[zG];rw[br g3];simp only[zG];rw[Iw (show J<(s.1.set u (rg t (n:Int))).length by rw[E];omega)];simp only[zG];rw[br (show H<(s.2.1.set u 0).length by omega)];simp only[zG];rw[jt (show H<(s.2.1.set u 0).length by omega)];simp only[zG];generalize hP:par o _ _=P;generalize hA:(s.2.1.set u 0).set H _=A2;have hA2:A2.length=s.2.1.length:=by rw[<-hA];simp
  rw[br (show J<A2.length by omega)];simp only[zG];rw[jt (show J<A2.length by omega)];simp only[zG];rw[ad (n:=(p:Int)-1) V1]
 rep:=by
  intro p q d l s m o e C h A K g F;obtain⟨I,v⟩:=lG D h;obtain⟨h3,h4⟩:=lG D K;unfold stK;simp only[dw];rw[show((p+1:Nat):Int)-1=(p:Int)by omega,Ze,zD,v];simp only[zG];rw[h];simp only[zG,cj];rw[zB A,zC,ad (n:=((q+1:Nat):Int)-1) V1,show((q+1:Nat):Int)-1=(q:Int)by omega,h4];simp only[zG];rw[K];simp only[zG,cj];rw[br g];simp only[zG];rw[ad (n:=(p:Int)-1) V1,ad (n:=(d:Int)+1) V1];rfl
 nxt:=by
  intro p d l s m o C h hto A g hl hl2 F;obtain⟨I,v⟩:=lG D h;have y:=xL (upd l d (l d-1)) g;rw[oZ]at y;unfold upd at y;unfold stK;simp only[dw];rw[show((p+1:Nat):Int)-1=(p:Int)by omega,Ze,zD,v];simp only[zG];rw[h];simp only[zG,cj];rw[Ze,zD,zB A,zC,ad (n:=((d+1:Nat):Int)-1) V1,show((d+1:Nat):Int)-1=(d:Int)by omega,br g];simp only[zG];rw[xL l g,Zk,y,Zf,zC];rw[ad (n:=((C+1:Nat):Int)-2) V1,show((C+1:Nat):Int)-2=(C:Int)-1 by omega];rfl
 out:=by
  intro p d l s m o C h A g hl F;obtain⟨I,v⟩:=lG D h;have y:=xL (upd l d (l d-1)) g;rw[oZ]at y;unfold upd at y;unfold stK;simp only[dw];rw[show((p+1:Nat):Int)-1=(p:Int)by omega,Ze,zD,v];simp only[zG];rw[h];simp only[zG,cj];rw[Ze,zD,zB A,zC,ad (n:=((d+1:Nat):Int)-1) V1,show((d+1:Nat):Int)-1=(d:Int)by omega,br g];simp only[zG];rw[xL l g,Zk,y,Ze,zD,ad (n:=(p:Int)-1) V1];rfl
section
variable {R:Int} {l:List bz} {f:Fo}
def UC (h:Prg R l f){e0 e1:Int}(J:dt r=eL R)(H:dt a=eL R)(K:f.n<=dt t)(u:dt t<=1000000)(M:dt w=dt t+eL R):
  ∃b0 b1 b2 b3 y C D E,am (dw R (e0,w) (e1,f.bare.code 0)) cv (IntKind.i64.wrap ((dt (f.bare.code 0):Int)-1),0,(f.n:Int),t++r,a,0,0,0,0,0,0,0,0)=O (t++(jZ f r a t).1,(jZ f r a t).2.1,b0,b1,b2,b3,y,C,D,E):=by
 have⟨g,_,v,F⟩:=Hx (m:=0) (l:=λ_=>0) (s:=((r,a,f.n):BS)) (d:=0) (p:=0) (A:=[]) (B:=[]) (Lq (aK7 (e0:=e0) (e1:=e1) (t:=t) h.clen h.R1 u M)) f.bare V2 rfl (Fo.bare_ok f h.ok) f.bare_pos h.hi h.good ⟨J,H,by rw[Fo.bare_n];exact Nat.le_refl _,K⟩;rw[Fo.bare_unroll]at v F;have I:=h.clen;rw[Fo.code_len]at I
 have:=FR v h.steps (c:=(t++(jZ f r a t).1,(jZ f r a t).2.1,g 0,g 1,g 2,g 3,g 4,g 5,g 6,g 7)) (by
  unfold stK;simp only[dw];rw[Zf,zC]
  rfl)
 have e:stK t (0+f.bare.len) 0 (λ_=>0) ((r,a,f.n):BS)=(IntKind.i64.wrap ((dt (f.bare.code 0):Int)-1),0,(f.n:Int),t++r,a,0,0,0,0,0,0,0,0):=by
  unfold stK;rw[Fo.code_len,Zi,Nat.zero_add];rfl
 rw[e]at this;exact⟨_,_,_,_,_,_,_,_,this⟩
end
end
section
open Bool renaming not_true -> aB
open Int renaming toNat_of_nonneg -> aD, mul_le_mul_of_nonneg_left -> bB
open List renaming length_append -> bD, length_take -> cB
section
variable {c:Cx}
def Cg (c:Cx)(i:Nat):Nat:=c.off 8+i*eL c.sl
def lH (s:Dy):Int:=if s.q<0 then s.p else s.q
structure InvB (c:Cx)(s:Dy):Prop where
 w:Wd c s.W
 L:s.L=c.len
 p:0<=s.p/\s.p<=s.L
 q: -1<=s.q/\s.q<=s.L
 qp:0<=s.q->s.p=s.q
 lv:s.lv=c.fixed+c.sl*lH s
 pk:s.lv<=s.pk/\s.pk<=c.words
def xP (c:Cx)(W:Zd)(i:Nat):Zd:=seg W (Cg c i) c.fl.n
def Cb (c:Cx)(W:Zd)(i:Nat):Zd:=seg W (Cg c i+c.fl.n) (eL c.R)
def Lp (c:Cx)(W:Zd)(i:Nat):BS:=jZ c.fl (Cb c W i) (fill c.R (seg W (c.off 5) (dt c.X))) (xP c W i)
def Gb (c:Cx)(a n:Int)(s:Dy):Int×Dy:=
 if a=8 then(if n≠0 then(2,s)else if 0<=s.q then(18,s)else if s.p=s.L then(17,s)else
  (0,{s with p:=s.p+1,c1:=s.c1+1,lv:=s.lv+c.sl,pk:=max s.pk (s.lv+c.sl),W:=put (put (put s.W (c.off 2) (i6 c s.W s.p).1) (Cg c (eL s.p)) ((i6 c s.W s.p).2.1++(i6 c s.W s.p).1)) (c.off 1) ((i6 c s.W s.p).1.take (dt c.X))}))
 else if a=5 then(if n≠0 then(2,s)else if 0<=s.q then(18,s)else if s.p≠s.L then(17,s)else
  (0,{s with q:=s.L,c2:=s.c2+1,c3:=s.c3+1,z:=rg (nA c s.W (seg s.W (c.off 1) (dt c.X))).1 0,pk:=max s.pk (s.lv+c.fk.n),W:=NB c s.W (seg s.W (c.off 1) (dt c.X))}))
 else if a=9 then(if n≠0 then(2,s)else if s.q<1 then(18,s)else
  (0,{s with p:=s.q-1,q:=s.q-1,c3:=s.c3+1,lv:=s.lv-c.sl,W:=put (DA c s.W (Lp c s.W (eL (s.q-1))).2.1) (c.off 1) ((Lp c s.W (eL (s.q-1))).1.take (dt c.X))}))
 else(2,s)
def Fa (h:c.Ok)(v:c.mode=3)(hi:i<eL c.ns):eL c.sl=c.fl.n+eL c.R/\c.sl=(c.fl.n:Int)+c.R/\Cg c i+eL c.sl<=c.off 9/\c.off 8<=Cg c i:=by
 have n:=h.num;have g:=n.sl;rw[zE v]at g;have d:=h.ns;have A:=n.R
 have e:eL (c.sl*c.ns)=eL c.ns*eL c.sl:=by
  have:c.sl*c.ns=((eL c.ns*eL c.sl:Nat):Int):=by
   rw[Int.natCast_mul,aD d.1,aD V1,Int.mul_comm]
  rw[this];rfl
 have y:c.off 9=c.off 8+eL c.ns*eL c.sl:=by rw[NG,e]
 have u:(i+1)*eL c.sl<=eL c.ns*eL c.sl:=Nat.mul_le_mul_right _ hi;rw[Nat.succ_mul]at u;unfold Cg;omega
def SZ (h:c.Ok)(g:c.mode=3)(hi:i<eL c.ns){a17:Int}{k:List bz}{b0 b1 b2 b3:Int}:jo (i:Int) a0 a1 c.sl a4 a5 a6 a7 a8 a9 a10 a11 a12 a13 a14 a15 a16 a17 X T l k c.P b0 b1 b2 b3 W=O (Cg c i:Int):=by
 have⟨u,v,d,y⟩:=Fa h g hi;have A:=h.off9_le;have n:=h.num;have C:=n.words;have D:=n.R;unfold jo;rw[show ix 8 (dt c.P)=O 8 from br (k:=8) Z9,zG,Cx.P_get (show 8<10 by omega),zG];have e:(i:Int)*c.sl=((i*eL c.sl:Nat):Int):=by rw[Int.natCast_mul,aD V1]
 unfold Cg at d;rw[e,ad (n:=((i*eL c.sl:Nat):Int)) V1,Zi];unfold Cg
 congr 1
def Um (h:c.Ok)(u:c.mode=3)(hi:InvB c s):0<=s.lv/\s.lv+c.tp<=c.words/\c.words<=1048576/\0<=c.tp/\(lH s<c.ns->s.lv+c.sl<=c.words)/\(0<lH s->c.sl<=s.lv)/\c.ns=s.L:=by
 have n:=h.num;have C:=hi.lv;have D:=h.fit;have E:=n.fixed;have F:=h.ns;have y:=n.sl;rw[zE u]at y;have Z:=n.R;have V:=n.Q;have nw:=n.words;have K:=h.base u;have J:=hi.L;have M:=hi.p;have N:=hi.q;have g:0<=lH s/\lH s<=c.ns:=by unfold lH;split<;>omega
 have H:1<=c.sl:=by omega
 have e:c.sl*lH s<=c.sl*c.ns:=bB g.2 V1;have I:0<=c.sl*lH s:=Int.mul_nonneg V1 g.1;have d:0<=c.tp:=by rw[n.tp];split<;>omega
 refine⟨V1,V1,V1,d,λA=> ?_,λv=> ?_,V1⟩
 .have e:c.sl*(lH s+1)<=c.sl*c.ns:=bB V1 V1;rw[Int.mul_add,Int.mul_one]at e;omega
 .have e:c.sl*1<=c.sl*lH s:=bB V1 V1;omega
def Jw (h:c.Ok)(A:c.mode=3)(v:Wd c W)(hi:i<eL c.ns):
  seg W (Cg c i) (eL c.sl)=xP c W i++Cb c W i/\(dt (xP c W i))=c.fl.n/\(dt (Cb c W i))=eL c.R/\(dt (fill c.R (seg W (c.off 5) (dt c.X))))=eL c.R/\(dt (Lp c W i).1)=eL c.R/\(dt (Lp c W i).2.1)=eL c.R:=by
 have⟨E,F,H,I⟩:=Fa h A hi;have⟨V,Z⟩:=v.tk h;have n:=h.num;have M:=n.R;have K:=n.xtR;have N:=n.n;have J:dt (seg W (c.off 5) (dt c.X))=dt c.X:=fY (v.in' h (i:=5) V1);have e:dt (xP c W i)=c.fl.n:=fY V1;have g:dt (Cb c W i)=eL c.R:=fY V1;have u:dt (fill c.R (seg W (c.off 5) (dt c.X)))=eL c.R:=uG V1;have⟨_,C,D⟩:=qG h.pl g u (t:=xP c W i) (Nat.le_of_eq e.symm) V1;refine⟨?_,e,g,u,C,D⟩;apply List.ext_getElem?;intro j;rw[QD];by_cases y:j<c.fl.n
 .rw[Zg,List.getElem?_append_left V1];unfold xP;rw[QD,zE y]
 .rw[List.getElem?_append_right V1,e];unfold Cb;rw[QD];by_cases d:j<eL c.sl
  .rw[zE d,Zg]
   congr 1
   omega
  .rw[zF d,Zh]
def plain1 (h:c.Ok)(H:c.mode=3)(hi:InvB c s)(hc:Ec B s)(hB:B<=2305843009213693952){a n:Int}:
  lY a n c.fixed c.tp c.sl c.ns c.mode c.R c.Q c.len c.words s.L s.p s.q s.c0 s.c1 s.c2 s.c3 s.z c.X c.T c.l c.k c.P c.tk s.lv s.pk c.words s.W=O (aM4 c (Gb c a n s)):=by
 have nm:=h.num;have D:=hi.w;have hL:=hi.L;have hp:=hi.p;have hq:=hi.q;have J:=hi.pk;have hns:=h.ns;have nR:=nm.R;have n1:=nm.xtR;have nx:=nm.x;have nt:=nm.t;have nn:=nm.n;have nlen:=nm.len;obtain⟨k0,k1,k2,k3⟩:=hc.in' hB;obtain⟨g1,g2,g3,g4,g5,g6,g7⟩:=Um h H hi;have htp:=nm.tp;rw[zE H]at htp;obtain⟨t1,t2⟩:=D.tk h;unfold lY Gb;by_cases a8:a=8
 .subst a8;rw[zB (show(8:Int)=8 from rfl),zA (show¬(8:Int)=5 by decide)];simp only[zC,zG,aB,zD,reduceIte];by_cases e:n≠0
  .rw[zE e,zB e];rfl
  rw[zF e,zA e];simp only[zD,zG];by_cases d:0<=s.q
  .rw[zE d,zB d];rfl
  rw[zF d,zA d];simp only[zD,zG];by_cases u:s.p=s.L
  .rw[zE u,zB u];rfl
  rw[zF u,zA u];simp only[BEq.rfl,aB,zD,zG,cb];have y:lH s=s.p:=by unfold lH;rw[Zg]
  have A:s.p.toNat<c.ns.toNat:=by omega
  have M:s.p=((s.p.toNat:Nat):Int):=by omega
  obtain⟨s1,s2,K,s4⟩:=Fa h H A;obtain⟨f1,f2,f3⟩:=iM h D s.p;have w1:=yI h D s.p;have N:=g5 (by rw[y];omega);rw[qD V1 g1 N V1];simp only[zG];rw[aR2 h D];simp only[zG];have C:=SZ h H A (a0:=c.fixed) (a1:=c.tp) (a4:=c.ns) (a5:=c.mode) (a6:=c.R) (a7:=c.Q) (a8:=c.len) (a9:=c.words) (a10:=s.L) (a11:=s.p) (a12:=s.q) (a13:=s.c0) (a14:=IntKind.i64.wrap (s.c1+1)) (a15:=s.c2) (a16:=s.c3) (a17:=s.z) (X:=c.X) (T:=c.T) (l:=c.l) (k:=c.k) (b0:=c.tk) (b1:=s.lv+c.sl) (b2:=max s.pk (s.lv+c.sl)) (b3:=c.words) (W:=put s.W (c.off 2) (i6 c s.W s.p).1);rw[<-M]at C;rw[C];simp only[zG];have I:((i6 c s.W s.p).2.1++(i6 c s.W s.p).1).length=c.sl.toNat:=by rw[bD];omega
  rw[bn V1 V1];obtain⟨u1,u2⟩:=w1.tk h;unfold Cx.tk;rw[ta (by rw[I];exact K) u1 u2];simp only[zG];rw[Zl,cf,show((c.X.length:Int)).toNat-0=c.X.length by omega,List.drop_zero,show((c.off 9:Nat):Int)=c.tk from rfl,Kn (ii:=1) (i:=1) h (w1.put h (by rw[I];exact K)) rfl V1 ZN];simp only[zG];rw[ad (n:=s.p+1) V1,ad (n:=s.c1+1) V1];rfl
 rw[zA a8,zF a8];simp only[zD,zG];by_cases a5:a=5
 .subst a5;rw[zB (show(5:Int)=5 from rfl)];simp only[zC,aB,zD,reduceIte];by_cases e:n≠0
  .rw[zE e,zB e];rfl
  rw[zF e,zA e];simp only[zD,zG];by_cases d:0<=s.q
  .rw[zE d,zB d];rfl
  rw[zF d,zA d];simp only[zD,zG];by_cases u:s.p≠s.L
  .rw[zE u,zA u];rfl
  rw[zF u,zB (show s.p=s.L by omega)];simp only[BEq.rfl,aB,zD,zG,cb];rw[aX6 h D g1 J.1 V1 g3];simp only[zG];rw[ad (n:=s.c2+1) V1,ad (n:=s.c3+1) V1];rfl
 rw[zA a5,zF a5];simp only[zD,Bool.not_false,zC];by_cases a9:a=9
 .subst a9;rw[zA (show¬((9:Int)≠9)from λk=>k rfl)];simp only[reduceIte];by_cases e:n≠0
  .rw[zE e,zB e];rfl
  rw[zF e,zA e];simp only[zD,zG];by_cases E:s.q<1
  .rw[zE E,zB E];rfl
  rw[zF E,zA E];simp only[zD,zG,cb];have y:lH s=s.q:=by unfold lH;rw[Zh]
  have A:(s.q-1).toNat<c.ns.toNat:=by omega
  have M:s.q-1=(((s.q-1).toNat:Nat):Int):=by omega
  obtain⟨s1,s2,K,s4⟩:=Fa h H A;obtain⟨b1,b2,b3,b4,b5,b6⟩:=Jw h H D A;rw[ad (n:=s.q-1) V1];have C:=SZ h H A (a0:=c.fixed) (a1:=c.tp) (a4:=c.ns) (a5:=c.mode) (a6:=c.R) (a7:=c.Q) (a8:=c.len) (a9:=c.words) (a10:=s.L) (a11:=s.q-1) (a12:=s.q-1) (a13:=s.c0) (a14:=s.c1) (a15:=s.c2) (a16:=s.c3) (a17:=s.z) (X:=c.X) (T:=c.T) (l:=c.l) (k:=c.k) (b0:=c.tk) (b1:=s.lv) (b2:=s.pk) (b3:=c.words) (W:=s.W);rw[<-M]at C;rw[C];simp only[zG]
  have hrd:dj (Cg c (s.q-1).toNat:Int) c.sl c.tk s.W=O (0,xP c s.W (s.q-1).toNat++Cb c s.W (s.q-1).toNat):=by
   have:=zr (W:=s.W) (o:=Cg c (s.q-1).toNat) (n:=c.sl.toNat) K t1 t2;rw[aD V1,b1]at this;exact this
  rw[hrd];simp only[zG];generalize (s.q-1).toNat=i at*;have F:(xP c s.W i++Cb c s.W i).length=c.fl.n+c.R.toNat:=by rw[bD];omega
  have hwr:IntKind.i64.wrap (((xP c s.W i++Cb c s.W i).length:Int)-c.R)=(c.fl.n:Int):=by rw[F,Zi];omega
  simp only[hwr];rw[Zl,cf,Zl,cf,RQ (ii:=5) (i:=5) h D rfl V1];simp only[zG];have l5:(seg s.W (c.off 5) c.X.length).length=c.X.length:=fY (D.in' h (i:=5) V1);rw[show c.sz 5=c.X.length from rfl,KJ nR V1];simp only[zG];rw[FG h.pl,h.pl.writes];simp only[zG];rw[zA (show¬((0:Int)≠0)by simp),zD];rw[zA (show¬((((((xP c s.W i++Cb c s.W i).length:Int)).toNat-((c.fl.n:Int)).toNat:Nat):Int)≠c.R)by omega),zD,zA (show¬(((fill c.R (seg s.W (c.off 5) c.X.length)).length:Int)≠c.R)by omega),zD,zA (show¬(((((c.fl.n:Int)).toNat-0:Nat):Int)<(c.fl.n:Int))by omega),zD];obtain⟨z0,z1,z2,z3,z4,z5,z6,z7,hz⟩:=UC h.pl (e0:=0) (e1:=0) (t:=xP c s.W i) (r:=Cb c s.W i) (a:=fill c.R (seg s.W (c.off 5) c.X.length)) (w:=xP c s.W i++Cb c s.W i) b3 b4 (Nat.le_of_eq b2.symm) V1 (by rw[F,b2])
  rw[hz];simp only[zG];have eK:jZ c.fl (Cb c s.W i) (fill c.R (seg s.W (c.off 5) c.X.length)) (xP c s.W i)=Lp c s.W i:=rfl;rw[eK];generalize Lp c s.W i=v at*;obtain⟨v1,v2,v3⟩:=nN h (a:=v.2.1) D V1 V1;rw[Kn (ii:=4) (i:=4) h D rfl V1 V6];simp only[zG];rw[Zl,cf,show((c.X.length:Int)).toNat-0=c.X.length by omega,List.drop_zero,Kn (ii:=5) (i:=5) h v1 rfl V1 (by rw[cB,show c.sz 5=c.X.length from rfl];omega)];simp only[zG];rw[RQ (ii:=6) (i:=6) h v2 rfl V1];simp only[zG];rw[show c.sz 6=c.T.length from rfl];have hg:(seg (put (put s.W (c.off 4) v.2.1) (c.off 5) (v.2.1.take c.X.length)) (c.off 6) c.T.length).length=c.T.length:=fY (v2.in' h (i:=6) V1);rw[Hu (f:=sS c.X v.2.1 _) (X:=c.X) (a:=v.2.1) (g:=seg (put (put s.W (c.off 4) v.2.1) (c.off 5) (v.2.1.take c.X.length)) (c.off 6) c.T.length) V1 V1 V1 (λs=>rfl)]
  simp only[zG];rw[Kn (ii:=6) (i:=6) h v2 rfl V1 (by rw[BT,hg];exact Nat.le_refl _)];simp only[zG];have Z:(xP c s.W i++v.1).length=c.fl.n+c.R.toNat:=by rw[bD];omega
  rw[ad (n:=(c.fl.n:Int)+(c.X.length:Int)) V1,Zl,cf,show((c.fl.n:Int)+(c.X.length:Int)).toNat-((c.fl.n:Int)).toNat=c.X.length by omega,Int.toNat_natCast];have V:(xP c s.W i++v.1).drop c.fl.n=v.1:=List.drop_left' b2;rw[V];have eB:put (put (put s.W (c.off 4) v.2.1) (c.off 5) (v.2.1.take c.X.length)) (c.off 6) (PB c.X.length (seg (put (put s.W (c.off 4) v.2.1) (c.off 5) (v.2.1.take c.X.length)) (c.off 6) c.T.length) v.2.1)=DA c s.W v.2.1:=rfl;rw[eB,Kn (ii:=1) (i:=1) h v3 rfl V1 ZN];simp only[zG];rw[vE V1 (g6 (by rw[y];omega)) J.1 V1];simp only[zG];rw[ad (n:=s.c3+1) V1];rfl
 rw[zF a9,zB a9];by_cases e:n≠0
 .rw[zB e];rfl
 .rw[zA e];rfl
def do1 (h:c.Ok)(d:c.mode=3)(hi:InvB c s)(g:Ec B s)(e:B<=2305843009213693952){a n:Int}:
  pI a n c.fixed c.tp c.sl c.ns c.mode c.R c.Q c.len c.words s.L s.p s.q s.c0 s.c1 s.c2 s.c3 s.z c.X c.T c.l c.k c.P c.tk s.lv s.pk c.words s.W=O (aM4 c (Gb c a n s)):=by
 unfold pI gb;simp only[zG];rw[zB d,zC,plain1 h d hi g e];rfl
end
end
section
open Int renaming le_refl -> aB, mul_comm -> bB
open List renaming getElem?_replicate -> cB
open Nat renaming le_refl -> aD, zero_add -> bD
def XY {x t:Nat}{R:Int}{k:List bz}{n:Int}(u:OpsOk l)(g:OpsOk k)(h:(eo m x t R l Q k n b).2.2.2.2=0):
  mO m x t R l Q k n b=0/\∃e,eo m x t R l Q k n b=(rZ x t R Q,ri m l k,rh m x R l,e,0)/\(0<=e/\e<=1048576)/\rZ x t R Q+ri m l k+rh m x R l*e<=b/\(m=3->e=n):=by
 unfold eo at h⊢;by_cases d:mO m x t R l Q k n b≠0
 .rw[zE d]at h;exact(d h).elim
 rw[zF d]at h⊢;have d:mO m x t R l Q k n b=0:=by omega
 have s:=MS u g d;have f:=zO u g d;have D:=f.mode;have E:=f.len;have F:=f.bud;have H:=s.xs;have I:=s.ts;have J:=s.r;have K:=s.r';have M:=s.tp;have N:=s.sl;have C:0<=rZ x t R Q/\rZ x t R Q<=1000:=by unfold rZ;omega
 split at h
 .cases h
 rename_i c;rw[zF c];refine⟨d,_,rfl, ?_, ?_,λv=>zE v⟩
 .split
  .omega
  .rename_i c3;unfold least at c;rw[zF c3]at c;have A:(b-rZ x t R Q-ri m l k) / rh m x R l<=b-rZ x t R Q-ri m l k:=Int.ediv_le_self _ V1;have y:0<=(b-rZ x t R Q-ri m l k) / rh m x R l:=Int.ediv_nonneg V1 V1;omega
 .unfold least at c;split
  .rename_i c3;rw[zE c3,bB]at c;omega
  .rename_i c3;rw[zF c3]at c;have:=Int.mul_ediv_self_le (x:=b-rZ x t R Q-ri m l k) (k:=rh m x R l) V1;omega
def bi1 {R:Int}{k:List bz}{n:Int}(u:OpsOk l)(g:OpsOk k)(h:(eo m (dt X) (dt T) R l Q k n b).2.2.2.2=0):
  ∃c:Cx,c.Ok/\c.mode=m/\c.X=X/\c.T=T/\c.R=R/\c.l=l/\c.Q=Q/\c.k=k/\c.len=n/\c.words=b/\eo m (dt X) (dt T) R l Q k n b=(c.fixed,c.tp,c.sl,c.ns,0):=by
 have⟨v,ns,C,D,E,F⟩:=XY u g h;have⟨H,I⟩:=XW (Of v).1;have⟨A,e⟩:=ai3 u H;have⟨y,d⟩:=ai3 g I;exact⟨⟨m,R,Q,n,b,X,T,l,k,A,y,rZ (dt X) (dt T) R Q,ri m l k,rh m (dt X) R l,ns⟩,⟨u,g,v,e,d,rfl,rfl,rfl,D,E,F⟩,rfl,rfl,rfl,rfl,rfl,rfl,rfl,rfl,rfl,C⟩
section
variable {c:Cx}
def Cx.Ok.plan (h:c.Ok):eo c.mode (dt c.X) (dt c.T) c.R c.l c.Q c.k c.len c.words=(c.fixed,c.tp,c.sl,c.ns,0)->gA c.mode c.X c.T c.R c.l c.Q c.k c.len c.words=O (c.fixed,c.tp,c.sl,c.ns,0):=λe=>by
 rw[B8 h.hl h.hk,e]
def az4 (h:c.Ok): ∀i,i<10->pre [((dt c.T:Nat):Int),((dt c.X:Nat):Int),c.R,c.Q,max c.R c.Q,((dt c.X:Nat):Int),((dt c.T:Nat):Int),c.tp,c.sl*c.ns] i=(c.off i:Int):=by
 have n:=h.num;have v:=n.R;have u:=n.Q;have nm:=n.mul;have e:0<=c.tp:=by rw[n.tp];split<;>omega
 have d: ∀i,i<9->([((dt c.T:Nat):Int),((dt c.X:Nat):Int),c.R,c.Q,max c.R c.Q,((dt c.X:Nat):Int),((dt c.T:Nat):Int),c.tp,c.sl*c.ns]:Zd).getD i 0=(c.sz i:Int):=λi hi=>by
  rcases(show i=0∨i=1∨i=2∨i=3∨i=4∨i=5∨i=6∨i=7∨i=8 by omega)with rfl|rfl|rfl|rfl|rfl|rfl|rfl|rfl|rfl
  .rfl
  .rfl
  .show c.R=(eL c.R:Int);omega
  .show c.Q=(eL c.Q:Int);omega
  .show max c.R c.Q=((max (eL c.R) (eL c.Q):Nat):Int);omega
  .rfl
  .rfl
  .show c.tp=(eL c.tp:Int);omega
  .show c.sl*c.ns=(eL (c.sl*c.ns):Int);omega
 intro i;induction i with
 |zero=>intro _;rfl
 |succ i g=>
  intro hi;simp only[pre];rw[g V1,d i V1];show(c.off i:Int)+(c.sz i:Int)=((c.off i+c.sz i:Nat):Int);omega
def UB (h:c.Ok)(e:eo c.mode c.X.length c.T.length c.R c.l c.Q c.k c.len c.words=(c.fixed,c.tp,c.sl,c.ns,0)):vN c.mode c.X c.T c.R c.l c.Q c.k c.len c.words=O (0,c.P):=by
 have s:=MS h.hl h.hk h.hc;have g:SFacts c.X.length c.T.length c.R c.Q c.tp c.sl:=by rw[h.tp,h.sl];exact s
 unfold vN;rw[h.plan e];simp only[zG];rw[zA V2,zD,Mq h.hl h.hk h.hc];simp only[zG];have d:=UR (n:=c.ns) g h.ns;rw[<-h.tp,<-h.sl,Sx d];simp only[zG]
 congr 2
 unfold Cx.P;apply List.map_congr_left;intro i hi;exact az4 h i (List.mem_range.1 hi)
def N0 (h:dt l<=4096):fJ l=O l:=by
 unfold fJ;rw[bn V1 V1]
def wJ {l:Zd}(h:dt l<=1048576):ak l=O l:=by
 unfold ak;rw[bn V1 V1]
def H1 (h:c.Ok)(e:eo c.mode (dt c.X) (dt c.T) c.R c.l c.Q c.k c.len c.words=(c.fixed,c.tp,c.sl,c.ns,0)):
  rI c.mode c.X c.T c.R c.l c.Q c.k c.len c.words=O (.inr (c.fixed,c.tp,c.sl,c.ns,c.mode,c.R,c.Q,c.len,c.words,c.len,c.X,c.T,c.l,c.k,c.P)):=by
 have n:=h.num;have g:=n.x;have d:=n.t;unfold rI;rw[h.plan e,zG,zA V2,zD,N0 h.hl.len,N0 h.hk.len,wJ V1,wJ V1,zG,UB h e];rfl
def ag2 (c:Cx)(W:Zd):Zd:=put (put W (c.off 0) c.T) (c.off 1) c.X
def new1 (c:Cx):Dy:=⟨c.len,0,-1,0,0,0,0,0,c.fixed,c.fixed,ag2 c (gD (eL c.words))⟩
def new2 (c:Cx):Dy:=⟨c.len,0,-1,0,0,0,0,0,c.fixed,c.fixed,ag2 c (put (gD (eL c.words)) (c.off 8) (gD (eL (c.sl*c.ns))))⟩
def Cj :Wd c (gD (eL c.words)):=dg _
def wN (h:c.Ok):0<=c.fixed/\c.fixed<=c.words/\1<=c.fixed/\c.fixed=(c.off 7:Int):=by
 have n:=h.num;have v:=n.R;have u:=n.Q;have e:=n.fixed;have nm:=n.mul;have g:=h.fit;have d:0<=c.tp:=by rw[n.tp];split<;>omega
 refine⟨V1,V1,V1, ?_⟩;rw[aX2,e];omega
def HT (h:c.Ok)(e:Wd c W):Wd c (put W (c.off 0) c.T)/\Wd c (ag2 c W)/\gw c W (ag2 c W):=by
 have y:=oN (c:=c) (i:=0) (j:=9) V1;have A:=oN (c:=c) (i:=1) (j:=9) V1;have u:c.sz 0=dt c.T:=rfl;have v:c.sz 1=dt c.X:=rfl;have d:=e.put h (w:=c.T) (o:=c.off 0) V1;have g:=d.put h (w:=c.X) (o:=c.off 1) V1;exact⟨d,g,gw.put h (gw.put h (gw.refl W) e (i:=0) V1 (Nat.le_of_eq u.symm)) d (i:=1) V1 (Nat.le_of_eq v.symm)⟩
def NU (h:c.Ok):wh c.words=O (gD (eL c.words)):=by
 have f:=wN h;have n:=h.num;have d:=n.words;unfold wh rF;rw[Ze,zD,Ze,zD,zG,zA V2,zD,Xy V1];rfl
def Ot (h:c.Ok):Aw c.words=O (0,0,c.words):=by
 have n:=h.num;have d:=n.words;unfold Aw pZ;rw[zA (show¬(0:Int)<0 by omega),zA (show¬c.words<0 by omega)];rfl
def FW {n:Nat}(h:o+n<=dt W)(d:dt W<=1048576):da (n:Int) (o:Int) W=O ((o:Int),0,((o+n:Nat):Int)):=by
 unfold da sH;rw[Ze,zD,zG,ad (n:=(dt W:Int)-o) V1,Ze,zD,ad (n:=(o:Int)+n) V1]
 congr 2
def bg4 (h:c.Ok)(y:c.mode=3)(e:eo c.mode c.X.length c.T.length c.R c.l c.Q c.k c.len c.words=(c.fixed,c.tp,c.sl,c.ns,0)):
  sT c.mode c.X c.T c.R c.l c.Q c.k c.len c.words=O (.inr (.inl (c.fixed,c.tp,c.sl,c.ns,c.mode,c.R,c.Q,c.len,c.words,c.len,c.X,c.T,c.l,c.k,c.P,c.tk,c.fixed,c.fixed,c.words,(new1 c).W))):=by
 have f:=wN h;have n:=h.num;have D:=n.words;have nm:=n.mul;have C:=h.off9_le;have v:c.off 9=c.off 8+(c.sl*c.ns).toNat:=NG;have g:(gD c.words.toNat).length=c.words.toNat:=dg _;obtain⟨A,E,F⟩:=HT h (Cj (c:=c));unfold sT;rw[H1 h e];simp only[zG,cb];rw[NU h,Ot h];simp only[zG];rw[qD V1 V1 V1 V1];simp only[zG];rw[show ix 8 c.P.length=O 8 from br (k:=8) Z9];simp only[zG];rw[Cx.P_get (show 8<10 by omega)];simp only[zG];rw[show da (c.off 8:Int) 0 (gD c.words.toNat)=O (((0:Nat):Int),0,((0+c.off 8:Nat):Int))from FW (o:=0) (n:=c.off 8) (by rw[bD,g];omega) V1];unfold gb;simp only[zG];rw[zB y,zC,bB,ad (n:=c.sl*c.ns) V1,show c.sl*c.ns=((c.sl*c.ns).toNat:Int)by omega,FW V1 V1]
 simp only[zG,gi];have d:((0+c.off 8+(c.sl*c.ns).toNat:Nat):Int)=c.tk:=by unfold Cx.tk;omega
 rw[d,Kn (ii:=0) (i:=0) h Cj rfl V1 (aD _)];simp only[zG];rw[Kn (ii:=1) (i:=1) h A rfl V1 (aD _)];simp only[zG];have u:(0:Int)+c.fixed=c.fixed:=by omega
 have em:max (0:Int) c.fixed=c.fixed:=by omega
 rw[u,em];rfl
def aU2 (h:c.Ok)(y:c.mode≠3)(e:eo c.mode c.X.length c.T.length c.R c.l c.Q c.k c.len c.words=(c.fixed,c.tp,c.sl,c.ns,0)):
  sT c.mode c.X c.T c.R c.l c.Q c.k c.len c.words=O (.inr (.inr (c.fixed,c.tp,c.sl,c.ns,c.mode,c.R,c.Q,c.len,c.words,c.len,c.X,c.T,c.l,c.k,c.P,c.tk,(c.off 8:Int),c.ns,(c.X.length:Int),c.fixed,c.fixed,c.words,(new2 c).W))):=by
 have f:=wN h;have n:=h.num;have H:=n.words;have nm:=n.mul;have I:=n.x;have D:=h.ns;have F:=h.off9_le;have C:c.off 9=c.off 8+(c.sl*c.ns).toNat:=NG;have v:(gD c.words.toNat).length=c.words.toNat:=dg _;have d:=n.sl;rw[zF y]at d;have w0:Wd c (put (gD c.words.toNat) (c.off 8) (gD (c.sl*c.ns).toNat)):=(Cj (c:=c)).put h Z6;obtain⟨E,J,K⟩:=HT h w0;unfold sT;rw[H1 h e];simp only[zG,cb];rw[NU h,Ot h];simp only[zG];rw[qD V1 V1 V1 V1];simp only[zG];rw[show ix 8 c.P.length=O 8 from br (k:=8) Z9];simp only[zG];rw[Cx.P_get (show 8<10 by omega)];simp only[zG];rw[show da (c.off 8:Int) 0 (gD c.words.toNat)=O (((0:Nat):Int),0,((0+c.off 8:Nat):Int))from FW (o:=0) (n:=c.off 8) (by rw[bD,v];omega) V1];unfold gb
 simp only[zG];rw[zA y,zD];unfold Ei mj ey;rw[zB (show 0<=c.ns by omega),zB (show c.ns<=1048576 by omega),zB (show 1<=(c.X.length:Int)by omega),zB (show(c.X.length:Int)<=64 by omega)];simp only[zC,zD,Bool.not_true,zG];rw[ad (n:=(c.X.length:Int)+1) V1,<-d,bB c.ns,ad (n:=c.sl*c.ns) V1];have g:c.sl*c.ns=(((c.sl*c.ns).toNat:Nat):Int):=by omega
 rw[show da (c.sl*c.ns) ((0+c.off 8:Nat):Int) (gD c.words.toNat)=O (((0+c.off 8:Nat):Int),0,((0+c.off 8+(c.sl*c.ns).toNat:Nat):Int))from by
  conv=>lhs;rw[g]
  exact FW V1 V1]
 simp only[zG];rw[zA V2,zD,Xy V1,show List.replicate (c.sl*c.ns).toNat (0:Int)=gD (c.sl*c.ns).toNat from rfl,ta (by rw[dg];exact aD _) V1 V1,bD];simp only[zG,cb];have u:((c.off 8+(c.sl*c.ns).toNat:Nat):Int)=c.tk:=by unfold Cx.tk;omega
 rw[u,I7 (ii:=0) (i:=0) h w0 rfl V1 (aD _)];simp only[zG];rw[I7 (ii:=1) (i:=1) h E rfl V1 (aD _)];simp only[zG];have A:(0:Int)+c.fixed=c.fixed:=by omega
 have em:max (0:Int) c.fixed=c.fixed:=by omega
 rw[A,em];rfl
def ag0 (h:c.Ok)(e:c.mode=3):InvB c (new1 c):=by
 have f:=wN h;have n:=h.num;have g:=n.len;refine⟨(HT h Cj).2.1,rfl,⟨aB _,by show 0<=c.len;omega⟩,⟨by show(-1:Int)<= -1;omega,by show(-1:Int)<=c.len;omega⟩,λd=> ?_, ?_,⟨aB _,f.2.1⟩⟩
 .have d:(0:Int)<= -1:=d;omega
 .show c.fixed=c.fixed+c.sl*0;omega
def Mj (h:c.Ok)(g:c.mode≠3)(e:k<eL c.ns):iG c (new2 c).W k=0:=by
 have v:=h.off9_le;have y:=h.num.words;have d:c.off 9=c.off 8+eL (c.sl*c.ns):=NG;have w0:Wd c (put (gD (eL c.words)) (c.off 8) (gD (eL (c.sl*c.ns)))):=(Cj (c:=c)).put h Z6;have⟨C,D,u⟩:=HT h w0;show iG c (ag2 c _) k=0;rw[u.tag];have⟨A,_,_⟩:=xO h g e;unfold iG rg;rw[Int.toNat_natCast,List.getD_eq_getElem?_getD,Qp (by rw[dg,dg];omega)];unfold gD;split
 .rw[cB];split<;>rfl
 .rw[cB];split<;>rfl
def ag1 (h:c.Ok)(e:c.mode≠3):Inv c (new2 c):=by
 have f:=wN h;have n:=h.num;have y:=n.len;have A:=n.words;have v:=h.off9_le;have g:c.off 9=c.off 8+eL (c.sl*c.ns):=NG;have w0:Wd c (put (gD (eL c.words)) (c.off 8) (gD (eL (c.sl*c.ns)))):=(Cj (c:=c)).put h Z6
 have u:iW c (new2 c).W=0:=by
  unfold iW;rw[List.countP_eq_zero];intro k d;rw[Mj h e (List.mem_range.1 d)];decide
 refine⟨(HT h w0).2.1,⟨by show 0<=c.len;omega,by show c.len<=65535;omega⟩,⟨aB _,by show 0<=c.len;omega⟩,⟨by show(-1:Int)<= -1;omega,by show(-1:Int)<=c.len;omega⟩,λk d=> ?_, ?_,⟨aB _,f.2.1⟩⟩
 .rw[Mj h e d];exact⟨aB _,by show(0:Int)<=c.len+1;omega⟩
 .rw[u];show c.fixed=c.fixed+c.sl*0;omega
end
end
end Go.V
