/- A part of the proof. No condition. -/
import Derived.Test.YtlaofmfngnkldaaGreatL2
set_option linter.all false
namespace Go.V
open Go.Ab
open Option renaming some->O,none->Z
open Bool renaming true->Za,false->Zb
open Decidable renaming decide->Zc
open List renaming mem_range->aH
open List renaming length->b8
open Int renaming toNat->b9
open Option renaming bind->bA
variable {T W X a r t w x:Zd}{L Q a0 a1 a10 a11 a12 a13 a14 a15 a16 a2 a3 a4 a5 a6 a7 a8 a9 bd c0 c1 c2 c3 i0 ii lv p pk q sb sn sx z:Int}{l:List cg}{i j k o:Nat}
set_option maxRecDepth 100000
section
open Go.IntKind renaming wrap->zH,i64->zI,u64->zJ
def wO (f:Nat->Int): ∀{j:Nat},j<8->List.getD [f 0,f 1,f 2,f 3,f 4,f 5,f 6,f 7] j 0=f j
 |0,_=>rfl
 |1,_=>rfl
 |2,_=>rfl
 |3,_=>rfl
 |4,_=>rfl
 |5,_=>rfl
 |6,_=>rfl
 |7,_=>rfl
 |n+8,h=>by omega
def app (o:cg)(x y:Int):Int:=
 if o.1=1 then zH zJ (x+y)else if o.1=2 then zH zJ (x-y)else if o.1=3 then zH zJ (x*y)else if o.1=4 then zH zJ (0-x)else if o.1=5 then o.2.2.2.2 else if o.1=6 then x else 0
def Hk (o:cg)(x y:Int):pu o.1 o.2.1 o.2.2.1 o.2.2.2.1 o.2.2.2.2 x y=O (app o x y):=by
 unfold pu app;simp only[ap]
 repeat' split
 all_goals rfl
def PZ (R:Nat)(o:cg):Prop:=(0<=o.2.1/\o.2.1<R)/\(0<=o.2.2.1/\o.2.2.1<R)/\0<=o.2.2.2.1/\o.2.2.2.1<R
def zt {R:Nat}{o:cg}(h:PZ R o): ∃d a b:Nat,o.2.1=d/\o.2.2.1=a/\o.2.2.2.1=b/\d<R/\a<R/\b<R:=by
 unfold PZ at h;exact⟨b9 o.2.1,b9 o.2.2.1,b9 o.2.2.2.1,V1,V1,V1,V1,V1,V1⟩
def rg (r:Zd)(k:Int):Int:=r.getD (b9 k) 0
theorem jd (h:k<b8 r):r[k]?=O (rg r (k:Int)):=by
 unfold rg
 grind
abbrev TS :=Zd×Zd×Nat
def iK (o:cg)(s:TS):TS:=(s.1.set (b9 o.2.1)<|app o (rg s.1 o.2.2.1)<|rg s.1 o.2.2.2.1,s.2.1.set s.2.2<|rg s.1 o.2.1,s.2.2+1)
def VdT (R N m:Nat)(s:TS):Prop:=b8 s.1=R/\b8 s.2.1=N/\s.2.2+m<=N
def stT (p d:Nat)(l:Nat->Int)(s:TS):Int×Int×Int×Zd×Zd×Int×Int×Int×Int×Int×Int×Int×Int:=
 ((p:Int),(s.2.2:Int),(d:Int),s.1,s.2.1,l 0,l 1,l 2,l 3,l 4,l 5,l 6,l 7)
def jh {code:List tS}{p:Nat}{x:tS}(b:b8 code<=8192)(h:code[p]?=O x):p<b8 code/\ix (p:Int) (b8 code)=O p:=by
 have:=(List.getElem?_eq_some_iff.1 h).1;exact⟨this,bq this⟩
def Yh {code:List tS}(y:code.length<=8192){R N:Nat}(hN:N<=1000000):Runs (kS code) code stT iK (VdT R N) (PZ R)where
 op:=by
  intro p d l s m o C h K v b A;obtain⟨B,g⟩:=jh y h;obtain⟨F,D,E,H,I,J,g1,g2,g3⟩:=zt K;obtain⟨V,Y,v3⟩:=A;refine⟨?_,by unfold iK;exact⟨by simp[V],by simp[Y],by show s.2.2+1+m<=N;omega⟩⟩;unfold stT iK;simp only[kS];rw[Ze,zD,g];simp only[zG];rw[h];simp only[zG,co];rw[Ze,zD,Ze,zD];simp only[Hk,zG];rw[H,I,J,bq (show F<s.1.length by omega)];simp only[zG];rw[jd (show F<s.1.length by omega)];simp only[zG];rw[bq (show s.2.2<s.2.1.length by omega)];simp only[zG];rw[jd (show s.2.2<s.2.1.length by omega)];simp only[zG];rw[bq (show D<s.1.length by omega)];simp only[zG];rw[jd (show D<s.1.length by omega)];simp only[zG];rw[bq (show E<s.1.length by omega)];simp only[zG];rw[jd (show E<s.1.length by omega)]
  simp only[zG];rw[ad (n:=(p:Int)+1) V1,ad (n:=(s.2.2:Int)+1) V1];rfl
 rep:=by
  intro p d l s m o C h v b A;obtain⟨B,g⟩:=jh y h;unfold stT;simp only[kS];rw[Ze,zD,g];simp only[zG];rw[h];simp only[zG,co];rw[zB v,zC,bq b];simp only[zG];rw[ad (n:=(p:Int)+1) V1,ad (n:=(d:Int)+1) V1];rfl
 nxt:=by
  intro p d l s m e C h v b M U A;obtain⟨B,g⟩:=jh y h;have u:=wO (upd l d<|l d-1) b;rw[mW]at u;unfold upd at u;unfold stT;simp only[kS];rw[Ze,zD,g];simp only[zG];rw[h];simp only[zG,co];rw[Ze,zD,zB v,zC,ad (n:=((d+1:Nat):Int)-1) V1,show((d+1:Nat):Int)-1=(d:Int)by omega,bq b];simp only[zG];rw[wO l b,Zj,u,Zf,zC];rfl
 out:=by
  intro p d l s m e C h v b M A;obtain⟨B,g⟩:=jh y h;have u:=wO (upd l d<|l d-1) b;rw[mW]at u;unfold upd at u;unfold stT;simp only[kS];rw[Ze,zD,g];simp only[zG];rw[h];simp only[zG,co];rw[Ze,zD,zB v,zC,ad (n:=((d+1:Nat):Int)-1) V1,show((d+1:Nat):Int)-1=(d:Int)by omega,bq b];simp only[zG];rw[wO l b,Zj,u,Ze,zD,ad (n:=(p:Int)+1) V1];rfl
abbrev FS :=Zd×Nat
def JT (o:cg)(s:FS):FS:=(s.1.set (b9 o.2.1)<|app o (rg s.1 o.2.2.1)<|rg s.1 o.2.2.2.1,s.2+1)
def VdF (R M m:Nat)(s:FS):Prop:=b8 s.1=R/\s.2+m<=M
def stF (p d:Nat)(l:Nat->Int)(s:FS):Int×Int×Int×Zd×Int×Int×Int×Int×Int×Int×Int×Int:=
 ((p:Int),(s.2:Int),(d:Int),s.1,l 0,l 1,l 2,l 3,l 4,l 5,l 6,l 7)
def an3 {code:List tS}(y:code.length<=8192){R M:Nat}(hM:M<=1000000):Runs (iQ (-1) code) code stF JT (VdF R M) (PZ R)where
 op:=by
  intro p d l s m o C h K v b A;obtain⟨B,g⟩:=jh y h;obtain⟨F,D,E,H,I,J,Y,g2,g3⟩:=zt K;obtain⟨V,v2⟩:=A;refine⟨?_,by unfold JT;exact⟨by simp[V],by show s.2+1+m<=M;omega⟩⟩;unfold stF JT;simp only[iQ];rw[zA (show¬((p:Int)=(code.length:Int))by omega),zD,zA (show¬((s.2:Int)= -1)by omega),zD,g];simp only[zG];rw[h];simp only[zG,co];rw[Ze,zD,Ze,zD];simp only[Hk,wj,zG];rw[H,I,J,bq (show D<s.1.length by omega)];simp only[zG];rw[jd (show D<s.1.length by omega)];simp only[zG];rw[bq (show E<s.1.length by omega)];simp only[zG];rw[jd (show E<s.1.length by omega)];simp only[zG];rw[bq (show F<s.1.length by omega)];simp only[zG];rw[jd (show F<s.1.length by omega)];simp only[zG]
  rw[ad (n:=(p:Int)+1) V1,ad (n:=(s.2:Int)+1) V1];rfl
 rep:=by
  intro p d l s m o C h v b A;obtain⟨B,g⟩:=jh y h;unfold stF;simp only[iQ];rw[zA (show¬((p:Int)=(code.length:Int))by omega),zD,zA (show¬((s.2:Int)= -1)by omega),zD,g];simp only[zG];rw[h];simp only[zG,co];rw[zB v,zC,bq b];simp only[zG];rw[ad (n:=(p:Int)+1) V1,ad (n:=(d:Int)+1) V1];rfl
 nxt:=by
  intro p d l s m e C h v b N U A;obtain⟨B,g⟩:=jh y h;have u:=wO (upd l d<|l d-1) b;rw[mW]at u;unfold upd at u;unfold stF;simp only[iQ];rw[zA (show¬((p:Int)=(code.length:Int))by omega),zD,zA (show¬((s.2:Int)= -1)by omega),zD,g];simp only[zG];rw[h];simp only[zG,co];rw[Ze,zD,zB v,zC,ad (n:=((d+1:Nat):Int)-1) V1,show((d+1:Nat):Int)-1=(d:Int)by omega,bq b];simp only[zG];rw[wO l b,Zj,u,Zf,zC];rfl
 out:=by
  intro p d l s m e C h v b N A;obtain⟨B,g⟩:=jh y h;have u:=wO (upd l d<|l d-1) b;rw[mW]at u;unfold upd at u;unfold stF;simp only[iQ];rw[zA (show¬((p:Int)=(code.length:Int))by omega),zD,zA (show¬((s.2:Int)= -1)by omega),zD,g];simp only[zG];rw[h];simp only[zG,co];rw[Ze,zD,zB v,zC,ad (n:=((d+1:Nat):Int)-1) V1,show((d+1:Nat):Int)-1=(d:Int)by omega,bq b];simp only[zG];rw[wO l b,Zj,u,Ze,zD,ad (n:=(p:Int)+1) V1];rfl
def Wy (o:cg)(x y:Int):Int×Int:=
 if o.1=1 then(1,1)else if o.1=2 then(1,18446744073709551615)else if o.1=3 then(y,x)else if o.1=4 then(18446744073709551615,0)else if o.1=6 then(1,0)else(0,0)
def C5 (o:cg)(x y:Int):lP o.1 o.2.1 o.2.2.1 o.2.2.2.1 o.2.2.2.2 x y=O (Wy o x y):=by
 unfold lP Wy;simp only[ap]
 repeat' split
 all_goals rfl
def Dk (o:cg)(r a:Zd)(t:Int):Zd×Zd:=
 let g:=rg a o.2.1
 let b:=r.set (b9 o.2.1) t
 let a1:=a.set (b9 o.2.1) 0
 let q:=Wy o (rg b o.2.2.1) (rg b o.2.2.2.1)
 let a2:=a1.set (b9 o.2.2.1) (zH zJ<|rg a1 o.2.2.1+zH zJ (q.1*g))
 (b,a2.set (b9 o.2.2.2.1)<|zH zJ<|rg a2 o.2.2.2.1+zH zJ (q.2*g))
def U7 {o:cg}{n:Nat}(E:PZ r.length o)(J:a.length=r.length)(u:n<t.length):
  nL o.1 o.2.1 o.2.2.1 o.2.2.2.1 o.2.2.2.2 (n:Int) r a t=O (Dk o r a<|rg t (n:Int)):=by
 obtain⟨b,e,g,v,y,A,h,F,H⟩:=zt E;unfold nL;simp only[C5,zG];unfold Dk;simp only[v,y,A,Int.toNat_natCast];rw[bq (show b<a.length by omega)];simp only[zG];rw[jd (show b<a.length by omega)];simp only[zG];rw[bq u];simp only[zG];rw[jd u];simp only[zG];rw[bq h];simp only[zG];rw[jd h];simp only[zG];have d: ∀x:Int,(r.set b x).length=r.length:=by simp
 have D:(a.set b 0).length=a.length:=by simp
 rw[bq (show e<(r.set b<|rg t (n:Int)).length by rw[d];omega)];simp only[zG];rw[jd (show e<(r.set b<|rg t (n:Int)).length by rw[d];omega)];simp only[zG];rw[bq (show g<(r.set b<|rg t (n:Int)).length by rw[d];omega)];simp only[zG];rw[jd (show g<(r.set b<|rg t (n:Int)).length by rw[d];omega)];simp only[zG];rw[bq (show e<(a.set b 0).length by omega)];simp only[zG];rw[jd (show e<(a.set b 0).length by omega)];simp only[zG];generalize I:Wy o _ _=P;generalize B:(a.set b 0).set e _=A2;have C:A2.length=a.length:=by rw[<-B];simp
 rw[bq (show g<A2.length by omega)];simp only[zG];rw[jd (show g<A2.length by omega)];simp only[zG]
abbrev BS :=Zd×Zd×Nat
def qs (t:Zd)(o:cg)(s:BS):BS:=((Dk o s.1 s.2.1<|rg t ((s.2.2-1:Nat):Int)).1,(Dk o s.1 s.2.1<|rg t ((s.2.2-1:Nat):Int)).2,s.2.2-1)
def VdB (R N m:Nat)(s:BS):Prop:=b8 s.1=R/\b8 s.2.1=R/\m<=s.2.2/\s.2.2<=N
def stB (p d:Nat)(l:Nat->Int)(s:BS):Int×Int×Int×Zd×Zd×Int×Int×Int×Int×Int×Int×Int×Int:=
 ((p:Int)-1,(d:Int),(s.2.2:Int),s.1,s.2.1,l 0,l 1,l 2,l 3,l 4,l 5,l 6,l 7)
def Hn (o:cg)(r a:Zd)(t:Int):b8 (Dk o r a t).1=b8 r/\b8 (Dk o r a t).2=b8 a:=by
 unfold Dk;simp
def aY6 {code:List tS}(A:code.length<=8192){R:Nat}(Y:t.length<=1000000):Backs (gx t code) code stB (qs t) (VdB R t.length) (PZ R)where
 op:=by
  intro p d l s m o y h H v b B;obtain⟨C,g⟩:=jh A h;obtain⟨E,U,v3,v4⟩:=B;obtain⟨M,N⟩:=Hn o s.1 s.2.1<|rg t ((s.2.2-1:Nat):Int);refine⟨?_,by unfold qs;exact⟨by simp[E,M],by simp[U,N],by show m<=s.2.2-1;omega,by show s.2.2-1<=_;omega⟩⟩;unfold stB qs;simp only[gx];rw[show((p+1:Nat):Int)-1=(p:Int)by omega,Ze,zD,g];simp only[zG];rw[h];simp only[zG,co];rw[Ze,zD,Ze,zD,ad (n:=(s.2.2:Int)-1) V1,show(s.2.2:Int)-1=((s.2.2-1:Nat):Int)by omega,U7 (by rw[E];exact H) V1 V1];simp only[zG];rw[ad (n:=(p:Int)-1) V1]
 rep:=by
  intro p q d l s m o e y h v D b B;obtain⟨C,g⟩:=jh A h;obtain⟨V,F⟩:=jh A D;unfold stB;simp only[gx];rw[show((p+1:Nat):Int)-1=(p:Int)by omega,Ze,zD,g];simp only[zG];rw[h];simp only[zG,co];rw[zB v,zC,ad (n:=((q+1:Nat):Int)-1) V1,show((q+1:Nat):Int)-1=(q:Int)by omega,F];simp only[zG];rw[D];simp only[zG,co];rw[bq b];simp only[zG];rw[ad (n:=(p:Int)-1) V1,ad (n:=(d:Int)+1) V1];rfl
 nxt:=by
  intro p d l s m o y h K v b I J B;obtain⟨C,g⟩:=jh A h;have u:=wO (upd l d<|l d-1) b;rw[mW]at u;unfold upd at u;unfold stB;simp only[gx];rw[show((p+1:Nat):Int)-1=(p:Int)by omega,Ze,zD,g];simp only[zG];rw[h];simp only[zG,co];rw[Ze,zD,zB v,zC,ad (n:=((d+1:Nat):Int)-1) V1,show((d+1:Nat):Int)-1=(d:Int)by omega,bq b];simp only[zG];rw[wO l b,Zj,u,Zf,zC];rw[ad (n:=((y+1:Nat):Int)-2) V1,show((y+1:Nat):Int)-2=(y:Int)-1 by omega];rfl
 out:=by
  intro p d l s m o y h v b I B;obtain⟨C,g⟩:=jh A h;have u:=wO (upd l d<|l d-1) b;rw[mW]at u;unfold upd at u;unfold stB;simp only[gx];rw[show((p+1:Nat):Int)-1=(p:Int)by omega,Ze,zD,g];simp only[zG];rw[h];simp only[zG,co];rw[Ze,zD,zB v,zC,ad (n:=((d+1:Nat):Int)-1) V1,show((d+1:Nat):Int)-1=(d:Int)by omega,bq b];simp only[zG];rw[wO l b,Zj,u,Ze,zD,ad (n:=(p:Int)-1) V1];rfl
end
section
open Bool renaming and_eq_true->bD,not_eq_true'->cB
open List renaming getElem?_append_right->aD,append_assoc->cD
open Nat renaming le_refl->aB,sub_self->bB
theorem aY7 {w v c:Int}{n:Nat}(h:yQ w v=O c)(d:0<=v)(e:w=(n:Int)):c=((n*b9 v:Nat):Int):=by
 have b:((b9 v:Nat):Int)=v:=Int.toNat_of_nonneg d;rw[Int.natCast_mul,b,<-e];unfold yQ at h
 grind
def aH9 (l:List cg)(m S:Zd):Prop:=b8 m=b8 l/\b8 S=b8 l/\∀(A B:List cg) (o e:cg) (b:Fo),l=A++o::(b.src++e::B)->b.Ok->o.1=7->e.1=0->
 m[b8 A]?=O ((b8 A+1+b.len:Nat):Int)/\S[b8 A]?=O ((b.n*yK o:Nat):Int)
theorem ba8 {m S R:Zd}(H:MOK l m)(V:b8 S=b8 l)(J: ∀o∈l,Np o)(h: ∀j,j<b8 l->∃a b,S[j]?=O a/\R[j]?=O b/\aL0 l j a b):aH9 l m S:=by
 refine⟨H.len,V,λA B o e b v y I E=> ?_⟩;have F:b8 l=b8 A+1+(b.len+(b8 B+1)):=by rw[v];simp[Fo.src_len];omega
 have g:b8 A<b8 l:=by omega
 have d:l[b8 A]=o:=by
  grind
 have D:l.drop (b8 A+1)=b.src++e::B:=by rw[v,List.drop_append,List.drop_of_length_le V1,show b8 A+1-b8 A=1 by omega];rfl
 refine⟨?_, ?_⟩
 .have:=H.at' (b8 A) g (by rw[d];exact I) b.src e B D E<|Fo.scan0 y;rw[Fo.src_len]at this;exact this
 have⟨a,c,M,h2,N⟩:=h (b8 A) g;have⟨U,C⟩:=(N g).1 (by rw[d];exact I) b.src e B D E<|Fo.scan0 y;have u: ∀x∈b.src,0<=x.2.2.2.2:=λx Y=>(J x (by rw[v];simp[Y])).1
 have K:=Fo.Q9_n b y u U;rw[d]at C;rw[M,aY7 C (J o (by rw[v];simp)).1 K];rfl
section
variable {l:List cg} {m S:Zd} {em es:Int}
def aZ8 {op:Zd}{out:List tS}(g:b8 l<=8192)(h:b8 out<=8192){x:cg}(d:l[i]?=O x)(e:0<x.1/\x.1<7):
  gq l (em,m) (es,S) ((i:Int),op,out)=O (.inl (((i+1:Nat):Int),op,out++[co x 0])):=by
 have⟨hi,b⟩:=List.getElem?_eq_some_iff.1 d;simp only[gq];rw[zB (show(i:Int)<(b8 l:Int)by omega),zC,cz hi,b,zG,zA (show¬x.1=7 by omega),zA (show¬x.1=0 by omega)];simp only[zD,zG,di];rw[bu V1 V1,Zi];rfl
def ax0 {op:Zd}{out:List tS}(A:b8 l<=8192){x:cg}(v:l[i]?=O x)(u:x.1=7)(g:S[i]?=O 0)(e:m[i]?=O (j:Int))(y:j<=8192):
  gq l (em,m) (es,S) ((i:Int),op,out)=O (.inl (((j+1:Nat):Int),op,out)):=by
 have⟨hi,h⟩:=List.getElem?_eq_some_iff.1 v;have⟨b,_⟩:=List.getElem?_eq_some_iff.1 g;have⟨d,_⟩:=List.getElem?_eq_some_iff.1 e;simp only[gq];rw[zB (show(i:Int)<(b8 l:Int)by omega),zC,cz hi,h,zG,zB u];simp only[zC];rw[bq b,zG,g];simp only[zG,ll];rw[decide_true,zC,bq d,zG,e];simp only[zG,ll];rw[Zi];rfl
def aw9 {n:Int}{op:Zd}{out:List tS}(v:b8 l<=8192)(y:b8 out<=8192)(A:b8 op<=8192){x:cg}(u:l[i]?=O x)(g:x.1=7)(d:S[i]?=O n)(h:n≠0):
  gq l (em,m) (es,S) ((i:Int),op,out)=O (.inl (((i+1:Nat):Int),op++[(b8 out:Int)],out++[co x 0])):=by
 have⟨hi,e⟩:=List.getElem?_eq_some_iff.1 u;have⟨b,_⟩:=List.getElem?_eq_some_iff.1 d;simp only[gq];rw[zB (show(i:Int)<(b8 l:Int)by omega),zC,cz hi,e,zG,zB g];simp only[zC];rw[bq b,zG,d];simp only[zG,ll];rw[zA h,zD,bu V1 V1];simp only[zG,ll,di];rw[bu V1 V1,Zi];rfl
theorem ac4 {q:Nat}{op:Zd}{out:List tS}{o:cg}{t:Nat}(y:b8 l<=8192)(A:b8 out<=8192)(B:b8 op<=8192){x:cg}(v:l[i]?=O x)(u:x.1=0)(g:out[q]?=O (co o t)):
  gq l (em,m) (es,S) ((i:Int),op++[(q:Int)],out)=O (.inl (((i+1:Nat):Int),op,out.set q (co o<|b8 out+1)++[co x<|q+1])):=by
 have⟨hi,h⟩:=List.getElem?_eq_some_iff.1 v;have⟨b,_⟩:=List.getElem?_eq_some_iff.1 g;have e:b8 (op++[(q:Int)])=b8 op+1:=by simp
 simp only[gq];rw[zB (show(i:Int)<(b8 l:Int)by omega),zC,cz hi,h,zG,zA (show¬x.1=7 by omega),zB u];simp only[zD,zC,zG,di];rw[ad (n:=(b8 (op++[(q:Int)]):Int)-1) V1,show(b8 (op++[(q:Int)]):Int)-1=(b8 op:Int)by omega,bq (show b8 op<(b8<|op++[(q:Int)]) by omega),zG,aD<|aB _,bB];simp only[List.getElem?_cons_zero,zG];rw[Zk,dj,bq b,zG,g,zG,bu V4 V1];simp only[zG,ll,di]
 have d:(op++[(q:Int)]).take (b9 (b8 op:Int)-0)=op:=by
  simp_all
 rw[d,ad (n:=(i:Int)+1) V1,ad (n:=(b8 out:Int)+1) V1,ad (n:=(q:Int)+1) V1];rfl
theorem Lu (g:b8 l<=8192)(y:aH9 l m S): ∀(f:Fo) (A B:List cg) (op:Zd) (out:List tS),l=A++f.src++B->f.Ok->b8 op<=b8 A->b8 out<=b8 A->
  ∃k,k<=f.len/\Reach (gq l (em,m) (es,S)) k ((b8 A:Int),op,out) (((b8 A+f.len:Nat):Int),op,out++f.bare.code (b8 out))
 | .nil,A,B,op,out,d,_,_,_=>by
  refine⟨0,aB _, ?_⟩;simp only[Fo.bare,Fo.code,Fo.len,List.append_nil,Nat.add_zero];exact Reach.refl
 | .op o r,A,B,op,out,d,F,hp,ho=>by
  have K:b8 (A++[o])=b8 A+1:=by simp
  have V:b8 l=b8 A+(r.len+1)+b8 B:=by rw[d];simp[Fo.src,Fo.src_len];omega
  have H:l[b8 A]?=O o:=by rw[d,cD,aD<|aB _,bB];rfl
  have⟨k,I,D⟩:=Lu g y r (A++[o]) B op (out++[co o 0]) ZI F.2 V1 V4;refine⟨1+k,by simp only[Fo.len];omega, ?_⟩;have E:=(Reach.one<|aZ8 (em:=em) (es:=es) (op:=op) (out:=out) g V1 H F.1).trans (show Reach _ k _ _ from by rw[K]at D;exact D);simp only[Fo.bare,Fo.code,Fo.len]
  grind
 | .rep o b e r,A,B,op,out,d,F,hp,ho=>by
  have⟨⟨I,D⟩,k3,k4⟩:=F;have V:b8 l=b8 A+(b.len+r.len+2)+b8 B:=by rw[d];simp[Fo.src,Fo.src_len];omega
  have H:l[b8 A]?=O o:=by rw[d,cD,aD<|aB _,bB];rfl
  have⟨hm,N⟩:=y.2.2 A (r.src++B) o e b ZI k3 I D;have M:b8 (A++o::b.src)=b8 A+1+b.len:=by simp[Fo.src_len];omega
  have Y:l[b8 A+1+b.len]?=O e:=by
   rw[show l=(A++o::b.src)++(e::(r.src++B))by rw[d];simp[Fo.src],<-M,aD<|aB _,bB];rfl
  have h:b8 (A++o::(b.src++[e]))=b8 A+1+b.len+1:=by simp[Fo.src_len];omega
  simp only[Fo.bare,Fo.len];by_cases hz:b.n*yK o=0
  .rw[zE hz];rw[hz]at N;have⟨k,g1,v⟩:=Lu g y r (A++o::(b.src++[e])) B op out ZI k4 V1 V1;refine⟨1+k,V1, ?_⟩;have E:=(Reach.one<|ax0 (em:=em) (es:=es) (op:=op) (out:=out) g H I N hm V1).trans (show Reach _ k _ _ from by rw[h]at v;exact v)
   grind
  .rw[zF hz];have K:b8 (A++[o])=b8 A+1:=by simp
   have⟨kb,b1,b2⟩:=Lu g y b (A++[o]) (e::(r.src++B)) (op++[(b8 out:Int)]) (out++[co o 0]) ZI k3 V4 V4;rw[K]at b2;have hbl:=b.bare_len;have hrl:=r.bare_len;have u:b8 (out++[co o 0]++b.bare.code (b8<|out++[co o 0]))=b8 out+1+b.bare.len:=by simp[Fo.code_len];omega
   have hq:(out++[co o 0]++b.bare.code (b8<|out++[co o 0]))[b8 out]?=O (co o 0):=by
    grind
   have J:=ac4 (em:=em) (es:=es) (m:=m) (S:=S) (op:=op) g V1 V1 Y D hq;rw[u]at J
   have C:(out++[co o 0]++b.bare.code (b8<|out++[co o 0])).set (b8 out) (co o<|b8 out+1+b.bare.len+1)=out++co o (b8 out+1+b.bare.len+1)::b.bare.code (b8 out+1):=by
    simp_all
   rw[C]at J;have⟨k,g1,v⟩:=Lu g y r (A++o::(b.src++[e])) B op (out++co o (b8 out+1+b.bare.len+1)::b.bare.code (b8 out+1)++[co e<|b8 out+1]) ZI k4 V1 (by rw[h];simp[Fo.code_len];omega);rw[h]at v;refine⟨1+kb+1+k,V1, ?_⟩;have E:=(((Reach.one<|aw9 (em:=em) (es:=es) (m:=m) (op:=op) (out:=out) g V1 V1 H I N V1).trans b2).trans<|Reach.one J).trans v;rw[show b8 A+(b.len+r.len+2)=b8 A+1+b.len+1+r.len by omega]
   have e1:out++co o (b8 out+1+b.bare.len+1)::b.bare.code (b8 out+1)++[co e<|b8 out+1]++r.bare.code (b8<|out++co o (b8 out+1+b.bare.len+1)::b.bare.code (b8 out+1)++[co e<|b8 out+1])=out++(Fo.rep o b.bare e r.bare).code (b8 out):=by
    have U:b8 (out++co o (b8 out+1+b.bare.len+1)::b.bare.code (b8 out+1)++[co e<|b8 out+1])=b8 out+b.bare.len+2:=by simp[Fo.code_len];omega
    rw[U];simp only[Fo.code]
    grind
   rw[e1]at E;exact E
end
def Nu :BB l=bA (kQ l) λr=>O (r.2.1,r.2.2.1):=rfl
def XA {R:Int}(h:Cy R l=0):MN l=0/\Kd R l=0/\Ke l=0/\Kf l=0:=by
 unfold Cy at h;omega
structure Prg (R:Int)(l:List cg)(f:Fo):Prop where
 ops:OpsOk l
 ok:f.Ok
 src:f.src=l
 z:Cy R l=0
 R1:1<=R/\R<=64
 deep:f.hi<=8
 n:f.n<=65536
 w:eg l=((f.n:Int),0)
 regs: ∀o∈l,0<o.1/\o.1<7->PZ (b9 R) o
theorem aj7 {R:Int}(h:OpsOk l)(H:Cy R l=0): ∃f,Prg R l f:=by
 have⟨D,E,I,J⟩:=XA H
 have e:Jg l=Za:=by
  unfold MN at D;split at D
  .assumption
  omega
 have g:Hs R l=Za:=by
  unfold Kd at E;split at E
  .assumption
  omega
 unfold Jg at e;rw[bD,decide_eq_true_eq,cB]at e;have⟨hs,Y⟩:=e;unfold Hs at g;rw[bD,decide_eq_true_eq,cB]at g;have⟨M,U⟩:=g;have⟨f,y,u⟩:=Fo.parse _ l (aB _) hs
 have V: ∃t,Q9 l=O t/\t<=65536:=by
  unfold Kf eg at J
  grind
 have⟨t,ht,N⟩:=V;have hn:t=(f.n:Int):=Fo.Q9_n f y (λx hx=>(h.v x<|u▸hx).1) (by rw[u];exact ht);refine⟨f,h,y,u,H,M, ?_,V1, ?_,λo F C=> ?_⟩
 .have K:=Fo.hi_le y;rw[u]at K;unfold Ke Ll at I
  grind
 .unfold eg
  grind
 have A:=List.any_eq_false.1 Y o F;have B:=List.any_eq_false.1 U o F;have A:uE o=Za:=by simpa using A
 have B:P9 R o=Zb:=by simpa using B
 have⟨k,d,a,b,v⟩:=o;have C:k=1∨k=2∨k=3∨k=4∨k=5∨k=6:=by simp only at C;omega
 unfold PZ
 rcases C with rfl|rfl|rfl|rfl|rfl|rfl<;>
  .simp[uE,Dl,cw]at A;simp[P9,cw]at B;simp only;omega
def AY {R:Int}{f:Fo}(b:Prg R l f):lN R l=O (0,f.bare.code 0):=by
 unfold lN;rw[Ng b.ops];simp only[zG];rw[b.z,zA V2,zD];have J:=b.ops.len;have D:cf l 0=O 0:=by rw[<-b.src];exact Fo.scan0 b.ok
 obtain⟨m,A,y⟩:=JN (l:=l) V1 D;obtain⟨r,C,M,N,e⟩:=Qq (l:=l) V1 b.ops.v;rw[A,Nu,C];simp only[zG];have E:=b.w;rcases e with⟨e,_⟩|⟨_,_,H,U,I⟩
 .rw[E]at e;exact(e rfl).elim
 have u:=ba8 y H (λo B=>b.ops.v o B) I;obtain⟨k,K,F⟩:=Lu (em:=0) (es:=r.2.1) V1 u f [] [] [] [] (by simp[b.src]) b.ok V2 V2;have g:f.len=l.length:=by rw[<-Fo.src_len,b.src]
 have h:=F<|18446744073709551616-k;rw[show 18446744073709551616-k+k=fy by unfold fy;omega,show 18446744073709551616-k=(18446744073709551615-k)+1 by omega]at h
 have d:aq (gq l (0,m) (r.2.1,r.2.2.1)) fy ((0:Int),([]:Zd),([]:List tS))=O (f.bare.code 0):=by
  refine h.trans ?_;rw[dp];simp only[gq];rw[zA (by rw[g];simp),zD];rfl
 rw[d];rfl
end
section
open List renaming replicate->aB
def Bg {α γ:Type}{g:α->Option (α⊕γ)}{s d:α}{c:γ}(h:Reach g k s d)(u:k<=1000000000)(e:g d=O (.inr c)):aq g fy s=O c:=by
 have b:=h<|18446744073709551616-k;rw[show 18446744073709551616-k+k=fy by unfold fy;omega,show 18446744073709551616-k=(18446744073709551615-k)+1 by omega]at b;refine b.trans ?_;rw[dp,e];rfl
section
variable {R:Int} {l:List cg} {f:Fo}
def Prg.len (h:Prg R l f):f.len<=4096:=by
 have:=h.ops.len;rw[<-Fo.src_len,h.src];exact this
def Prg.clen (h:Prg R l f):b8 (f.bare.code 0)<=8192:=by
 have b:=h.len;have d:=f.bare_len;rw[Fo.code_len];omega
def Prg.steps (h:Prg R l f):f.bare.steps<=1000000000:=by
 have b:=Fo.steps_le f.bare f.bare_pos;rw[Fo.bare_n]at b;have e:=h.len;have g:=f.bare_len;have d:=h.n;have u:(2*f.bare.len+1)*f.n<=8193*65536:=Nat.mul_le_mul V1 d;omega
def Prg.good (h:Prg R l f): ∀o∈f.bare.src,(0<o.1/\o.1<7->PZ (b9 R) o)/\Np o:=λo b=>by
 have:=Fo.bare_mem f b;rw[h.src]at this;exact⟨h.regs o this,h.ops.v o this⟩
def Prg.hi (h:Prg R l f):0+f.bare.hi<=8:=by
 have b:=h.deep;have d:=f.bare_hi;omega
def Prg.writes (h:Prg R l f):gK l=O ((f.n:Int),0):=by
 rw[vW (by have:=h.ops.len;omega) h.ops.v,h.w]
def aJ0 (R:Nat)(o:cg):Prop:=0<o.1/\o.1<7->PZ R o
def ON {σ γ S:Type}{g:σ->Option (σ⊕γ)}{code:List tS}{st:Nat->Nat->(Nat->Int)->S->σ}{b:cg->S->S}{Vd:Nat->S->Prop}{R:Nat}(h:Runs g code st b Vd<|PZ R):Runs g code st b Vd<|aJ0 R:=
 ⟨λe u d v y=>h.op e (u d) d v y,h.rep,h.nxt,h.out⟩
def K2 {σ γ S:Type}{g:σ->Option (σ⊕γ)}{code:List tS}{st:Nat->Nat->(Nat->Int)->S->σ}{b:cg->S->S}{Vd:Nat->S->Prop}{R:Nat}(h:Backs g code st b Vd<|PZ R):Backs g code st b Vd<|aJ0 R:=
 ⟨λe u d v y=>h.op e (u d) d v y,h.rep,h.nxt,h.out⟩
def sj (f:Fo)(r t:Zd):TS:=pn iK f.unroll (r,t,0)
def Yp (h:Prg R l f)(y:b8 r=b9 R)(C:f.n<=b8 t)(u:b8 t<=1000000):
  zd (f.bare.code 0) r t=O (((sj f r t).2.2:Int),(sj f r t).1,(sj f r t).2.1)/\b8 (sj f r t).1=b9 R/\b8 (sj f r t).2.1=b8 t:=by
 have⟨b,_,v,g⟩:=IJ (m:=0) (l:=λ_=>0) (s:=((r,t,0):TS)) (d:=0) (p:=0) (A:=[]) (B:=[]) (ON<|Yh (R:=b9 R) (N:=b8 t) h.clen u) f.bare V2 rfl (Fo.bare_ok f h.ok) f.bare_pos h.hi h.good ⟨y,rfl,by rw[Fo.bare_n];show 0+(f.n+0)<=_;omega⟩;rw[Fo.bare_unroll]at v g;refine⟨?_,g.1,g.2.1⟩;unfold zd
 have:=Bg v h.steps (c:=(((sj f r t).2.2:Int),(sj f r t).1,(sj f r t).2.1,b 0,b 1,b 2,b 3,b 4,b 5,b 6,b 7)) (by
  unfold stT;simp only[kS];rw[zB Zr,zC]
  rfl)
 have e:stT 0 0 (λ_=>0) ((r,t,0):TS)=(0,0,0,r,t,0,0,0,0,0,0,0,0):=rfl;rw[e]at this;rw[this];rfl
def sf (h:Prg R l f)(u:b8 r=b9 R)(v:f.n<=b8 t)(b:b8 t<=1000000):
  mq R l r t=O (((sj f r t).2.2:Int),0,(sj f r t).1,(sj f r t).2.1)/\b8 (sj f r t).1=b9 R/\b8 (sj f r t).2.1=b8 t:=by
 have⟨d,e,g⟩:=Yp h u v b;refine⟨?_,e,g⟩;unfold mq BC;rw[AY h,h.writes];have y:=h.R1;simp only[zG];rw[zA (show¬((0:Int)≠0)by simp),zD,zA (show¬((b8 r:Int)≠R)by omega),zD,zA (show¬((b8 t:Int)<(f.n:Int))by omega),zD,zG,zA (show¬((0:Int)≠0)by simp),zD,d];rfl
def Hx (f:Fo)(r:Zd):Zd:=(pn JT f.unroll (r,0)).1
def PV (h:Prg R l f)(v:b8 r=b9 R):sD (-1) (f.bare.code 0) r=O (Hx f r)/\b8 (Hx f r)=b9 R:=by
 have⟨b,_,g,u⟩:=IJ (m:=0) (l:=λ_=>0) (s:=((r,0):FS)) (d:=0) (p:=0) (A:=[]) (B:=[]) (ON<|an3 (R:=b9 R) (M:=65536) h.clen V1) f.bare V2 rfl (Fo.bare_ok f h.ok) f.bare_pos h.hi h.good ⟨v,by rw[Fo.bare_n];show 0+(f.n+0)<=_;have:=h.n;omega⟩;rw[Fo.bare_unroll]at g u;refine⟨?_,u.1⟩;unfold sD
 have:=Bg g h.steps (c:=(Hx f r,b 0,b 1,b 2,b 3,b 4,b 5,b 6,b 7)) (by
  unfold stF;simp only[iQ];rw[zB Zr,zC]
  rfl)
 have e:stF 0 0 (λ_=>0) ((r,0):FS)=(0,0,0,r,0,0,0,0,0,0,0,0):=rfl;rw[e]at this;rw[this];rfl
def fill (R:Int)(r:Zd):Zd:=r++aB (b9 R-b8 r) 0
theorem iA {R:Int}(h:b8 r<=b9 R):b8 (fill R r)=b9 R:=by
 unfold fill
 grind
def Xe {R:Int}(h:b8 r<=b9 R):GP (aB (b9 R) (0:Int)) 0 (b8<|aB (b9 R) (0:Int)) r=fill R r:=by
 unfold GP fill;rw[List.length_replicate,List.take_zero,List.nil_append,Nat.zero_add,Nat.min_eq_right h,List.take_of_length_le h,List.drop_replicate]
theorem RN (h:Prg R l f)(b:b8 r<=b9 R):oG R l r=O (0,Hx f<|fill R r)/\b8 (Hx f<|fill R r)=b9 R:=by
 have⟨e,d⟩:=PV h<|iA b;refine⟨?_,d⟩;have g:=h.R1;unfold oG wk;rw[AY h,zG,zA (show¬((0:Int)≠0)by simp),zD,zA (show¬(R<(b8 r:Int))by omega),zD,zB (show 0<=R by omega),zB (show R<=R by omega),zB (show 8*R<=140737488355328 by omega),Xe b];show((gd Za _).bind _)=_;rw[dj]
 grind
def jV (f:Fo)(r a t:Zd):BS:=CS (qs t) f.unroll (r,a,f.n)
def U6 (h:Prg R l f)(D:b8 r=b9 R)(y:b8 a=b9 R)(E:f.n<=b8 t)(u:b8 t<=1000000):
  nK (f.n:Int) r a t (f.bare.code 0)=O ((jV f r a t).1,(jV f r a t).2.1)/\b8 (jV f r a t).1=b9 R/\b8 (jV f r a t).2.1=b9 R:=by
 have⟨b,_,v,g⟩:=GO (m:=0) (l:=λ_=>0) (s:=((r,a,f.n):BS)) (d:=0) (p:=0) (A:=[]) (B:=[]) (K2<|aY6 (R:=b9 R) (t:=t) h.clen u) f.bare V2 rfl (Fo.bare_ok f h.ok) f.bare_pos h.hi h.good ⟨D,y,by rw[Fo.bare_n];exact Nat.le_refl _,E⟩;rw[Fo.bare_unroll]at v g;refine⟨?_,g.1,g.2.1⟩;unfold nK;have C:=h.clen;rw[Fo.code_len]at C
 have:=Bg v h.steps (c:=((jV f r a t).1,(jV f r a t).2.1,b 0,b 1,b 2,b 3,b 4,b 5,b 6,b 7)) (by
  unfold stB;simp only[gx];rw[Zf,zC]
  rfl)
 have e:stB (0+f.bare.len) 0 (λ_=>0) ((r,a,f.n):BS)=(IntKind.i64.wrap<|(b8 (f.bare.code 0):Int)-1,0,(f.n:Int),r,a,0,0,0,0,0,0,0,0):=by
  unfold stB;rw[Fo.code_len,Zi,Nat.zero_add];rfl
 rw[e]at this;rw[this];rfl
def pV (h:Prg R l f)(v:r.length=R.toNat)(u:a.length=R.toNat)(y:f.n<=t.length)(b:t.length<=1000000):
  nJ R l r a t=O (0,(jV f r a t).1,(jV f r a t).2.1)/\(jV f r a t).1.length=R.toNat/\(jV f r a t).2.1.length=R.toNat:=by
 obtain⟨d,e,g⟩:=U6 h v u y b;refine⟨?_,e,g⟩;have A:=h.R1;unfold nJ;rw[AY h,h.writes];simp only[zG];rw[zA (show¬((0:Int)≠0)by simp),zD,zA (show¬((r.length:Int)≠R)by omega),zD,zA (show¬((a.length:Int)≠R)by omega),zD,zA (show¬((t.length:Int)<(f.n:Int))by omega),zD,d];rfl
end
end
section
open List renaming take_length->aB,length_take->aD,ext_getElem?->bB,getElem?_take->bD,getElem_mem->cB
def seg (W:Zd)(o n:Nat):Zd:=(W.drop o).take n
def put (W:Zd)(o:Nat)(w:Zd):Zd:=W.take o++(w++W.drop (o+b8 w))
theorem zR (W:Zd)(o n i:Nat):(seg W o n)[i]?=if i<n then W[o+i]? else Z:=by
 unfold seg
 grind
theorem Hq (h:o+b8 w<=b8 W)(i:Nat):(put W o w)[i]?=if o<=i/\i<o+b8 w then w[i-o]? else W[i]?:=by
 unfold put;have b:b8 (W.take o)=o:=by rw[aD];omega
 grind
theorem fj {n:Nat}(h:o+n<=b8 W):b8 (seg W o n)=n:=by
 unfold seg
 grind
theorem aD7 (h:o+b8 w<=b8 W):b8 (put W o w)=b8 W:=by
 unfold put
 grind
theorem Gh {n:Nat}(h:o+b8 w<=b8 W)(b:n<=b8 w):seg (put W o w) o n=w.take n:=by
 apply bB;intro i;rw[zR,bD,Hq h]
 grind
def tK (h:o+b8 w<=b8 W):seg (put W o w) o (b8 w)=w:=by
 rw[Gh h<|Nat.le_refl _,aB]
def nZ {b n:Nat}(h:o+b8 w<=b8 W)(d:b+n<=o∨o+b8 w<=b):seg (put W o w) b n=seg W b n:=by
 apply bB;intro i;rw[zR,zR];split
 .rw[Hq h,Zh]
 rfl
def al3 (h:o+b8 w<=b8 W)(b:i<o∨o+b8 w<=i):(put W o w)[i]?=W[i]?:=by
 rw[Hq h,Zh]
def Y1 (h:o+b8 w<=b8 W):GP W o (b8 w) w=put W o w:=by
 unfold GP put;rw[aB,Nat.min_self]
def B9 {n tk:Nat}(h:o+n<=tk)(b:tk<=b8 W)(d:b8 W<=1048576):ge (o:Int) (n:Int) (tk:Int) W=O (0,seg W o n):=by
 unfold ge;rw[Ze,zD,Ze,zD,Ze,zD,ad (n:=(tk:Int)-o) V1,Ze,zD,ad (n:=(o:Int)+n) V1,Zk,dj];unfold ak;rw[show(b9<|(o:Int)+n)-b9 (o:Int)=n by omega,show(b9 (o:Int))=o by omega,bu Z9 V1];rfl
theorem W7 {tk:Nat}(h:o<tk)(d:tk<=b8 W)(e:b8 W<=1048576):gX (o:Int) (tk:Int) W=O (rg W (o:Int),0):=by
 unfold gX;rw[Ze,zD,Ze,zD,ad (n:=(tk:Int)-o) V1,Ze,zD,ad (n:=(o:Int)+1) V1,Zk,dj];unfold ak;rw[show(b9<|(o:Int)+1)-b9 (o:Int)=1 by omega,show(b9 (o:Int))=o by omega,bu Z9 V1]
 have b:(W.drop o).take 1=[rg W (o:Int)]:=by
  apply bB;intro i;rw[bD,List.getElem?_drop];rcases Nat.eq_zero_or_pos i with rfl|hi
  .rw[Zg,Nat.add_zero,jd V1];rfl
  grind
 rw[b];rfl
def rQ {tk:Nat}(h:o+b8 w<=tk)(b:tk<=b8 W)(d:b8 W<=1048576):ff (o:Int) w (tk:Int) W=O (0,put W o w):=by
 unfold ff;rw[Ze,zD,Ze,zD,Ze,zD,ad (n:=(tk:Int)-o) V1,Ze,zD,ad (n:=(o:Int)+b8 w) V1,Zk,dj,show(b9<|(o:Int)+b8 w)-b9 (o:Int)=(b8 w) by omega,show(b9 (o:Int))=o by omega,Y1 V1]
def pQ {n:Int}(h:0<=n)(e:0<=lv)(d:lv+n<=bd)(b:bd<=1048576):cy n lv pk bd=O (0,lv+n,max pk<|lv+n,bd):=by
 unfold cy nz kr;rw[Ze,zD,zG,ad (n:=bd-lv) V1,Zf,ad (n:=lv+n) V1];rfl
def uB {n:Int}(h:0<=n)(d:n<=lv)(e:lv<=pk)(b:lv<=1048576):bh n lv pk bd=O (0,lv-n,pk,bd):=by
 unfold bh kr;rw[Ze,zD,Ze,zD,zG,ad (n:=0-n) V1,Zi,show lv+(0-n)=lv-n by omega,Int.max_eq_left V1]
theorem XB (ls:List Zd)(h: ∀l∈ls,b8 l<=100000):b8 ls.flatten<=100000*b8 ls:=by
 induction ls with
 |nil=>simp
 |cons a r b=>
  grind
def OV {ls:List<|Zd}(h:i<b8 ls):(ls.take<|i+1).flatten=(ls.take i).flatten++ls[i]:=by
 rw[List.take_succ_eq_append_getElem h,List.flatten_append];simp
def Yo (ls:List Zd)(h: ∀l∈ls,b8 l<=100000)(b:b8 ls<=1000)(i:Nat):b8 (ls.take i).flatten<=100000000:=by
 have d:=XB (ls.take i) λl b=>h l (List.mem_of_mem_take b)
 rw[aD]at d;omega
theorem NQ {ls:List<|Zd}(h: ∀l∈ls,l.length<=100000)(v:ls.length<=1000):fY ls=O ls.flatten:=by
 have b:=Yo ls h v
 have A:aq (gA ls) fy (0,0)=O (((ls.take ls.length).flatten.length:Nat):Int):=by
  refine iW (n:=ls.length) (λi=>(((ls.take i).flatten.length:Nat):Int)) V1 (λi hi=> ?_) ?_
  .unfold gA;have d:=b i;have g:=h ls[i]<|cB hi;simp only;rw[zB (show(i:Int)<(ls.length:Int)by omega),zC,cz hi];simp only[zG];rw[ad (n:=(((ls.take i).flatten.length:Nat):Int)+((ls[i].length:Nat):Int)) V1,Ze,zD,ad (n:=(i:Int)+1) V1,OV hi,List.length_append];rfl
  unfold gA
  grind
 have e: ∀(f:Int×Zd->Option ((Int×Zd)⊕Zd)),(∀s,f s=cond (Zc<|s.1<((ls.length:Nat):Int)) ((rd ls s.1).bind λx=>gd (fS (s.2.length+x.length) 8)<|O<|.inl (IntKind.i64.wrap<|s.1+1,s.2++x)) (O<|.inr s.2))->
   aq f fy (0,[])=O (ls.take ls.length).flatten:=by
  intro f u;refine iW (n:=ls.length) (λi=>(ls.take i).flatten) V1 (λi hi=> ?_) ?_
  .rw[u];have d:=b i;have g:=h ls[i]<|cB hi;rw[zB (show(i:Int)<(ls.length:Int)by omega),zC,cz hi];simp only[zG];rw[bu V1 V1,ad (n:=(i:Int)+1) V1,OV hi];rfl
  .grind
 unfold fY;rw[A];rw[aB];simp only[zG];have d:=b ls.length;rw[aB]at d;rw[Ze,zD,ad (n:=((ls.flatten.length:Nat):Int)-0) V1,ap];split
 .rw[Int.sub_zero]
  have y:jO 8 ((ls.flatten.length:Nat):Int)=Za:=by
   generalize ls.flatten.length=N at d⊢;unfold jO
   grind
  rw[y,dj,bu (by rw[List.length_replicate];omega) V1,Zk,dj,List.take_zero,e (gB ls) λs=>rfl,aB];rfl
 rw[e (gB ls) λs=>rfl,aB];rfl
end
section
open List renaming length_append->aB,length_replicate->aD
structure Cx where
 mode:Int
 R:Int
 Q:Int
 len:Int
 words:Int
 X:Zd
 T:Zd
 l:List cg
 k:List cg
 fl:Fo
 fk:Fo
 fixed:Int
 tp:Int
 sl:Int
 ns:Int
namespace Cx
def sz (c:Cx):Nat->Nat
 |0=>b8 c.T
 |1=>b8 c.X
 |2=>b9 c.R
 |3=>b9 c.Q
 |4=>max (b9 c.R) (b9 c.Q)
 |5=>b8 c.X
 |6=>b8 c.T
 |7=>b9 c.tp
 |8=>b9 (c.sl*c.ns)
 |_=>0
def off (c:Cx):Nat->Nat
 |0=>0
 |i+1=>c.off i+c.sz i
def P (c:Cx):Zd:=(List.range 10).map λi=>(c.off i:Int)
def tk (c:Cx):Int:=(c.off 9:Int)
structure Ok (c:Cx):Prop where
 hl:OpsOk c.l
 hk:OpsOk c.k
 hc:Ax c.mode (b8 c.X) (b8 c.T) c.R c.l c.Q c.k c.len c.words=0
 pl:Prg c.R c.l c.fl
 pk:Prg c.Q c.k c.fk
 fixed:c.fixed=vM (b8 c.X) (b8 c.T) c.R c.Q
 tp:c.tp=tM c.mode c.l c.k
 sl:c.sl=tL c.mode (b8 c.X) c.R c.l
 ns:0<=c.ns/\c.ns<=1048576
 fit:c.fixed+c.tp+c.sl*c.ns<=c.words
 base:c.mode=3->c.ns=c.len
end Cx
structure Num (c:Cx):Prop where
 mode:1<=c.mode/\c.mode<=3
 R:1<=c.R/\c.R<=64
 Q:1<=c.Q/\c.Q<=64
 x:1<=b8 c.X/\b8 c.X<=64
 t:b8 c.T<=64
 xtR:(b8 c.X:Int)+b8 c.T+1<=c.R
 xtQ:(b8 c.X:Int)+b8 c.T<=c.Q
 len:0<=c.len/\c.len<=65535
 words:0<=c.words/\c.words<=1048576
 n:c.fl.n<=65536
 m:c.fk.n<=65536
 tp:c.tp=(if c.mode=3 then(c.fk.n:Int)else c.fl.n+c.fk.n)
 sl:c.sl=(if c.mode=3 then(c.fl.n:Int)+c.R else b8 c.X+1)
 fixed:c.fixed=2*b8 c.T+2*b8 c.X+c.R+c.Q+max c.R c.Q
 mul:0<=c.sl*c.ns
def EO {m:Int}{x t:Nat}{R:Int}{k:List cg}{n b:Int}(h:Ax m x t R l Q k n b=0):qD R l Q k=0/\zr R Q x t=0:=by
 unfold Ax at h;omega
def X7 {R:Int}{k:List cg}(h:qD R l Q k=0):Cy R l=0/\Cy Q k=0:=by
 unfold qD at h
 repeat' split at h
 all_goals first|(exact absurd h ZZ)|skip
 unfold Cy;constructor
 .repeat' split
  all_goals first|(rename_i c;exact V1)|omega
 repeat' split
 all_goals first|(rename_i c;exact V1)|omega
def NV {R:Int}{x t:Nat}(d:x<=64)(b:t<=64)(h:zr R Q x t=0):(x:Int)+t+1<=R/\(x:Int)+t<=Q:=by
 unfold zr at h;rw[ad (n:=(x:Int)+t) V1,ad (n:=(x:Int)+t+1) V1]at h
 repeat' split at h
 all_goals omega
def Cx.Ok.num {c:Cx}(h:c.Ok):Num c:=by
 have f:=LF h.hl h.hk h.hc;have⟨v,d⟩:=EO h.hc;have⟨e,g⟩:=NV f.xs.2 f.ts d;have b:=h.pl.w;have u:=h.pk.w;have s:=Qp h.hl h.hk h.hc;refine⟨f.mode,f.regs,f.regs',f.xs,f.ts,e,g,f.len,f.bud,h.pl.n,h.pk.n, ?_, ?_, ?_, ?_⟩
 .rw[h.tp];unfold tM;rw[b,u]
 .rw[h.sl];unfold tL;rw[b]
 .rw[h.fixed];unfold vM;rfl
 rw[h.sl];exact(ag4 (by have:=s.sl;omega) h.ns).1
section
variable {c:Cx}
def bm9 :c.off 1=b8 c.T:=Nat.zero_add _
def bn0 :c.off 2=b8 c.T+b8 c.X:=by show c.off 1+_=_;rw[bm9];rfl
def bn1 :c.off 3=b8 c.T+b8 c.X+b9 c.R:=by show c.off 2+_=_;rw[bn0];rfl
def bn2 :c.off 4=b8 c.T+b8 c.X+b9 c.R+b9 c.Q:=by show c.off 3+_=_;rw[bn1];rfl
def bn3 :c.off 5=b8 c.T+b8 c.X+b9 c.R+b9 c.Q+max (b9 c.R) (b9 c.Q):=by show c.off 4+_=_;rw[bn2];rfl
def bn4 :c.off 6=b8 c.T+b8 c.X+b9 c.R+b9 c.Q+max (b9 c.R) (b9 c.Q)+b8 c.X:=by show c.off 5+_=_;rw[bn3];rfl
def bb3 :c.off 7=b8 c.T+b8 c.X+b9 c.R+b9 c.Q+max (b9 c.R) (b9 c.Q)+b8 c.X+b8 c.T:=by show c.off 6+_=_;rw[bn4];rfl
def bn5 :c.off 8=c.off 7+b9 c.tp:=rfl
def Sr :c.off 9=c.off 8+b9 (c.sl*c.ns):=rfl
theorem ah3 (h:i<=j):c.off i<=c.off j:=by
 induction j with
 |zero=>rw[Nat.le_zero.1 h];exact Nat.le_refl _
 |succ j b=>
  rcases Nat.lt_or_ge i (j+1)with h1|h1
  .exact Nat.le_trans (b V1) (Nat.le_add_right _ _)
  grind
def gS (h:i<j):c.off i+c.sz i<=c.off j:=ah3 (c:=c) (i:=i+1) h
def Cx.Ok.off9_le (h:c.Ok):(c.off 9:Int)<=c.words:=by
 have n:=h.num;have e:=n.R;have g:=n.Q;have u:=n.fixed;have b:=n.tp;have v:=n.mul;have y:=h.fit;have d:0<=c.tp:=by rw[b];split<;>omega
 rw[Sr,bn5,bb3];omega
theorem Cx.P_get (h:i<10):c.P[i]?=O (c.off i:Int):=by
 unfold Cx.P
 grind
def Cx.P_len :b8 c.P=10:=by unfold Cx.P;simp
def Wd (c:Cx)(W:Zd):Prop:=b8 W=b9 c.words
def Wd.tk (h:c.Ok)(b:Wd c W):c.off 9<=b8 W/\b8 W<=1048576:=by
 have:=h.off9_le;have:=h.num.words;unfold Wd at b;omega
def Wd.put (h:c.Ok)(b:Wd c W)(d:o+b8 w<=c.off 9):Wd c<|put W o w:=by
 have:=b.tk h;unfold Wd at b⊢;rw[aD7 V1,b]
def RV {k:List cg}(h:c.Ok)(u:Wd c W)(hi:ii=(i:Int))(b:i<9):
  bl ii a0 a1 a2 a3 a4 a5 a6 a7 a8 a9 a10 a11 a12 a13 a14 a15 a16 X T l k c.P c.tk lv pk bd W=O (seg W (c.off i)<|c.sz i):=by
 subst hi;have d:=u.tk h;have g:=gS (c:=c) (i:=i) (j:=9) b;unfold bl;rw[bq (show i<c.P.length by rw[Cx.P_len];omega)];simp only[zG];rw[Cx.P_get (show i<10 by omega)];simp only[zG];rw[ad (n:=(i:Int)+1) V1,show(i:Int)+1=((i+1:Nat):Int)by omega,bq (show i+1<c.P.length by rw[Cx.P_len];omega)];simp only[zG];rw[Cx.P_get (show i+1<10 by omega)];simp only[zG]
 have e:IntKind.i64.wrap ((c.off (i+1):Int)-(c.off i:Int))=(c.sz i:Int):=by
  have:c.off (i+1)=c.off i+c.sz i:=rfl;rw[Zi];omega
 rw[e];unfold Cx.tk;rw[B9 g d.1 d.2];rfl
def put1 {k:List cg}(h:c.Ok)(e:Wd c W)(hi:ii=(i:Int))(b:i<9)(u:b8 w<=c.sz i):
  aj ii w a0 a1 a2 a3 a4 a5 a6 a7 a8 a9 a10 a11 a12 a13 a14 a15 a16 X T l k c.P c.tk lv pk bd W=O (put W (c.off i) w):=by
 subst hi;have d:=e.tk h;have g:=gS (c:=c) (i:=i) (j:=9) b;unfold aj;rw[bq (show i<(b8 c.P) by rw[Cx.P_len];omega),zG,Cx.P_get (show i<10 by omega),zG];unfold Cx.tk;rw[rQ V1 d.1 d.2];rfl
def No {k:List cg}(h:c.Ok)(u:Wd c W)(hi:ii=(i:Int))(b:i<9):
  bg ii a0 a1 a2 a3 a4 a5 a6 a7 a8 a9 a10 a11 a12 a13 a14 a15 a16 X T l k c.P c.tk sb sn sx lv pk bd W=O (seg W (c.off i)<|c.sz i):=by
 subst hi;have d:=u.tk h;have g:=gS (c:=c) (i:=i) (j:=9) b;unfold bg;rw[bq (show i<c.P.length by rw[Cx.P_len];omega)];simp only[zG];rw[Cx.P_get (show i<10 by omega)];simp only[zG];rw[ad (n:=(i:Int)+1) V1,show(i:Int)+1=((i+1:Nat):Int)by omega,bq (show i+1<c.P.length by rw[Cx.P_len];omega)];simp only[zG];rw[Cx.P_get (show i+1<10 by omega)];simp only[zG]
 have e:IntKind.i64.wrap ((c.off (i+1):Int)-(c.off i:Int))=(c.sz i:Int):=by
  have:c.off (i+1)=c.off i+c.sz i:=rfl;rw[Zi];omega
 rw[e];unfold Cx.tk;rw[B9 g d.1 d.2];rfl
def IE {k:List cg}(h:c.Ok)(e:Wd c W)(hi:ii=(i:Int))(b:i<9)(u:b8 w<=c.sz i):
  ai ii w a0 a1 a2 a3 a4 a5 a6 a7 a8 a9 a10 a11 a12 a13 a14 a15 a16 X T l k c.P c.tk sb sn sx lv pk bd W=O (put W (c.off i) w):=by
 subst hi;have d:=e.tk h;have g:=gS (c:=c) (i:=i) (j:=9) b;unfold ai;rw[bq (show i<(b8 c.P) by rw[Cx.P_len];omega),zG,Cx.P_get (show i<10 by omega),zG];unfold Cx.tk;rw[rQ V1 d.1 d.2];rfl
def Kr {R:Int}(d:1<=R/\R<=64)(e:(b8 a:Int)<=R):kD R l a=O (fill R a):=by
 unfold kD ak;rw[bu V1 V1,zG,ad (n:=R-(b8 a:Int)) V1]
 have b:jO 8 (R-(b8 a:Int))=Za:=by
  unfold jO;rw[Zf,Zf,Zf];rfl
 rw[b,dj,bu Z9 V1,show(b9<|R-(b8 a:Int))=b9 R-(b8 a) by omega];rfl
theorem YV {R:Int}{ops:List cg}{more:Zd}{k:List cg}(h:c.Ok)(d:Wd c W)(y:1<=R/\R<=64)(D:(b8 x:Int)+b8 c.T+b8 more<=R):
  io R ops x more a0 a1 a2 a3 a4 a5 a6 a7 a8 a9 a10 a11 a12 a13 a14 a15 a16 X T l k c.P c.tk lv pk bd W=O (fill R<|x++(seg W 0 (b8 c.T)++more)):=by
 have B:=d.tk h;have v:=gS (c:=c) (i:=0) (j:=9) V1;have g:b8 (seg W 0<|b8 c.T)=b8 c.T:=fj ZQ;unfold io;rw[RV (ii:=0) (i:=0) h d rfl V1,zG];have b:seg W (c.off 0) (c.sz 0)=seg W 0 (b8 c.T):=rfl
 rw[b,NQ (λa A=>by
  grind) V2]
 simp only[zG];have e:[x,seg W 0<|b8 c.T,more].flatten=x++(seg W 0 (b8 c.T)++more):=by simp
 have C:b8 (x++(seg W 0 (b8 c.T)++more))=b8 x+b8 c.T+b8 more:=by rw[aB,aB,g];omega
 rw[e];generalize x++(seg W 0 (b8 c.T)++more)=a at*;rw[ad (n:=R-(b8 a:Int)) V1]
 have u:jO 8 (R-(b8 a:Int))=Za:=by
  unfold jO;rw[Zf,Zf,Zf];rfl
 rw[u,dj,bu Z9 V1,show(b9<|R-(b8 a:Int))=b9 R-(b8 a) by omega];rfl
theorem TZ {R:Int}{ops:List cg}{more:Zd}{k:List cg}(h:c.Ok)(d:Wd c W)(y:1<=R/\R<=64)(D:(b8 x:Int)+b8 c.T+b8 more<=R):
  gM R ops x more a0 a1 a2 a3 a4 a5 a6 a7 a8 a9 a10 a11 a12 a13 a14 a15 a16 X T l k c.P c.tk sb sn sx lv pk bd W=O (fill R<|x++(seg W 0 (b8 c.T)++more)):=by
 have B:=d.tk h;have v:=gS (c:=c) (i:=0) (j:=9) V1;have g:b8 (seg W 0<|b8 c.T)=b8 c.T:=fj ZQ;unfold gM;rw[No (ii:=0) (i:=0) h d rfl V1,zG];have b:seg W (c.off 0) (c.sz 0)=seg W 0 (b8 c.T):=rfl
 rw[b,NQ (λa A=>by
  grind) V2]
 simp only[zG];have e:[x,seg W 0<|b8 c.T,more].flatten=x++(seg W 0 (b8 c.T)++more):=by simp
 have C:b8 (x++(seg W 0 (b8 c.T)++more))=b8 x+b8 c.T+b8 more:=by rw[aB,aB,g];omega
 rw[e];generalize x++(seg W 0 (b8 c.T)++more)=a at*;rw[ad (n:=R-(b8 a:Int)) V1]
 have u:jO 8 (R-(b8 a:Int))=Za:=by
  unfold jO;rw[Zf,Zf,Zf];rfl
 rw[u,dj,bu Z9 V1,show(b9<|R-(b8 a:Int))=b9 R-(b8 a) by omega];rfl
end
end
section
open Go.IntKind renaming wrap->zH,i64->zI,u64->zJ
open List renaming range->bB,replicate->bD,length_append->cB,length_take->cD,drop_zero->cV,ext_getElem?->cW
open Nat renaming le_refl->aB,le_of_eq->aD
def XE {β:Type}{n:Int}{y:Option β}(h:0<=n/\n<=1048576):gd (Nat.beq 1 (Sh.w<|.int .u64)&&Zc (0<=n)&&Zc (n<=n)&&Zc ((8:Int)*n<=140737488355328)&&Nat.ble 1 8) y=y:=by
 rw[zB h.1,zB<|Int.le_refl n,Zf];rfl
section
variable {c:Cx}
def Cx.Ok.of (h:c.Ok):ia c.mode c.X c.T c.R c.l c.Q c.k c.len c.words=O ((c.fl.n:Int),(c.fk.n:Int)):=by
 rw[Qe h.hl h.hk,zF (λk=>k h.hc),h.pl.w,h.pk.w]
def zeros (n:Nat):Zd:=bD n 0
def stepR (c:Cx)(W:Zd)(p:Int):TS:=sj c.fl (fill c.R<|seg W (c.off 1) (b8 c.X)++(seg W 0 (b8 c.T)++[zH zJ p]))<|zeros c.fl.n
def lossR (c:Cx)(W x:Zd):TS:=sj c.fk (fill c.Q<|x++(seg W 0 (b8 c.T)++[]))<|zeros c.fk.n
def tv (x:Nat)(g a:Zd):Zd:=(bB<|b8 g).map λ(i:Nat)=>IntKind.u64.wrap<|rg g (i:Int)+rg a ((x+i:Nat):Int)
def ye (c:Cx)(W a:Zd):Zd:=
 put (put (put W (c.off 4) a) (c.off 5)<|a.take<|b8 c.X) (c.off 6) (tv (b8 c.X) (seg (put (put W (c.off 4) a) (c.off 5)<|a.take<|b8 c.X) (c.off 6)<|b8 c.T) a)
def pJ (x:Nat)(g a:Zd):b8 (tv x g a)=b8 g:=by unfold tv;simp
def Wd.in' (h:c.Ok)(b:Wd c W)(hi:i<9):c.off i+c.sz i<=b8 W:=by
 have:=b.tk h;have:=gS (c:=c) (i:=i) (j:=9) hi;omega
theorem GK {g:Zd}{f:Int×Zd->Option ((Int×Zd)⊕Zd)}(I:g.length<=64)(F:X.length<=64)(H:X.length+g.length<=a.length)(B: ∀s,f s=cond (Zc<|s.1<((g.length:Nat):Int))
   ((ix s.1 s.2.length).bind λj=>(s.2[j]?).bind λy=>(ix (zH zI<|((X.length:Nat):Int)+s.1) a.length).bind λC=>(a[C]?).bind λD=>(ix s.1 s.2.length).bind λh=>(s.2[h]?).bind λE=>O<|.inl (zH zI<|s.1+1,s.2.set h<|zH zJ<|y+D))
   (O<|.inr s.2)):aq f fy (0,g)=O (tv X.length g a):=by
 have A: ∀i,((bB g.length).map λ(j:Nat)=>if j<i then zH zJ (rg g (j:Int)+rg a ((X.length+j:Nat):Int))else rg g (j:Int)).length=g.length:=λi=>by simp
 have b: ∀i j,j<g.length->((bB g.length).map λ(j:Nat)=>if j<i then zH zJ (rg g (j:Int)+rg a ((X.length+j:Nat):Int))else rg g (j:Int))[j]?=O (if j<i then zH zJ (rg g (j:Int)+rg a ((X.length+j:Nat):Int))else rg g (j:Int)):=λi j d=>by
  grind
 have u:g=(bB g.length).map λ(j:Nat)=>if j<0 then zH zJ (rg g (j:Int)+rg a ((X.length+j:Nat):Int))else rg g (j:Int):=by
  apply cW;intro j;by_cases d:j<g.length
  .rw[b 0 j d,Zh,jd d]
  grind
 have v:tv X.length g a=(bB g.length).map λ(j:Nat)=>if j<g.length then zH zJ (rg g (j:Int)+rg a ((X.length+j:Nat):Int))else rg g (j:Int):=by
  unfold tv;apply List.map_congr_left
  grind
 rw[v];refine Eq.trans (congrArg (λy=>aq f fy (0,y)) u) ?_;refine iW (n:=g.length) (λi=>(bB g.length).map λ(j:Nat)=>if j<i then zH zJ (rg g (j:Int)+rg a ((X.length+j:Nat):Int))else rg g (j:Int)) V1 (λi hi=> ?_) ?_
 .rw[B];rw[zB (show(i:Int)<((g.length:Nat):Int)by omega),zC,bq (by rw[A];exact hi)];simp only[zG];rw[b i i hi];simp only[zG];rw[zF<|Nat.lt_irrefl i,ad (n:=((X.length:Nat):Int)+(i:Int)) V1,show((X.length:Nat):Int)+(i:Int)=((X.length+i:Nat):Int)by omega,bq (show X.length+i<a.length by omega)];simp only[zG];rw[jd (show X.length+i<a.length by omega)];simp only[zG];rw[ad (n:=(i:Int)+1) V1]
  congr 3
  apply cW;intro j;by_cases d:j<g.length
  .rw[b (i+1) j d];by_cases e:i=j
   .subst e
    grind
   .rw[List.getElem?_set_ne e,b i j d]
    congr 1
    omega
  grind
 .grind
def bw (n:Nat):b8 (zeros n)=n:=List.length_replicate
def jc (h:c.Ok)(d:Wd c W)(p:Int):b8 (fill c.R<|seg W (c.off 1) (b8 c.X)++(seg W 0 (b8 c.T)++[zH zJ p]))=b9 c.R/\b8 (stepR c W p).1=b9 c.R/\b8 (stepR c W p).2.1=c.fl.n:=by
 have n:=h.num;have u:=d.in' h (i:=1) V1;have g:=d.in' h (i:=0) V1;have A:b8 (seg W (c.off 1)<|b8 c.X)=b8 c.X:=fj u;have y:b8 (seg W 0<|b8 c.T)=b8 c.T:=fj g
 have e:b8 (fill c.R<|seg W (c.off 1) (b8 c.X)++(seg W 0 (b8 c.T)++[zH zJ p]))=b9 c.R:=by
  apply iA;rw[cB,cB,A,y];have:=n.xtR;simp;omega
 have⟨_,v,b⟩:=sf h.pl e (t:=zeros c.fl.n) ZB (by rw[bw];have:=n.n;omega);rw[bw]at b;exact⟨e,v,b⟩
def zx (h:c.Ok)(u:Wd c W)(v:b8 x=b8 c.X):b8 (fill c.Q<|x++(seg W 0 (b8 c.T)++[]))=b9 c.Q/\b8 (lossR c W x).1=b9 c.Q/\b8 (lossR c W x).2.1=c.fk.n:=by
 have n:=h.num;have e:=u.in' h (i:=0) V1;have y:b8 (seg W 0<|b8 c.T)=b8 c.T:=fj e
 have d:b8 (fill c.Q<|x++(seg W 0 (b8 c.T)++[]))=b9 c.Q:=by
  apply iA;rw[cB,cB,y,v];have:=n.xtQ;simp;omega
 have⟨_,g,b⟩:=sf h.pk d (t:=zeros c.fk.n) ZB (by rw[bw];have:=n.m;omega);rw[bw]at b;exact⟨d,g,b⟩
def nb (h:c.Ok)(e:Wd c W)(A:b8 c.X+b8 c.T<=b8 a)(g:b8 a<=max (b9 c.R) (b9 c.Q)):
  Wd c (put W (c.off 4) a)/\Wd c (put (put W (c.off 4) a) (c.off 5)<|a.take<|b8 c.X)/\Wd c (ye c W a):=by
 have u:=gS (c:=c) (i:=4) (j:=9) V1;have v:=gS (c:=c) (i:=5) (j:=9) V1;have y:=gS (c:=c) (i:=6) (j:=9) V1;have B:c.sz 4=max (b9 c.R) (b9 c.Q):=rfl;have C:c.sz 5=b8 c.X:=rfl;have D:c.sz 6=b8 c.T:=rfl;have d:=e.put h (w:=a) (o:=c.off 4) V1;have b:=d.put h (w:=a.take<|b8 c.X) (o:=c.off 5) (by rw[cD];omega);refine⟨d,b, ?_⟩;unfold ye;refine b.put h ?_;rw[pJ,fj (n:=b8 c.T)<|b.in' h (i:=6) V1];omega
def aU0 (h:c.Ok)(b:Wd c W):
  ip c.fixed c.tp c.sl c.ns c.mode c.R c.Q c.len c.words L p q c0 c1 c2 c3 z c.X c.T c.l c.k c.P c.tk lv pk bd W=O (c.fixed,c.tp,c.sl,c.ns,c.mode,c.R,c.Q,c.len,c.words,L,p,q,c0,zH zI<|c1+1,c2,c3,z,put W (c.off 2) (stepR c W p).1,(stepR c W p).1,(stepR c W p).2.1):=by
 have n:=h.num;have⟨d,y,A⟩:=jc h b p;have e:=b.in' h (i:=1) V1;have g:b8 (seg W (c.off 1)<|b8 c.X)=b8 c.X:=fj e;unfold ip;rw[h.of,zG];have B:=n.n;rw[XE V1,RV (ii:=1) (i:=1) h b rfl V1,zG,XE V1,YV h b n.R ZA,zG,XE V1,show c.sz 1=b8 c.X from rfl,show bD (b9 (c.fl.n:Int)) (0:Int)=zeros c.fl.n from rfl];have⟨u,v,C⟩:=sf h.pl d (t:=zeros c.fl.n) ZB Z5;rw[u,zG,put1 (ii:=2) (i:=2) h b rfl V1 ZN];rfl
def ao9 (h:c.Ok)(b:Wd c W):
  gN c.fixed c.tp c.sl c.ns c.mode c.R c.Q c.len c.words L p q c0 c1 c2 c3 z c.X c.T c.l c.k c.P c.tk sb sn sx lv pk bd W=O (c.fixed,c.tp,c.sl,c.ns,c.mode,c.R,c.Q,c.len,c.words,L,p,q,c0,zH zI<|c1+1,c2,c3,z,put W (c.off 2) (stepR c W p).1,(stepR c W p).1,(stepR c W p).2.1):=by
 have n:=h.num;have⟨d,y,A⟩:=jc h b p;have e:=b.in' h (i:=1) V1;have g:b8 (seg W (c.off 1)<|b8 c.X)=b8 c.X:=fj e;unfold gN;rw[h.of,zG];have B:=n.n;rw[XE V1,No (ii:=1) (i:=1) h b rfl V1,zG,XE V1,TZ h b n.R ZA,zG,XE V1,show c.sz 1=b8 c.X from rfl,show bD (b9 (c.fl.n:Int)) (0:Int)=zeros c.fl.n from rfl];have⟨u,v,C⟩:=sf h.pl d (t:=zeros c.fl.n) ZB Z5;rw[u,zG,IE (ii:=2) (i:=2) h b rfl V1 ZN];rfl
def aL6 (h:c.Ok)(u:Wd c W)(B:r.length=c.Q.toNat)(y:a.length=c.Q.toNat)(C:t.length=c.fk.n):
  mA c.Q c.fixed c.tp c.sl c.ns c.mode c.R c.Q c.len c.words L p q c0 c1 c2 c3 z c.k r a t c.X c.T c.l c.P c.tk lv pk bd W=O (c.fixed,c.tp,c.sl,c.ns,c.mode,c.R,c.Q,c.len,c.words,L,p,q,c0,c1,c2,zH zI<|c3+1,z,(jV c.fk r a t).1,(jV c.fk r a t).2.1,ye c W (jV c.fk r a t).2.1):=by
 have n:=h.num;obtain⟨D,N,U⟩:=pV h.pk B y (aD C.symm) ZU;have J:=n.R;have I:=n.Q;have F:=n.xtR;have H:=n.xtQ;have M:=n.x;have K:=n.t;unfold mA;rw[D];simp only[zG];generalize jV c.fk r a t=d at*;have b:=nb h (a:=d.2.1) u V1 V1;obtain⟨v,e,E⟩:=b;rw[put1 (ii:=4) (i:=4) h u rfl V1 V8];simp only[zG];rw[Zk,dj,show(c.X.length:Int).toNat-0=c.X.length by omega,cV,put1 (ii:=5) (i:=5) h v rfl V1 Z6];simp only[zG];rw[RV (ii:=6) (i:=6) h e rfl V1];simp only[zG];rw[show c.sz 6=c.T.length from rfl];have A:(seg (put (put W (c.off 4) d.2.1) (c.off 5)<|d.2.1.take c.X.length) (c.off 6) c.T.length).length=c.T.length:=fj<|e.in' h (i:=6) V1;rw[GK (f:=gi c.X (0,d.1,d.2.1) _) (X:=c.X) (a:=d.2.1) (g:=seg (put (put W (c.off 4) d.2.1) (c.off 5)<|d.2.1.take c.X.length) (c.off 6) c.T.length) V1 V1 V1<|λs=>rfl]
 simp only[zG];rw[put1 (ii:=6) (i:=6) h e rfl V1 Zu];rfl
def aL7 (h:c.Ok)(u:Wd c W)(B:r.length=c.Q.toNat)(y:a.length=c.Q.toNat)(C:t.length=c.fk.n):
  kZ c.Q c.fixed c.tp c.sl c.ns c.mode c.R c.Q c.len c.words L p q c0 c1 c2 c3 z c.k r a t c.X c.T c.l c.P c.tk sb sn sx lv pk bd W=O (c.fixed,c.tp,c.sl,c.ns,c.mode,c.R,c.Q,c.len,c.words,L,p,q,c0,c1,c2,zH zI<|c3+1,z,(jV c.fk r a t).1,(jV c.fk r a t).2.1,ye c W (jV c.fk r a t).2.1):=by
 have n:=h.num;obtain⟨D,N,U⟩:=pV h.pk B y (aD C.symm) ZU;have J:=n.R;have I:=n.Q;have F:=n.xtR;have H:=n.xtQ;have M:=n.x;have K:=n.t;unfold kZ;rw[D];simp only[zG];generalize jV c.fk r a t=d at*;have b:=nb h (a:=d.2.1) u V1 V1;obtain⟨v,e,E⟩:=b;rw[IE (ii:=4) (i:=4) h u rfl V1 V8];simp only[zG];rw[Zk,dj,show(c.X.length:Int).toNat-0=c.X.length by omega,cV,IE (ii:=5) (i:=5) h v rfl V1 Z6];simp only[zG];rw[No (ii:=6) (i:=6) h e rfl V1];simp only[zG];rw[show c.sz 6=c.T.length from rfl];have A:(seg (put (put W (c.off 4) d.2.1) (c.off 5)<|d.2.1.take c.X.length) (c.off 6) c.T.length).length=c.T.length:=fj<|e.in' h (i:=6) V1;rw[GK (f:=gi c.X (0,d.1,d.2.1) _) (X:=c.X) (a:=d.2.1) (g:=seg (put (put W (c.off 4) d.2.1) (c.off 5)<|d.2.1.take c.X.length) (c.off 6) c.T.length) V1 V1 V1<|λs=>rfl]
 simp only[zG];rw[IE (ii:=6) (i:=6) h e rfl V1 Zu];rfl
def aL8 (h:c.Ok)(u:Wd c W)(B:r.length=c.R.toNat)(y:a.length=c.R.toNat)(C:t.length=c.fl.n):
  lg c.R c.fixed c.tp c.sl c.ns c.mode c.R c.Q c.len c.words L p q c0 c1 c2 c3 z c.l r a t c.X c.T c.k c.P c.tk sb sn sx lv pk bd W=O (c.fixed,c.tp,c.sl,c.ns,c.mode,c.R,c.Q,c.len,c.words,L,p,q,c0,c1,c2,zH zI<|c3+1,z,(jV c.fl r a t).1,(jV c.fl r a t).2.1,ye c W (jV c.fl r a t).2.1):=by
 have n:=h.num;obtain⟨D,N,U⟩:=pV h.pl B y (aD C.symm) ZU;have J:=n.R;have I:=n.Q;have F:=n.xtR;have H:=n.xtQ;have M:=n.x;have K:=n.t;unfold lg;rw[D];simp only[zG];generalize jV c.fl r a t=d at*;have b:=nb h (a:=d.2.1) u V1 V1;obtain⟨v,e,E⟩:=b;rw[IE (ii:=4) (i:=4) h u rfl V1 V8];simp only[zG];rw[Zk,dj,show(c.X.length:Int).toNat-0=c.X.length by omega,cV,IE (ii:=5) (i:=5) h v rfl V1 Z6];simp only[zG];rw[No (ii:=6) (i:=6) h e rfl V1];simp only[zG];rw[show c.sz 6=c.T.length from rfl];have A:(seg (put (put W (c.off 4) d.2.1) (c.off 5)<|d.2.1.take c.X.length) (c.off 6) c.T.length).length=c.T.length:=fj<|e.in' h (i:=6) V1;rw[GK (f:=gi c.X (0,d.1,d.2.1) _) (X:=c.X) (a:=d.2.1) (g:=seg (put (put W (c.off 4) d.2.1) (c.off 5)<|d.2.1.take c.X.length) (c.off 6) c.T.length) V1 V1 V1<|λs=>rfl]
 simp only[zG];rw[IE (ii:=6) (i:=6) h e rfl V1 Zu];rfl
def Ic (c:Cx)(W x:Zd):Zd:=ye c (put W (c.off 3) (lossR c W x).1) (jV c.fk (lossR c W x).1 (fill c.Q [1]) (lossR c W x).2.1).2.1
def Ci (h:c.Ok)(b:Wd c W)(u:b8 x=b8 c.X):Wd c (put W (c.off 3) (lossR c W x).1)/\Wd c (Ic c W x):=by
 have n:=h.num;have⟨v,e,g⟩:=zx h b u;have C:=n.R;have B:=n.Q;have A:=n.xtQ;have E:=n.x;have D:=n.m;have y:=gS (c:=c) (i:=3) (j:=9) V1;have I:c.sz 3=b9 c.Q:=rfl;have d:=b.put h (w:=(lossR c W x).1) (o:=c.off 3) V1;have⟨_,F,H⟩:=pV h.pk e (a:=fill c.Q [1]) (t:=(lossR c W x).2.1) (iA V4) (aD g.symm) V1;exact⟨d,(nb h d V1 V1).2.2⟩
def bm0 (h:c.Ok)(b:Wd c W)(g:b8 x=b8 c.X):
  kO x c.fixed c.tp c.sl c.ns c.mode c.R c.Q c.len c.words L p q c0 c1 c2 c3 z c.X c.T c.l c.k c.P c.tk lv pk bd W=O (c.fixed,c.tp,c.sl,c.ns,c.mode,c.R,c.Q,c.len,c.words,L,p,q,c0,c1,zH zI<|c2+1,zH zI<|c3+1,rg (lossR c W x).1 0,Ic c W x):=by
 have n:=h.num;have⟨u,d,v⟩:=zx h b g;have⟨B,K⟩:=Ci h b g;have E:=n.R;have D:=n.Q;have C:=n.xtQ;have H:=n.x;have F:=n.m;unfold kO;rw[h.of,zG,XE V1,YV h b n.Q V4,zG,XE V1,show bD (b9 (c.fk.n:Int)) (0:Int)=zeros c.fk.n from rfl];have⟨A,I,J⟩:=sf h.pk u (t:=zeros c.fk.n) ZB Z5;rw[A,zG];have e:sj c.fk (fill c.Q<|x++(seg W 0 (b8 c.T)++[])) (zeros c.fk.n)=lossR c W x:=rfl;rw[e];have i0:ix 0 (b8 (lossR c W x).1)=O 0:=bq (k:=0) V1;have y:(lossR c W x).1[0]?=O (rg (lossR c W x).1 0):=jd (k:=0) V1;rw[i0,zG,y,zG,put1 (ii:=3) (i:=3) h b rfl V1 ZO,zG,Kr n.Q V4]
 simp only[zG];rw[aL6 h B d (iA V4) v];rfl
def bc1 (h:c.Ok)(b:Wd c W)(u:0<=lv)(y:lv<=pk)(g:lv+c.fk.n<=bd)(d:bd<=1048576):
  kq i0 c.fixed c.tp c.sl c.ns c.mode c.R c.Q c.len c.words L p q c0 c1 c2 c3 z c.X c.T c.l c.k c.P c.tk lv pk bd W=O (c.fixed,c.tp,c.sl,c.ns,c.mode,c.R,c.Q,c.len,c.words,L,p,q,c0,c1,zH zI<|c2+1,zH zI<|c3+1,rg (lossR c W<|seg W (c.off 1) c.X.length).1 0,lv,max pk<|lv+c.fk.n,bd,Ic c W<|seg W (c.off 1) c.X.length):=by
 have n:=h.num;have e:=b.in' h (i:=1) V1;have v:(seg W (c.off 1) c.X.length).length=c.X.length:=fj e;unfold kq;rw[h.of];simp only[zG];rw[pQ V1 u g d];simp only[zG];rw[RV (ii:=1) (i:=1) h b rfl V1];simp only[zG];rw[show c.sz 1=c.X.length from rfl,bm0 h b v];simp only[zG];rw[uB V1 V1 V1 V1];simp only[zG];rw[show lv+(c.fk.n:Int)-c.fk.n=lv by omega]
def aZ2 (h:c.Ok)(b:Wd c W)(g:b8 x=b8 c.X):
  jC x c.fixed c.tp c.sl c.ns c.mode c.R c.Q c.len c.words L p q c0 c1 c2 c3 z c.X c.T c.l c.k c.P c.tk sb sn sx lv pk bd W=O (c.fixed,c.tp,c.sl,c.ns,c.mode,c.R,c.Q,c.len,c.words,L,p,q,c0,c1,zH zI<|c2+1,zH zI<|c3+1,rg (lossR c W x).1 0,Ic c W x):=by
 have n:=h.num;have⟨u,d,v⟩:=zx h b g;have⟨B,K⟩:=Ci h b g;have E:=n.R;have D:=n.Q;have C:=n.xtQ;have H:=n.x;have F:=n.m;unfold jC;rw[h.of,zG,XE V1,TZ h b n.Q V4,zG,XE V1,show bD (b9 (c.fk.n:Int)) (0:Int)=zeros c.fk.n from rfl];have⟨A,I,J⟩:=sf h.pk u (t:=zeros c.fk.n) ZB Z5;rw[A,zG];have e:sj c.fk (fill c.Q<|x++(seg W 0 (b8 c.T)++[])) (zeros c.fk.n)=lossR c W x:=rfl;rw[e];have i0:ix 0 (b8 (lossR c W x).1)=O 0:=bq (k:=0) V1;have y:(lossR c W x).1[0]?=O (rg (lossR c W x).1 0):=jd (k:=0) V1;rw[i0,zG,y,zG,IE (ii:=3) (i:=3) h b rfl V1 ZO,zG,Kr n.Q V4]
 simp only[zG];rw[aL7 h B d (iA V4) v];rfl
def bc2 (h:c.Ok)(b:Wd c W)(u:0<=lv)(y:lv<=pk)(g:lv+c.fk.n<=bd)(d:bd<=1048576):
  jj i0 c.fixed c.tp c.sl c.ns c.mode c.R c.Q c.len c.words L p q c0 c1 c2 c3 z c.X c.T c.l c.k c.P c.tk sb sn sx lv pk bd W=O (c.fixed,c.tp,c.sl,c.ns,c.mode,c.R,c.Q,c.len,c.words,L,p,q,c0,c1,zH zI<|c2+1,zH zI<|c3+1,rg (lossR c W<|seg W (c.off 1) c.X.length).1 0,lv,max pk<|lv+c.fk.n,bd,Ic c W<|seg W (c.off 1) c.X.length):=by
 have n:=h.num;have e:=b.in' h (i:=1) V1;have v:(seg W (c.off 1) c.X.length).length=c.X.length:=fj e;unfold jj;rw[h.of];simp only[zG];rw[pQ V1 u g d];simp only[zG];rw[No (ii:=1) (i:=1) h b rfl V1];simp only[zG];rw[show c.sz 1=c.X.length from rfl,aZ2 h b v];simp only[zG];rw[uB V1 V1 V1 V1];simp only[zG];rw[show lv+(c.fk.n:Int)-c.fk.n=lv by omega]
end
end
section
open Go.IntKind renaming wrap->zH,i64->zI,u64->zJ
open List renaming length_take->aB
open Nat renaming le_of_eq->aD
section
variable {c:Cx}
def MI (c:Cx)(W r t:Zd):Zd:=ye c W (jV c.fl r (fill c.R<|seg W (c.off 5)<|b8 c.X) t).2.1
def HF (h:c.Ok)(b:Wd c W)(g:b8 r=b9 c.R)(u:b8 t=c.fl.n):b8 (fill c.R<|seg W (c.off 5)<|b8 c.X)=b9 c.R/\Wd c (MI c W r t):=by
 have n:=h.num;have A:=n.R;have y:=n.xtR;have C:=n.x;have B:=n.n;have e:=b.in' h (i:=5) V1;have v:b8 (seg W (c.off 5)<|b8 c.X)=b8 c.X:=fj e;have d:b8 (fill c.R<|seg W (c.off 5)<|b8 c.X)=b9 c.R:=iA V1;have⟨_,D,E⟩:=pV h.pl g d (aD u.symm) V1;exact⟨d,(nb h b V1 V1).2.2⟩
def aK2 (h:c.Ok)(b:Wd c W)(d:b8 r=b9 c.R)(e:b8 t=c.fl.n):
  jk c.fixed c.tp c.sl c.ns c.mode c.R c.Q c.len c.words L p q c0 c1 c2 c3 z r t c.X c.T c.l c.k c.P c.tk sb sn sx lv pk bd W=O (c.fixed,c.tp,c.sl,c.ns,c.mode,c.R,c.Q,c.len,c.words,L,p,q,c0,c1,c2,zH zI<|c3+1,z,(jV c.fl r (fill c.R<|seg W (c.off 5)<|b8 c.X) t).1,MI c W r t):=by
 have n:=h.num;have v:=n.R;have B:=n.xtR;have⟨g,y⟩:=HF h b d e;have u:=b.in' h (i:=5) V1;have A:b8 (seg W (c.off 5)<|b8 c.X)=b8 c.X:=fj u;unfold jk;rw[No (ii:=5) (i:=5) h b rfl V1,zG,show c.sz 5=b8 c.X from rfl,Kr v V1,zG,aL8 h b d g e];rfl
def Ye (c:Cx)(W:Zd)(p:Int):Zd:=MI c (put W (c.off 2) (stepR c W p).1) (stepR c W p).1 (stepR c W p).2.1
def xD (h:c.Ok)(b:Wd c W)(p:Int):Wd c<|put W (c.off 2) (stepR c W p).1:=by
 have⟨_,d,_⟩:=jc h b p;have e:=gS (c:=c) (i:=2) (j:=9) V1;have g:c.sz 2=b9 c.R:=rfl;exact b.put h V1
def bn6 (h:c.Ok)(b:Wd c W)(v:0<=lv)(A:lv<=pk)(u:lv+c.fl.n<=bd)(d:bd<=1048576):
  jv i0 c.fixed c.tp c.sl c.ns c.mode c.R c.Q c.len c.words L p q c0 c1 c2 c3 z c.X c.T c.l c.k c.P c.tk sb sn sx lv pk bd W=O (c.fixed,c.tp,c.sl,c.ns,c.mode,c.R,c.Q,c.len,c.words,L,p,q,c0,zH zI<|c1+1,c2,zH zI<|c3+1,z,lv,max pk<|lv+c.fl.n,bd,Ye c W p):=by
 obtain⟨y,e,g⟩:=jc h b p;unfold jv;rw[h.of];simp only[zG];rw[pQ V1 v u d];simp only[zG];rw[ao9 h b];simp only[zG];rw[aK2 h (xD h b p) e g];simp only[zG];rw[uB V1 V1 V1 V1];simp only[zG];rw[show lv+(c.fl.n:Int)-c.fl.n=lv by omega];rfl
def NI (c:Cx)(W:Zd)(p:Int):Zd:=MI c (Ic c (put W (c.off 2) (stepR c W p).1)<|(stepR c W p).1.take<|b8 c.X) (stepR c W p).1 (stepR c W p).2.1
def aY8 (h:c.Ok)(b:Wd c W)(A:0<=lv)(C:lv<=pk)(y:lv+(c.fl.n+c.fk.n)<=bd)(d:bd<=1048576):
  lh i0 c.fixed c.tp c.sl c.ns c.mode c.R c.Q c.len c.words L p q c0 c1 c2 c3 z c.X c.T c.l c.k c.P c.tk sb sn sx lv pk bd W=O (c.fixed,c.tp,c.sl,c.ns,c.mode,c.R,c.Q,c.len,c.words,L,p,q,c0,zH zI<|c1+1,zH zI<|c2+1,zH zI<|zH zI (c3+1)+1,rg (lossR c (put W (c.off 2) (stepR c W p).1)<|(stepR c W p).1.take c.X.length).1 0,lv,max pk<|lv+(c.fl.n+c.fk.n),bd,NI c W p):=by
 have n:=h.num;have E:=n.R;have D:=n.xtR;have H:=n.n;have F:=n.m;obtain⟨B,u,v⟩:=jc h b p;have g:=xD h b p;have e:((stepR c W p).1.take c.X.length).length=c.X.length:=by rw[aB];omega
 unfold lh;rw[h.of];simp only[zG];rw[ad (n:=(c.fl.n:Int)+(c.fk.n:Int)) V1,pQ V1 A y d];simp only[zG];rw[ao9 h b];simp only[zG];rw[Zk,dj,show(c.X.length:Int).toNat-0=c.X.length by omega,List.drop_zero,aZ2 h g e];simp only[zG];rw[aK2 h (Ci h g e).2 u v];simp only[zG];rw[uB V1 V1 V1 V1];simp only[zG];rw[show lv+((c.fl.n:Int)+c.fk.n)-(c.fl.n+c.fk.n)=lv by omega];rfl
def Jo (c:Cx)(W:Zd)(p:Int):Zd:=Hx c.fl<|fill c.R<|seg W (c.off 1) (b8 c.X)++(seg W 0 (b8 c.T)++[zH zJ p])
def adv1 (c:Cx)(W:Zd)(p:Int):Zd:=put (put W (c.off 2)<|Jo c W p) (c.off 1)<|(Jo c W p).take<|b8 c.X
def advW (c:Cx)(W:Zd)(p:Int):Nat->Zd
 |0=>W
 |i+1=>adv1 c (advW c W p i)<|p+i
def Xz {R:Int}(h:b8 r=b9 R):fill R r=r:=by
 unfold fill;rw[h,Nat.sub_self];simp
def Ej (h:c.Ok)(d:Wd c W)(p:Int):oG c.R c.l (fill c.R<|seg W (c.off 1) (b8 c.X)++(seg W 0 (b8 c.T)++[zH zJ p]))=O (0,Jo c W p)/\b8 (Jo c W p)=b9 c.R:=by
 have⟨b,_,_⟩:=jc h d p;have:=RN h.pl (r:=fill c.R<|seg W (c.off 1) (b8 c.X)++(seg W 0 (b8 c.T)++[zH zJ p]))<|aD b;rw[Xz b]at this;exact this
def Ps (h:c.Ok)(b:Wd c W)(p:Int):Wd c (put W (c.off 2)<|Jo c W p)/\Wd c (adv1 c W p):=by
 have n:=h.num;have y:=n.R;have v:=n.xtR;have⟨_,e⟩:=Ej h b p;have g:=gS (c:=c) (i:=1) (j:=9) V1;have u:=gS (c:=c) (i:=2) (j:=9) V1;have A:c.sz 1=b8 c.X:=rfl;have B:c.sz 2=b9 c.R:=rfl;have d:=b.put h (w:=Jo c W p) (o:=c.off 2) V1;exact⟨d,d.put h (by rw[aB];omega)⟩
def JY (h:c.Ok){W:Zd}(b:Wd c W)(p:Int): ∀i,Wd c (advW c W p i)
 |0=>b
 |i+1=>(Ps h (JY h b p i) _).2
theorem YJ (h:c.Ok)(u:Wd c W){m:Nat}(C:m<=65536)(D:0<=p/\p<=65536)(B:0<=c0/\c0<=4611686018427387904):
  jt (m:Int) c.fixed c.tp c.sl c.ns c.mode c.R c.Q c.len c.words L p q c0 c1 c2 c3 z c.X c.T c.l c.k c.P c.tk sb sn sx lv pk bd W=O (c.fixed,c.tp,c.sl,c.ns,c.mode,c.R,c.Q,c.len,c.words,L,p,q,c0+m,c1,c2,c3,z,advW c W p m):=by
 have n:=h.num;have y:=n.R;have E:=n.xtR;have F:=n.x;unfold jt
 have d:aq (iF (m:Int) c.X c.T c.l c.k c.P c.tk sb sn sx lv pk bd) fy (0,c.fixed,c.tp,c.sl,c.ns,c.mode,c.R,c.Q,c.len,c.words,L,p,q,c0+((0:Nat):Int),c1,c2,c3,z,advW c W p 0)=O (c.fixed,c.tp,c.sl,c.ns,c.mode,c.R,c.Q,c.len,c.words,L,p,q,c0+m,c1,c2,c3,z,advW c W p m):=by
  refine iW (n:=m) (λi=>(c.fixed,c.tp,c.sl,c.ns,c.mode,c.R,c.Q,c.len,c.words,L,p,q,c0+(i:Int),c1,c2,c3,z,advW c W p i)) V1 (λi hi=> ?_) ?_
  .have b:=JY h u p i;obtain⟨e,g⟩:=Ej h b<|p+i;obtain⟨A,H⟩:=Ps h b<|p+i;have v:(seg (advW c W p i) (c.off 1) c.X.length).length=c.X.length:=fj<|b.in' h (i:=1) V1;simp only[iF];rw[zB (show(i:Int)<(m:Int)by omega),zC,No (ii:=1) (i:=1) h b rfl V1];simp only[zG];rw[show c.sz 1=c.X.length from rfl,ad (n:=p+(i:Int)) V1,TZ h b y (by rw[v];simp;omega)];simp only[zG];rw[e];simp only[zG];rw[IE (ii:=2) (i:=2) h b rfl V1 (by rw[show c.sz 2=c.R.toNat from rfl];exact aD g)];simp only[zG];rw[Zk,dj,show(c.X.length:Int).toNat-0=c.X.length by omega,List.drop_zero,IE (ii:=1) (i:=1) h A rfl V1 (by rw[aB,show c.sz 1=c.X.length from rfl];omega)];simp only[zG];rw[ad (n:=(i:Int)+1) V1,ad (n:=c0+(i:Int)+1) V1,show c0+(i:Int)+1=c0+((i+1:Nat):Int)by omega]
   rfl
  .simp only[iF]
   grind
 rw[show c0+((0:Nat):Int)=c0 by omega,show advW c W p 0=W from rfl]at d;rw[d];rfl
end
end
section
open List renaming range->aB
def lD (a n:Int):Bool:=if a<1 then Zb else if 9<a then Zb else if a=1 then Zc (1<=n/\n<65536)else if a<=4 then Zc (0<=n/\n<1048576)else Zc<|n=0
theorem Pq (a n:Int):sq a n=O (lD a n):=by
 unfold sq lD sr
 grind
section
variable {c:Cx}
def sp (c:Cx)(k:Nat):Nat:=c.off 8+k*(b8 c.X+1)
def jg (c:Cx)(W:Zd)(k:Nat):Int:=rg W (sp c k:Int)
def mz (c:Cx)(W:Zd):Zd:=(aB<|b9 c.ns).map λ(k:Nat)=>jg c W k-1
structure Dy where
 L:Int
 p:Int
 q:Int
 c0:Int
 c1:Int
 c2:Int
 c3:Int
 z:Int
 lv:Int
 pk:Int
 W:Zd
def oE (c:Cx)(W:Zd):Nat:=(aB<|b9 c.ns).countP λ(k:Nat)=>Zc<|0<jg c W k
structure Inv (c:Cx)(s:Dy):Prop where
 w:Wd c s.W
 L:0<=s.L/\s.L<=65535
 p:0<=s.p/\s.p<=s.L
 q: -1<=s.q/\s.q<=s.L
 tag: ∀k,k<b9 c.ns->0<=jg c s.W k/\jg c s.W k<=s.L+1
 lv:s.lv=c.fixed+c.sl*oE c s.W
 pk:s.lv<=s.pk/\s.pk<=c.words
theorem sd (h:c.Ok)(u:c.mode≠3)(g:k<b9 c.ns):sp c k+(b8 c.X+1)<=c.off 9/\b9 c.ns*(b8 c.X+1)+c.off 8=c.off 9/\b9 c.ns<=524288:=by
 have n:=h.num;have b:=n.sl;rw[zF u]at b;have v:=h.ns
 have e:b9 (c.sl*c.ns)=b9 c.ns*(b8 c.X+1):=by
  grind
 have C:c.off 9=c.off 8+b9 c.ns*(b8 c.X+1):=by rw[Sr,e]
 have d:(k+1)*(b8 c.X+1)<=b9 c.ns*(b8 c.X+1):=Nat.mul_le_mul_right _ g;rw[Nat.succ_mul]at d;have y:=h.off9_le;have A:=n.words;have B:b9 c.ns*2<=b9 c.ns*(b8 c.X+1):=Nat.mul_le_mul_left _ (by have:=n.x;omega);unfold sp;omega
def Cw (h:c.Ok)(g:c.mode≠3)(d:k<b9 c.ns):fK (c.off 8:Int) c.ns (b8 c.X:Int) (k:Int)=O (sp c k:Int):=by
 have⟨b,u,v⟩:=sd h g d;have y:=h.off9_le;have A:=h.num.words;have B:=h.num.x;unfold sp at b;unfold fK gI;simp only[zG];have e:(k:Int)*((b8 c.X:Int)+1)=((k*(b8 c.X+1):Nat):Int):=by rw[Int.natCast_mul];congr 1
 rw[ad (n:=(b8 c.X:Int)+1) V1,e,ad (n:=((k*(b8 c.X+1):Nat):Int)) V1,Zi];unfold sp
 congr 1
def Kn (h:c.Ok)(u:c.mode≠3)(e:Wd c W)(g:k<b9 c.ns):gX (sp c k:Int) c.tk W=O (jg c W k,0):=by
 have⟨v,_,_⟩:=sd h u g;have⟨b,d⟩:=e.tk h;exact W7 V1 b d
theorem Qt (h:c.Ok)(b:c.mode≠3)(d:Wd c W)(g: ∀k,k<b9 c.ns->0<=jg c W k/\jg c W k<=65536):lV (c.off 8:Int) c.ns (b8 c.X:Int) c.tk W=O (mz c W):=by
 unfold lV;have e:=h.ns
 have v:aq (jT (c.off 8:Int) c.ns (b8 c.X:Int) c.tk W) fy (0,(aB 0).map λ(k:Nat)=>jg c W k-1)=O (mz c W):=by
  refine iW (n:=b9 c.ns) (λi=>(aB i).map λ(k:Nat)=>jg c W k-1) V1 (λi hi=> ?_) ?_
  .have u:=g i hi;unfold jT;simp only;rw[Zf,zC,Cw h b hi,zG,Kn h b d hi,zG,bu V4 V1,ad (n:=(i:Int)+1) V1,ad (n:=jg c W i) V1,ad (n:=jg c W i-1) V1,List.range_succ,List.map_append];rfl
  unfold jT;simp only;rw[Ze,zD];rfl
 grind
theorem Em (b:k<b9 c.ns):(mz c W)[k]?=O (jg c W k-1):=by
 unfold mz
 simp_all
def pW :b8 (mz c W)=b9 c.ns:=by unfold mz;simp
theorem Ni {l:Zd}(d:b8 l<1000000)(h: ∀t∈l,-1<=t/\t<=L):gD l L=O Zb:=by
 unfold gD ke
 have b:aq (gF l L) fy 0=O (.inr ()):=by
  refine rV (n:=b8 l) V1 (λi hi=> ?_) ?_
  .have:=h l[i]<|List.getElem_mem hi;unfold gF mC;rw[Zf,zC,cz hi,zG,Ze,zD,zG,Ze,zD,Zi];rfl
  unfold gF
  grind
 rw[b];rfl
def F5 {l:Zd}(d:0<=L/\L<=65535)(e:0<=p/\p<=L)(g: -1<=q/\q<=L)(b:b8 l<1000000)(h: ∀t∈l,-1<=t/\t<=L):nr L p q l=O (.inr (p,q,L,l)):=by
 unfold nr xG mC;rw[zB (show 0<=L by omega),zB (show L<65536 by omega)];simp only[zC,zG,Bool.not_true,zD];rw[zA (show¬(1048576<(b8 l:Int))by omega),zA (show¬p= -1 by omega),zA (show¬p< -1 by omega),zA (show¬L<p by omega),zA (show¬q< -1 by omega),zA (show¬L<q by omega)];simp only[zD,zG];rw[Ni b h];simp only[zG,zD];unfold ak;rw[bu V1 V1];rfl
end
end
variable {s:Dy}
section
open Bool renaming not_true->aB
open Int renaming mul_le_mul_of_nonneg_left->aD
open List renaming countP_le_length->bB
section
variable {c:Cx}
def CU (c:Cx)(a n:Int)(s:Dy):Int×Dy:=
 if lD a n=Zb∨7<a then(2,s)
 else if(2<=a/\a<=4)/\c.ns<=n then(2,s)
 else if a=1 then(if s.L-s.p<n then(17,s)else(0,{s with p:=s.p+n,c0:=s.c0+n,W:=advW c s.W s.p<|b9 n}))
 else if a=2 then(if 0<=jg c s.W (b9 n)-1 then(15,s)else(0,{s with lv:=s.lv+c.sl,pk:=max s.pk<|s.lv+c.sl,W:=put s.W (sp c<|b9 n)<|IntKind.u64.wrap (IntKind.i64.wrap<|s.p+1)::seg s.W (c.off 1) (b8 c.X)}))
 else if a=3 then(if jg c s.W (b9 n)-1<0 then(16,s)else(0,{s with p:=jg c s.W (b9 n)-1,W:=put s.W (c.off 1)<|seg s.W (sp c (b9 n)+1)<|b8 c.X}))
 else if a=4 then(if jg c s.W (b9 n)-1<0 then(16,s)else(0,{s with lv:=s.lv-c.sl,W:=put s.W (sp c<|b9 n)<|zeros<|b8 c.X+1}))
 else if a=5 then(if s.q≠ -1 then(18,s)else if s.p≠s.L then(17,s)else(0,{s with q:=s.p,c2:=s.c2+1,c3:=s.c3+1,z:=rg (lossR c s.W<|seg s.W (c.off 1)<|b8 c.X).1 0,pk:=max s.pk<|s.lv+c.fk.n,W:=Ic c s.W<|seg s.W (c.off 1)<|b8 c.X}))
 else if a=6 then(if s.q≠ -1 then(18,s)else if s.p≠s.L-1 then(17,s)else(0,{s with q:=s.p,c1:=s.c1+1,c2:=s.c2+1,c3:=s.c3+1+1,z:=rg (lossR c (put s.W (c.off 2) (stepR c s.W s.p).1)<|(stepR c s.W s.p).1.take<|b8 c.X).1 0,pk:=max s.pk<|s.lv+(c.fl.n+c.fk.n),W:=NI c s.W s.p}))
 else(if s.q<=0 then(18,s)else if s.p≠s.q-1 then(17,s)else(0,{s with q:=s.p,c1:=s.c1+1,c3:=s.c3+1,pk:=max s.pk<|s.lv+c.fl.n,W:=Ye c s.W s.p}))
def aN1 (c:Cx)(r:Int×Dy):Int×Int×Int×Int×Int×Int×Int×Int×Int×Int×Int×Int×Int×Int×Int×Int×Int×Int×Int×Int×Int×Zd:=
 (r.1,c.fixed,c.tp,c.sl,c.ns,c.mode,c.R,c.Q,c.len,c.words,r.2.L,r.2.p,r.2.q,r.2.c0,r.2.c1,r.2.c2,r.2.c3,r.2.z,r.2.lv,r.2.pk,c.words,r.2.W)
def Gq (B:Int)(s:Dy):Prop:=(0<=s.c0/\s.c0<=B)/\(0<=s.c1/\s.c1<=B)/\(0<=s.c2/\s.c2<=B)/\(0<=s.c3/\s.c3<=B)
def aG4 (c:Cx)(W:Zd):oE c W<=b9 c.ns:=by
 unfold oE;exact Nat.le_trans bB V2
def Kc (h:c.Ok)(hi:Inv c s):0<=s.lv/\s.lv+c.tp<=c.words/\c.words<=1048576/\0<=c.tp:=by
 have n:=h.num;have e:=hi.lv;have g:=aG4 c s.W;have u:=h.fit;have v:=n.fixed;have y:=h.ns;have d:=n.sl;have A:1<=c.sl:=by rw[d];have:=n.R;split<;>omega
 have B:c.sl*(oE c s.W:Int)<=c.sl*c.ns:=aD V1 V1;have C:0<=c.sl*(oE c s.W:Int):=Int.mul_nonneg V1 V1;have b:0<=c.tp:=by rw[n.tp];split<;>omega
 have:=n.R;have:=n.Q;have:=n.words;omega
theorem Og (h:c.Ok)(hi:Inv c s)(A:oE c s.W<b9 c.ns):s.lv+c.sl<=c.words:=by
 have n:=h.num;have e:=hi.lv;have g:=h.fit;have u:=h.ns;have d:=n.sl;have v:1<=c.sl:=by rw[d];have:=n.R;split<;>omega
 have y:c.sl*((oE c s.W:Int)+1)<=c.sl*c.ns:=aD V1 V1;have b:0<=c.tp:=by rw[n.tp];split<;>omega
 grind
def Xn {l:List Nat}{P:Nat->Bool}(d:k∈l)(b:P k=Zb):l.countP P<b8 l:=by
 rcases Nat.lt_or_ge (l.countP P) (b8 l) with h|h
 .exact h
 have:=List.countP_eq_length.1 (Nat.le_antisymm bB h) k d;rw[b]at this;cases this
def N2 (b:k<b9 c.ns)(d:jg c W k<=0):oE c W<b9 c.ns:=by
 have:=Xn (l:=List.range<|b9 c.ns) (P:=λ(k:Nat)=>Zc<|0<jg c W k) (k:=k) (aH.2 b)<|zA V1;rw[List.length_range]at this;exact this
theorem Us (b:k<b9 c.ns):jU sb c.ns sx (k:Int)=O Za:=by
 unfold jU
 grind
def aT8 (h:c.Ok)(e:c.mode≠3)(hi:Inv c s)(b:k<b9 c.ns)(A:jg c s.W k<=0):
  kC (k:Int) c.fixed c.tp c.sl c.ns c.mode c.R c.Q c.len c.words s.L s.p s.q s.c0 s.c1 s.c2 s.c3 s.z c.X c.T c.l c.k c.P c.tk (c.off 8:Int) c.ns (b8 c.X:Int) s.lv s.pk c.words s.W=O (s.lv+c.sl,max s.pk<|s.lv+c.sl,c.words,put s.W (sp c k)<|IntKind.u64.wrap (IntKind.i64.wrap<|s.p+1)::seg s.W (c.off 1) (b8 c.X)):=by
 have n:=h.num;have d:=hi.w;have⟨v,E,F⟩:=Kc h hi;have y:=Og h hi<|N2 b A;have g:=n.sl;rw[zF e]at g;have J:=n.x;have I:=hi.p;have H:=hi.L;have B:=(hi.tag k b).1;have⟨K,M,N⟩:=sd h e b;have⟨C,D⟩:=d.tk h;have u:b8 (seg s.W (c.off 1)<|b8 c.X)=b8 c.X:=fj<|d.in' h (i:=1) V1;unfold kC;rw[pQ V1 v y V1,zG,No (ii:=1) (i:=1) h d rfl V1,zG,show c.sz 1=b8 c.X from rfl];unfold oL;rw[Us b];simp only[zG,aB,zD];rw[Cw h e b,zG,Kn h e d b,zG,zA (show¬s.p<0 by omega),zD,zA (show¬65536<=s.p by omega)];simp only[zG,zD];rw[u,zA (λk=>k rfl),zD,zA (show¬(jg c s.W k≠0)by omega),zD,bu V1 V1]
 unfold Cx.tk;rw[rQ (by simp[u];omega) C D];rfl
def am6 (h:c.Ok)(e:c.mode≠3)(hi:Inv c s)(b:k<c.ns.toNat)(B:0<jg c s.W k):
  ju (k:Int) c.fixed c.tp c.sl c.ns c.mode c.R c.Q c.len c.words s.L s.p s.q s.c0 s.c1 s.c2 s.c3 s.z c.X c.T c.l c.k c.P c.tk (c.off 8:Int) c.ns (c.X.length:Int) s.lv s.pk c.words s.W=O (put s.W (c.off 1)<|seg s.W (sp c k+1) c.X.length):=by
 have n:=h.num;have d:=hi.w;have A:=hi.L;have g:=(hi.tag k b).2;obtain⟨C,D,E⟩:=sd h e b;obtain⟨v,y⟩:=d.tk h;have u:(seg s.W (sp c k+1) c.X.length).length=c.X.length:=fj V1;unfold ju mM;rw[Us b];simp only[zG,aB,zD];rw[Cw h e b];simp only[zG];rw[Kn h e d b];simp only[zG];rw[zA (show¬jg c s.W k=0 by omega),zD,ad (n:=(sp c k:Int)+1) V1,show(sp c k:Int)+1=((sp c k+1:Nat):Int)by omega];unfold Cx.tk;rw[B9 V1 v y];simp only[zG];rw[show((c.off 9:Nat):Int)=c.tk from rfl,IE (ii:=1) (i:=1) h d rfl V1 (by rw[u];exact Nat.le_refl _)];rfl
def ba1 (h:c.Ok)(d:c.mode≠3)(hi:Inv c s)(b:k<c.ns.toNat)(E:0<jg c s.W k)(e:c.sl<=s.lv):
  li (k:Int) c.fixed c.tp c.sl c.ns c.mode c.R c.Q c.len c.words s.L s.p s.q s.c0 s.c1 s.c2 s.c3 s.z c.X c.T c.l c.k c.P c.tk (c.off 8:Int) c.ns (c.X.length:Int) s.lv s.pk c.words s.W=O (s.lv-c.sl,s.pk,c.words,put s.W (sp c k)<|zeros<|c.X.length+1):=by
 have n:=h.num;have v:=hi.w;have F:=n.x;have u:=n.sl;rw[zF d]at u;obtain⟨B,C,D⟩:=Kc h hi;have g:=hi.pk;obtain⟨H,I,J⟩:=sd h d b;obtain⟨y,A⟩:=v.tk h;unfold li pA;rw[Us b];simp only[zG,aB,zD];rw[Cw h d b];simp only[zG];rw[Kn h d v b];simp only[zG];rw[zA (show¬jg c s.W k=0 by omega),zD];unfold gI;simp only[zG];rw[ad (n:=(c.X.length:Int)+1) V1,XE V1,show List.replicate (((c.X.length:Int)+1).toNat) (0:Int)=zeros (c.X.length+1)from rfl];unfold Cx.tk;rw[rQ Z5 y A];simp only[zG];rw[uB V1 e g.1 V1];rfl
end
end
end Go.V
