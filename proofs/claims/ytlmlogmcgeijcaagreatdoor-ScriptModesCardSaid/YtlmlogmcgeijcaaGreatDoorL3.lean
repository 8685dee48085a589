/- A part of the proof. No condition. -/
import Derived.Test.YtlmlogmcgeijcaaGreatDoorL2
set_option linter.unusedVariables false
set_option linter.unusedSimpArgs false
set_option linter.unusedSectionVars false
namespace Go.V
open Go.Ab
open Option renaming some->O,none->Y
open Bool renaming true->Za,false->Zb
open Decidable renaming decide->Zc
variable {T W X a r t w x:Zd}{L Q a0 a1 a10 a11 a12 a13 a14 a15 a16 a2 a3 a4 a5 a6 a7 a8 a9 bd c0 c1 c2 c3 i0 ii lv p pk q sb sn sx z:Int}{l:List bx}{i j k o:Nat}
set_option maxRecDepth 100000
section
open Go.IntKind renaming wrap -> zH, i64 -> zI, u64 -> zJ
open Int renaming toNat_natCast -> aB
open List renaming getElem?_eq_getElem -> aD
theorem wI (f:Nat->Int): ∀{j:Nat},j<8->List.getD [f 0,f 1,f 2,f 3,f 4,f 5,f 6,f 7] j 0=f j
 |0,_=>rfl
 |1,_=>rfl
 |2,_=>rfl
 |3,_=>rfl
 |4,_=>rfl
 |5,_=>rfl
 |6,_=>rfl
 |7,_=>rfl
 |n+8,h=>by omega
def app (o:bx)(x y:Int):Int:=
 if o.1=1 then zH zJ (x+y)else if o.1=2 then zH zJ (x-y)else if o.1=3 then zH zJ (x*y)else if o.1=4 then zH zJ (0-x)else if o.1=5 then o.2.2.2.2 else if o.1=6 then x else 0
theorem G0 (o:bx)(x y:Int):oS o.1 o.2.1 o.2.2.1 o.2.2.2.1 o.2.2.2.2 x y=O (app o x y):=by
 unfold oS app;simp only[ag]
 repeat' split
 all_goals rfl
def SO (R:Nat)(o:bx):Prop:=(0<=o.2.1/\o.2.1<R)/\(0<=o.2.2.1/\o.2.2.1<R)/\0<=o.2.2.2.1/\o.2.2.2.1<R
theorem GN {R:Nat}{o:bx}(h:SO R o): ∃d a b:Nat,o.2.1=d/\o.2.2.1=a/\o.2.2.2.1=b/\d<R/\a<R/\b<R:=by
 unfold SO at h;exact⟨o.2.1.toNat,o.2.2.1.toNat,o.2.2.2.1.toNat,by omega,by omega,by omega,by omega,by omega,by omega⟩
def rg (r:Zd)(k:Int):Int:=r.getD k.toNat 0
theorem iM (h:k<r.length):r[k]?=O (rg r (k:Int)):=by
 unfold rg;rw[aB,aD h,List.getD_eq_getElem?_getD,aD h];rfl
abbrev TS :=Zd×Zd×Nat
def uz (o:bx)(s:TS):TS:=(s.1.set o.2.1.toNat (app o (rg s.1 o.2.2.1) (rg s.1 o.2.2.2.1)),s.2.1.set s.2.2 (rg s.1 o.2.1),s.2.2+1)
def VdT (R N:Nat)(m:Nat)(s:TS):Prop:=s.1.length=R/\s.2.1.length=N/\s.2.2+m<=N
def stT (p d:Nat)(l:Nat->Int)(s:TS):Int×Int×Int×(Zd)×(Zd)×Int×Int×Int×Int×Int×Int×Int×Int:=
 ((p:Int),(s.2.2:Int),(d:Int),s.1,s.2.1,l 0,l 1,l 2,l 3,l 4,l 5,l 6,l 7)
theorem kQ {code:List vT}{p:Nat}{x:vT}(b:code.length<=8192)(h:code[p]?=O x):p<code.length/\ix (p:Int) code.length=O p:=by
 have:=(List.getElem?_eq_some_iff.1 h).1;exact⟨this,bq this⟩
theorem WF {code:List vT}(y:code.length<=8192){R N:Nat}(hN:N<=1000000):Runs (kr code) code stT uz (VdT R N) (SO R)where
 op:=by
  intro p d l s m o C h K v b A;obtain⟨B,g⟩:=kQ y h;obtain⟨F,D,E,H,I,J,g1,g2,g3⟩:=GN K;obtain⟨Z,v2,v3⟩:=A;refine⟨?_,by unfold uz;exact⟨by simp[Z],by simp[v2],by show s.2.2+1+m<=N;omega⟩⟩;unfold stT uz;simp only[kr];rw[Ze,zD,g];simp only[zG];rw[h];simp only[zG,ce];rw[Ze,zD,Ze,zD];simp only[G0,zG];rw[H,I,J,bq (show F<s.1.length by omega)];simp only[zG];rw[iM (show F<s.1.length by omega)];simp only[zG];rw[bq (show s.2.2<s.2.1.length by omega)];simp only[zG];rw[iM (show s.2.2<s.2.1.length by omega)];simp only[zG];rw[bq (show D<s.1.length by omega)];simp only[zG];rw[iM (show D<s.1.length by omega)];simp only[zG];rw[bq (show E<s.1.length by omega)];simp only[zG];rw[iM (show E<s.1.length by omega)]
  simp only[zG];rw[ad (n:=(p:Int)+1) (by omega),ad (n:=(s.2.2:Int)+1) (by omega)];rfl
 rep:=by
  intro p d l s m o C h v b A;obtain⟨B,g⟩:=kQ y h;unfold stT;simp only[kr];rw[Ze,zD,g];simp only[zG];rw[h];simp only[zG,ce];rw[zB v,zC,bq b];simp only[zG];rw[ad (n:=(p:Int)+1) (by omega),ad (n:=(d:Int)+1) (by omega)];rfl
 nxt:=by
  intro p d l s m e C h v b M V A;obtain⟨B,g⟩:=kQ y h;have u:=wI (upd l d (l d-1)) b;rw[nV]at u;unfold upd at u;unfold stT;simp only[kr];rw[Ze,zD,g];simp only[zG];rw[h];simp only[zG,ce];rw[Ze,zD,zB v,zC,ad (n:=((d+1:Nat):Int)-1) (by omega),show((d+1:Nat):Int)-1=(d:Int)by omega,bq b];simp only[zG];rw[wI l b,Zk,u,Zf,zC];rfl
 out:=by
  intro p d l s m e C h v b M A;obtain⟨B,g⟩:=kQ y h;have u:=wI (upd l d (l d-1)) b;rw[nV]at u;unfold upd at u;unfold stT;simp only[kr];rw[Ze,zD,g];simp only[zG];rw[h];simp only[zG,ce];rw[Ze,zD,zB v,zC,ad (n:=((d+1:Nat):Int)-1) (by omega),show((d+1:Nat):Int)-1=(d:Int)by omega,bq b];simp only[zG];rw[wI l b,Zk,u,Ze,zD,ad (n:=(p:Int)+1) (by omega)];rfl
abbrev FS :=Zd×Nat
def LY (o:bx)(s:FS):FS:=(s.1.set o.2.1.toNat (app o (rg s.1 o.2.2.1) (rg s.1 o.2.2.2.1)),s.2+1)
def VdF (R M:Nat)(m:Nat)(s:FS):Prop:=s.1.length=R/\s.2+m<=M
def stF (p d:Nat)(l:Nat->Int)(s:FS):Int×Int×Int×(Zd)×Int×Int×Int×Int×Int×Int×Int×Int:=
 ((p:Int),(s.2:Int),(d:Int),s.1,l 0,l 1,l 2,l 3,l 4,l 5,l 6,l 7)
theorem Y2 {code:List vT}(y:code.length<=8192){R M:Nat}(hM:M<=1000000):Runs (hY (-1) code) code stF LY (VdF R M) (SO R)where
 op:=by
  intro p d l s m o C h K v b A;obtain⟨B,g⟩:=kQ y h;obtain⟨F,D,E,H,I,J,g1,g2,g3⟩:=GN K;obtain⟨Z,v2⟩:=A;refine⟨?_,by unfold LY;exact⟨by simp[Z],by show s.2+1+m<=M;omega⟩⟩;unfold stF LY;simp only[hY];rw[zA (show¬((p:Int)=(code.length:Int))by omega),zD,zA (show¬((s.2:Int)= -1)by omega),zD,g];simp only[zG];rw[h];simp only[zG,ce];rw[Ze,zD,Ze,zD];simp only[G0,vM,zG];rw[H,I,J,bq (show D<s.1.length by omega)];simp only[zG];rw[iM (show D<s.1.length by omega)];simp only[zG];rw[bq (show E<s.1.length by omega)];simp only[zG];rw[iM (show E<s.1.length by omega)];simp only[zG];rw[bq (show F<s.1.length by omega)];simp only[zG];rw[iM (show F<s.1.length by omega)];simp only[zG]
  rw[ad (n:=(p:Int)+1) (by omega),ad (n:=(s.2:Int)+1) (by omega)];rfl
 rep:=by
  intro p d l s m o C h v b A;obtain⟨B,g⟩:=kQ y h;unfold stF;simp only[hY];rw[zA (show¬((p:Int)=(code.length:Int))by omega),zD,zA (show¬((s.2:Int)= -1)by omega),zD,g];simp only[zG];rw[h];simp only[zG,ce];rw[zB v,zC,bq b];simp only[zG];rw[ad (n:=(p:Int)+1) (by omega),ad (n:=(d:Int)+1) (by omega)];rfl
 nxt:=by
  intro p d l s m e C h v b N V A;obtain⟨B,g⟩:=kQ y h;have u:=wI (upd l d (l d-1)) b;rw[nV]at u;unfold upd at u;unfold stF;simp only[hY];rw[zA (show¬((p:Int)=(code.length:Int))by omega),zD,zA (show¬((s.2:Int)= -1)by omega),zD,g];simp only[zG];rw[h];simp only[zG,ce];rw[Ze,zD,zB v,zC,ad (n:=((d+1:Nat):Int)-1) (by omega),show((d+1:Nat):Int)-1=(d:Int)by omega,bq b];simp only[zG];rw[wI l b,Zk,u,Zf,zC];rfl
 out:=by
  intro p d l s m e C h v b N A;obtain⟨B,g⟩:=kQ y h;have u:=wI (upd l d (l d-1)) b;rw[nV]at u;unfold upd at u;unfold stF;simp only[hY];rw[zA (show¬((p:Int)=(code.length:Int))by omega),zD,zA (show¬((s.2:Int)= -1)by omega),zD,g];simp only[zG];rw[h];simp only[zG,ce];rw[Ze,zD,zB v,zC,ad (n:=((d+1:Nat):Int)-1) (by omega),show((d+1:Nat):Int)-1=(d:Int)by omega,bq b];simp only[zG];rw[wI l b,Zk,u,Ze,zD,ad (n:=(p:Int)+1) (by omega)];rfl
def par (o:bx)(x y:Int):Int×Int:=
 if o.1=1 then(1,1)else if o.1=2 then(1,18446744073709551615)else if o.1=3 then(y,x)else if o.1=4 then(18446744073709551615,0)else if o.1=6 then(1,0)else(0,0)
theorem CJ (o:bx)(x y:Int):jl o.1 o.2.1 o.2.2.1 o.2.2.2.1 o.2.2.2.2 x y=O (par o x y):=by
 unfold jl par;simp only[ag]
 repeat' split
 all_goals rfl
def Lv (o:bx)(r a:Zd)(t:Int):Zd×Zd:=
 let g:=rg a o.2.1
 let b:=r.set o.2.1.toNat t
 let a1:=a.set o.2.1.toNat 0
 let q:=par o (rg b o.2.2.1) (rg b o.2.2.2.1)
 let a2:=a1.set o.2.2.1.toNat (zH zJ (rg a1 o.2.2.1+zH zJ (q.1*g)))
 (b,a2.set o.2.2.2.1.toNat (zH zJ (rg a2 o.2.2.2.1+zH zJ (q.2*g))))
theorem Tv {o:bx}{n:Nat}(E:SO r.length o)(J:a.length=r.length)(u:n<t.length):
  nB o.1 o.2.1 o.2.2.1 o.2.2.2.1 o.2.2.2.2 (n:Int) r a t=O (Lv o r a (rg t (n:Int))):=by
 obtain⟨b,e,g,v,y,A,h,F,H⟩:=GN E;unfold nB;simp only[CJ,zG];unfold Lv;simp only[v,y,A,aB];rw[bq (show b<a.length by omega)];simp only[zG];rw[iM (show b<a.length by omega)];simp only[zG];rw[bq u];simp only[zG];rw[iM u];simp only[zG];rw[bq h];simp only[zG];rw[iM h];simp only[zG];have d: ∀x:Int,(r.set b x).length=r.length:=by simp
 have D:(a.set b 0).length=a.length:=by simp
 rw[bq (show e<(r.set b (rg t (n:Int))).length by rw[d];omega)];simp only[zG];rw[iM (show e<(r.set b (rg t (n:Int))).length by rw[d];omega)];simp only[zG];rw[bq (show g<(r.set b (rg t (n:Int))).length by rw[d];omega)];simp only[zG];rw[iM (show g<(r.set b (rg t (n:Int))).length by rw[d];omega)];simp only[zG];rw[bq (show e<(a.set b 0).length by omega)];simp only[zG];rw[iM (show e<(a.set b 0).length by omega)];simp only[zG];generalize I:par o _ _=P;generalize B:(a.set b 0).set e _=A2;have C:A2.length=a.length:=by rw[<-B];simp
 rw[bq (show g<A2.length by omega)];simp only[zG];rw[iM (show g<A2.length by omega)];simp only[zG]
abbrev BS :=Zd×Zd×Nat
def qf (t:Zd)(o:bx)(s:BS):BS:=((Lv o s.1 s.2.1 (rg t ((s.2.2-1:Nat):Int))).1,(Lv o s.1 s.2.1 (rg t ((s.2.2-1:Nat):Int))).2,s.2.2-1)
def VdB (R N:Nat)(m:Nat)(s:BS):Prop:=s.1.length=R/\s.2.1.length=R/\m<=s.2.2/\s.2.2<=N
def stB (p d:Nat)(l:Nat->Int)(s:BS):Int×Int×Int×(Zd)×(Zd)×Int×Int×Int×Int×Int×Int×Int×Int:=
 ((p:Int)-1,(d:Int),(s.2.2:Int),s.1,s.2.1,l 0,l 1,l 2,l 3,l 4,l 5,l 6,l 7)
theorem Lw (o:bx)(r a:Zd)(t:Int):(Lv o r a t).1.length=r.length/\(Lv o r a t).2.length=a.length:=by
 unfold Lv;simp
theorem aJ0 {code:List vT}(A:code.length<=8192){R:Nat}(hN:t.length<=1000000):Backs (fE t code) code stB (qf t) (VdB R t.length) (SO R)where
 op:=by
  intro p d l s m o y h H v b B;obtain⟨C,g⟩:=kQ A h;obtain⟨E,V,v3,v4⟩:=B;obtain⟨M,N⟩:=Lw o s.1 s.2.1 (rg t ((s.2.2-1:Nat):Int));refine⟨?_,by unfold qf;exact⟨by simp[E,M],by simp[V,N],by show m<=s.2.2-1;omega,by show s.2.2-1<=_;omega⟩⟩;unfold stB qf;simp only[fE];rw[show((p+1:Nat):Int)-1=(p:Int)by omega,Ze,zD,g];simp only[zG];rw[h];simp only[zG,ce];rw[Ze,zD,Ze,zD,ad (n:=(s.2.2:Int)-1) (by omega),show(s.2.2:Int)-1=((s.2.2-1:Nat):Int)by omega,Tv (by rw[E];exact H) (by omega) (by omega)];simp only[zG];rw[ad (n:=(p:Int)-1) (by omega)]
 rep:=by
  intro p q d l s m o e y h v D b B;obtain⟨C,g⟩:=kQ A h;obtain⟨Z,F⟩:=kQ A D;unfold stB;simp only[fE];rw[show((p+1:Nat):Int)-1=(p:Int)by omega,Ze,zD,g];simp only[zG];rw[h];simp only[zG,ce];rw[zB v,zC,ad (n:=((q+1:Nat):Int)-1) (by omega),show((q+1:Nat):Int)-1=(q:Int)by omega,F];simp only[zG];rw[D];simp only[zG,ce];rw[bq b];simp only[zG];rw[ad (n:=(p:Int)-1) (by omega),ad (n:=(d:Int)+1) (by omega)];rfl
 nxt:=by
  intro p d l s m o y h K v b I J B;obtain⟨C,g⟩:=kQ A h;have u:=wI (upd l d (l d-1)) b;rw[nV]at u;unfold upd at u;unfold stB;simp only[fE];rw[show((p+1:Nat):Int)-1=(p:Int)by omega,Ze,zD,g];simp only[zG];rw[h];simp only[zG,ce];rw[Ze,zD,zB v,zC,ad (n:=((d+1:Nat):Int)-1) (by omega),show((d+1:Nat):Int)-1=(d:Int)by omega,bq b];simp only[zG];rw[wI l b,Zk,u,Zf,zC];rw[ad (n:=((y+1:Nat):Int)-2) (by omega),show((y+1:Nat):Int)-2=(y:Int)-1 by omega];rfl
 out:=by
  intro p d l s m o y h v b I B;obtain⟨C,g⟩:=kQ A h;have u:=wI (upd l d (l d-1)) b;rw[nV]at u;unfold upd at u;unfold stB;simp only[fE];rw[show((p+1:Nat):Int)-1=(p:Int)by omega,Ze,zD,g];simp only[zG];rw[h];simp only[zG,ce];rw[Ze,zD,zB v,zC,ad (n:=((d+1:Nat):Int)-1) (by omega),show((d+1:Nat):Int)-1=(d:Int)by omega,bq b];simp only[zG];rw[wI l b,Zk,u,Ze,zD,ad (n:=(p:Int)-1) (by omega)];rfl
end
section
open Bool renaming and_eq_true -> cB, not_eq_true' -> cD
open List renaming getElem?_append_right -> bB, append_assoc -> bD, length_append -> cK
open Nat renaming le_refl -> aB, sub_self -> aD
theorem aJ1 {w v c:Int}{n:Nat}(h:yX w v=O c)(d:0<=v)(e:w=(n:Int)):c=((n*v.toNat:Nat):Int):=by
 have b:((v.toNat:Nat):Int)=v:=Int.toNat_of_nonneg d;rw[Int.natCast_mul,b,<-e];unfold yX at h;split at h
 .rename_i g;injection h with h
  rw[g,Int.zero_mul,h]
 split at h
 .cases h
 split at h
 .cases h
 .injection h with h
  exact h.symm
def at9 (l:List bx)(m S:Zd):Prop:=m.length=l.length/\S.length=l.length/\∀(A B:List bx) (o e:bx) (b:Fo),l=A++o::(b.src++e::B)->b.Ok->o.1=7->e.1=0->
 m[A.length]?=O ((A.length+1+b.len:Nat):Int)/\S[A.length]?=O ((b.n*yI o:Nat):Int)
theorem aL3 {m S R:Zd}(H:MOK l m)(Z:S.length=l.length)(J: ∀o∈l,S5 o)(h: ∀j,j<l.length->∃a b,S[j]?=O a/\R[j]?=O b/\ax6 l j a b):at9 l m S:=by
 refine⟨H.len,Z,λA B o e b u y I E=> ?_⟩;have F:l.length=A.length+1+(b.len+(B.length+1)):=by rw[u];simp[Fo.src_len];omega
 have g:A.length<l.length:=by omega
 have d:l[A.length]=o:=by
  have:l[A.length]?=O o:=by rw[u,bB (aB _),aD];rfl
  rw[List.getElem?_eq_getElem g]at this;injection this
 have D:l.drop (A.length+1)=b.src++e::B:=by rw[u,List.drop_append,List.drop_of_length_le (by omega),show A.length+1-A.length=1 by omega];rfl
 refine⟨?_, ?_⟩
 .have:=H.at' A.length g (by rw[d];exact I) b.src e B D E (Fo.scan0 y);rw[Fo.src_len]at this;exact this
 .obtain⟨a,c,M,h2,N⟩:=h A.length g;obtain⟨V,C⟩:=(N g).1 (by rw[d];exact I) b.src e B D E (Fo.scan0 y);have v: ∀x∈b.src,0<=x.2.2.2.2:=λx hx=>(J x (by rw[u];simp[hx])).1
  have K:=Fo.Q9_n b y v V;rw[d]at C;rw[M,aJ1 C (J o (by rw[u];simp)).1 K];rfl
section
variable {l:List bx} {m S:Zd} {em es:Int}
theorem aK2 {op:Zd}{out:List vT}(g:l.length<=8192)(h:out.length<=8192){x:bx}(d:l[i]?=O x)(e:0<x.1/\x.1<7):
  fg l (em,m) (es,S) ((i:Int),op,out)=O (.inl (((i+1:Nat):Int),op,out++[ce x 0])):=by
 obtain⟨hi,b⟩:=List.getElem?_eq_some_iff.1 d;simp only[fg];rw[zB (show(i:Int)<(l.length:Int)by omega),zC,cl hi,b];simp only[zG];rw[zA (show¬x.1=7 by omega),zA (show¬x.1=0 by omega)];simp only[zD,zG,ck];rw[bp (by omega) (by omega),Zi];rfl
theorem ai2 {op:Zd}{out:List vT}(A:l.length<=8192){x:bx}(v:l[i]?=O x)(u:x.1=7)(g:S[i]?=O 0)(e:m[i]?=O (j:Int))(y:j<=8192):
  fg l (em,m) (es,S) ((i:Int),op,out)=O (.inl (((j+1:Nat):Int),op,out)):=by
 obtain⟨hi,h⟩:=List.getElem?_eq_some_iff.1 v;obtain⟨b,_⟩:=List.getElem?_eq_some_iff.1 g;obtain⟨d,_⟩:=List.getElem?_eq_some_iff.1 e;simp only[fg];rw[zB (show(i:Int)<(l.length:Int)by omega),zC,cl hi,h];simp only[zG];rw[zB u];simp only[zC];rw[bq b];simp only[zG];rw[g];simp only[zG,iw];rw[decide_true,zC,bq d];simp only[zG];rw[e];simp only[zG,iw];rw[Zi];rfl
theorem ai1 {n:Int}{op:Zd}{out:List vT}(v:l.length<=8192)(y:out.length<=8192)(A:op.length<=8192){x:bx}(u:l[i]?=O x)(g:x.1=7)(d:S[i]?=O n)(h:n≠0):
  fg l (em,m) (es,S) ((i:Int),op,out)=O (.inl (((i+1:Nat):Int),op++[(out.length:Int)],out++[ce x 0])):=by
 obtain⟨hi,e⟩:=List.getElem?_eq_some_iff.1 u;obtain⟨b,_⟩:=List.getElem?_eq_some_iff.1 d;simp only[fg];rw[zB (show(i:Int)<(l.length:Int)by omega),zC,cl hi,e];simp only[zG];rw[zB g];simp only[zC];rw[bq b];simp only[zG];rw[d];simp only[zG,iw];rw[zA h,zD,bp (by omega) (by omega)];simp only[zG,iw,ck];rw[bp (by omega) (by omega),Zi];rfl
theorem XR {q:Nat}{op:Zd}{out:List vT}{o:bx}{t:Nat}(y:l.length<=8192)(A:out.length<=8192)(B:op.length<=8192){x:bx}(v:l[i]?=O x)(u:x.1=0)(g:out[q]?=O (ce o t)):
  fg l (em,m) (es,S) ((i:Int),op++[(q:Int)],out)=O (.inl (((i+1:Nat):Int),op,out.set q (ce o (out.length+1))++[ce x (q+1)])):=by
 obtain⟨hi,h⟩:=List.getElem?_eq_some_iff.1 v;obtain⟨b,_⟩:=List.getElem?_eq_some_iff.1 g;have e:(op++[(q:Int)]).length=op.length+1:=by simp
 simp only[fg];rw[zB (show(i:Int)<(l.length:Int)by omega),zC,cl hi,h];simp only[zG];rw[zA (show¬x.1=7 by omega),zB u];simp only[zD,zC,zG,ck];rw[ad (n:=((op++[(q:Int)]).length:Int)-1) (by omega),show((op++[(q:Int)]).length:Int)-1=(op.length:Int)by omega,bq (show op.length<(op++[(q:Int)]).length by omega)];simp only[zG];rw[bB (aB _),aD];simp only[List.getElem?_cons_zero,zG];rw[Zl,ci,bq b];simp only[zG];rw[g];simp only[zG];rw[bp (by simp;omega) (by omega)];simp only[zG,iw,ck]
 have d:(op++[(q:Int)]).take ((op.length:Int).toNat-0)=op:=by
  rw[show(op.length:Int).toNat-0=op.length by omega,List.take_left'];rfl
 rw[d,ad (n:=(i:Int)+1) (by omega),ad (n:=(out.length:Int)+1) (by omega),ad (n:=(q:Int)+1) (by omega)];rfl
theorem K1 (g:l.length<=8192)(C:at9 l m S): ∀(f:Fo) (A B:List bx) (op:Zd) (out:List vT),l=A++f.src++B->f.Ok->op.length<=A.length->out.length<=A.length->
  ∃k,k<=f.len/\Reach (fg l (em,m) (es,S)) k ((A.length:Int),op,out) (((A.length+f.len:Nat):Int),op,out++f.bare.code out.length)
 | .nil,A,B,op,out,d,_,_,_=>by
  refine⟨0,aB _, ?_⟩;simp only[Fo.bare,Fo.code,Fo.len,List.append_nil,Nat.add_zero];exact Reach.refl
 | .op o r,A,B,op,out,d,F,hp,ho=>by
  have K:(A++[o]).length=A.length+1:=by simp
  have Z:l.length=A.length+(r.len+1)+B.length:=by rw[d];simp[Fo.src,Fo.src_len];omega
  have H:l[A.length]?=O o:=by rw[d,bD,bB (aB _),aD];rfl
  obtain⟨k,I,E⟩:=K1 g C r (A++[o]) B op (out++[ce o 0]) (by rw[d];simp[Fo.src]) F.2 (by omega) (by simp;omega);refine⟨1+k,by simp only[Fo.len];omega, ?_⟩;have h:=(Reach.one (aK2 (em:=em) (es:=es) (op:=op) (out:=out) g (by omega) H F.1)).trans (show Reach _ k _ _ from by rw[K]at E;exact E);simp only[Fo.bare,Fo.code,Fo.len];rw[show A.length+(r.len+1)=A.length+1+r.len by omega];rw[bD,cK]at h;exact h
 | .rep o b e r,A,B,op,out,d,F,hp,ho=>by
  obtain⟨⟨I,E⟩,k3,k4⟩:=F;have Z:l.length=A.length+(b.len+r.len+2)+B.length:=by rw[d];simp[Fo.src,Fo.src_len];omega
  have H:l[A.length]?=O o:=by rw[d,bD,bB (aB _),aD];rfl
  obtain⟨hm,N⟩:=C.2.2 A (r.src++B) o e b (by rw[d];simp[Fo.src]) k3 I E;have M:(A++o::b.src).length=A.length+1+b.len:=by simp[Fo.src_len];omega
  have hxe:l[A.length+1+b.len]?=O e:=by
   rw[show l=(A++o::b.src)++(e::(r.src++B))by rw[d];simp[Fo.src],<-M,bB (aB _),aD];rfl
  have u:(A++o::(b.src++[e])).length=A.length+1+b.len+1:=by simp[Fo.src_len];omega
  simp only[Fo.bare,Fo.len];by_cases hz:b.n*yI o=0
  .rw[zE hz];rw[hz]at N;obtain⟨k,g1,y⟩:=K1 g C r (A++o::(b.src++[e])) B op out (by rw[d];simp[Fo.src]) k4 (by omega) (by omega);refine⟨1+k,by omega, ?_⟩;have h:=(Reach.one (ai2 (em:=em) (es:=es) (op:=op) (out:=out) g H I N hm (by omega))).trans (show Reach _ k _ _ from by rw[u]at y;exact y);rw[show A.length+(b.len+r.len+2)=A.length+1+b.len+1+r.len by omega];exact h
  .rw[zF hz];have K:(A++[o]).length=A.length+1:=by simp
   obtain⟨kb,b1,b2⟩:=K1 g C b (A++[o]) (e::(r.src++B)) (op++[(out.length:Int)]) (out++[ce o 0]) (by rw[d];simp[Fo.src]) k3 (by simp;omega) (by simp;omega);rw[K]at b2;have hbl:=b.bare_len;have hrl:=r.bare_len;have v:(out++[ce o 0]++b.bare.code (out++[ce o 0]).length).length=out.length+1+b.bare.len:=by simp[Fo.code_len];omega
   have hq:(out++[ce o 0]++b.bare.code (out++[ce o 0]).length)[out.length]?=O (ce o 0):=by
    rw[bD,bB (aB _),aD];rfl
   have J:=XR (em:=em) (es:=es) (m:=m) (S:=S) (op:=op) g (by omega) (by omega) hxe E hq;rw[v]at J
   have D:(out++[ce o 0]++b.bare.code (out++[ce o 0]).length).set out.length (ce o (out.length+1+b.bare.len+1))=out++ce o (out.length+1+b.bare.len+1)::b.bare.code (out.length+1):=by
    rw[bD,List.set_append_right _ _ (aB _),aD,cK];rfl
   rw[D]at J;obtain⟨k,g1,y⟩:=K1 g C r (A++o::(b.src++[e])) B op (out++ce o (out.length+1+b.bare.len+1)::b.bare.code (out.length+1)++[ce e (out.length+1)]) (by rw[d];simp[Fo.src]) k4 (by omega) (by rw[u];simp[Fo.code_len];omega);rw[u]at y;refine⟨1+kb+1+k,by omega, ?_⟩;have h:=(((Reach.one (ai1 (em:=em) (es:=es) (m:=m) (op:=op) (out:=out) g (by omega) (by omega) H I N (by omega))).trans b2).trans (Reach.one J)).trans y;rw[show A.length+(b.len+r.len+2)=A.length+1+b.len+1+r.len by omega]
   have e1:out++ce o (out.length+1+b.bare.len+1)::b.bare.code (out.length+1)++[ce e (out.length+1)]++r.bare.code (out++ce o (out.length+1+b.bare.len+1)::b.bare.code (out.length+1)++[ce e (out.length+1)]).length=out++(Fo.rep o b.bare e r.bare).code out.length:=by
    have V:(out++ce o (out.length+1+b.bare.len+1)::b.bare.code (out.length+1)++[ce e (out.length+1)]).length=out.length+b.bare.len+2:=by simp[Fo.code_len];omega
    rw[V];simp only[Fo.code];rw[show out.length+1+b.bare.len+1=out.length+b.bare.len+2 by omega];simp
   rw[e1]at h;exact h
end
theorem MP :Bo l=(ko l).bind λr=>O (r.2.1,r.2.2.1):=rfl
theorem VL {R:Int}(h:Cd R l=0):JY l=0/\JZ R l=0/\J0 l=0/\J1 l=0:=by
 unfold Cd at h;split at h
 .omega
 split at h
 .omega
 split at h
 .omega
 .omega
structure Prg (R:Int)(l:List bx)(f:Fo):Prop where
 ops:OpsOk l
 ok:f.Ok
 src:f.src=l
 z:Cd R l=0
 R1:1<=R/\R<=64
 deep:f.hi<=8
 n:f.n<=65536
 w:du l=((f.n:Int),0)
 regs: ∀o∈l,0<o.1/\o.1<7->SO R.toNat o
theorem YN {R:Int}(h:OpsOk l)(M:Cd R l=0): ∃f,Prg R l f:=by
 obtain⟨I,J,A,u⟩:=VL M
 have e:yt l=Za:=by
  unfold JY at I;split at I
  .assumption
  .omega
 have g:Hb R l=Za:=by
  unfold JZ at J;split at J
  .assumption
  .omega
 unfold yt at e;rw[cB,decide_eq_true_eq,cD]at e;obtain⟨C,hr⟩:=e;unfold Hb at g;rw[cB,decide_eq_true_eq,cD]at g;obtain⟨Z,ho⟩:=g;obtain⟨f,D,y⟩:=Fo.parse _ l (aB _) C
 have B: ∃t,Q9 l=O t/\t<=65536:=by
  unfold J1 du at u;rw[zE C]at u;cases B:Q9 l with
  |none=>rw[B]at u;cases u
  |some t=>
   rw[B]at u;refine⟨t,rfl, ?_⟩;by_cases c:65536<t
   .simp only[zE c]at u;cases u
   .omega
 obtain⟨t,N,hle⟩:=B;have hn:t=(f.n:Int):=Fo.Q9_n f D (λx hx=>(h.v x (y▸hx)).1) (by rw[y];exact N);refine⟨f,h,D,y,M,Z, ?_,by omega, ?_,λo K H=> ?_⟩
 .have V:=Fo.hi_le D;rw[y]at V;unfold J0 KW at A;rw[zE C]at A;by_cases c:(8:Int)<((hmax l 0 0:Nat):Int)
  .simp only[zE c]at A;cases A
  .omega
 .unfold du;rw[zE C,N];show(if 65536<t then((0:Int),(9:Int))else(t,0))=_;rw[Zh,hn]
 .have E:=List.any_eq_false.1 hr o K;have F:=List.any_eq_false.1 ho o K;have E:jU o=Za:=by simpa using E
  have F:O6 R o=Zb:=by simpa using F
  obtain⟨k,d,a,b,v⟩:=o;have H:k=1∨k=2∨k=3∨k=4∨k=5∨k=6:=by simp only at H;omega
  unfold SO
  rcases H with rfl|rfl|rfl|rfl|rfl|rfl<;>
   .simp[jU,A9,az]at E;simp[O6,az]at F;simp only;omega
theorem EH {R:Int}{f:Fo}(b:Prg R l f):mP R l=O (0,f.bare.code 0):=by
 unfold mP;rw[ME b.ops];simp only[zG];rw[b.z,zA (by simp),zD];have J:=b.ops.len;have D:bm l 0=O 0:=by rw[<-b.src];exact Fo.scan0 b.ok
 obtain⟨m,A,y⟩:=JD (l:=l) (by omega) D;obtain⟨r,C,M,N,e⟩:=Pr (l:=l) (by omega) b.ops.v;rw[A,MP,C];simp only[zG];have E:=b.w;rcases e with⟨e,_⟩|⟨_,_,H,V,I⟩
 .rw[E]at e;exact(e rfl).elim
 have u:=aL3 y H (λo B=>b.ops.v o B) I;obtain⟨k,K,F⟩:=K1 (em:=0) (es:=r.2.1) (by omega) u f [] [] [] [] (by simp[b.src]) b.ok (by simp) (by simp);have g:f.len=l.length:=by rw[<-Fo.src_len,b.src]
 have h:=F (18446744073709551616-k);rw[show 18446744073709551616-k+k=di by unfold di;omega,show 18446744073709551616-k=(18446744073709551615-k)+1 by omega]at h
 have d:aq (fg l (0,m) (r.2.1,r.2.2.1)) di ((0:Int),([]:Zd),([]:List vT))=O (f.bare.code 0):=by
  refine h.trans ?_;rw[cb];simp only[fg];rw[zA (by rw[g];simp),zD];rfl
 rw[d];rfl
end
section
open List renaming replicate -> aB, length_replicate -> aD
theorem EU {α γ:Type}{g:α->Option (α⊕γ)}{s d:α}{c:γ}(h:Reach g k s d)(u:k<=1000000000)(e:g d=O (.inr c)):aq g di s=O c:=by
 have b:=h (18446744073709551616-k);rw[show 18446744073709551616-k+k=di by unfold di;omega,show 18446744073709551616-k=(18446744073709551615-k)+1 by omega]at b;refine b.trans ?_;rw[cb,e];rfl
section
variable {R:Int} {l:List bx} {f:Fo}
theorem Prg.len (h:Prg R l f):f.len<=4096:=by
 have:=h.ops.len;rw[<-Fo.src_len,h.src];exact this
theorem Prg.clen (h:Prg R l f):(f.bare.code 0).length<=8192:=by
 have b:=h.len;have d:=f.bare_len;rw[Fo.code_len];omega
theorem Prg.steps (h:Prg R l f):f.bare.steps<=1000000000:=by
 have b:=Fo.steps_le f.bare f.bare_pos;rw[Fo.bare_n]at b;have e:=h.len;have g:=f.bare_len;have d:=h.n;have u:(2*f.bare.len+1)*f.n<=8193*65536:=Nat.mul_le_mul (by omega) d;omega
theorem Prg.good (h:Prg R l f): ∀o∈f.bare.src,(0<o.1/\o.1<7->SO R.toNat o)/\S5 o:=λo b=>by
 have:=Fo.bare_mem f b;rw[h.src]at this;exact⟨h.regs o this,h.ops.v o this⟩
theorem Prg.hi (h:Prg R l f):0+f.bare.hi<=8:=by
 have b:=h.deep;have d:=f.bare_hi;omega
theorem Prg.writes (h:Prg R l f):fQ l=O ((f.n:Int),0):=by
 rw[vD (by have:=h.ops.len;omega) h.ops.v,h.w]
def au6 (R:Nat)(o:bx):Prop:=0<o.1/\o.1<7->SO R o
theorem NF {Z γ S:Type}{g:Z->Option (Z⊕γ)}{code:List vT}{st:Nat->Nat->(Nat->Int)->S->Z}{b:bx->S->S}{Vd:Nat->S->Prop}{R:Nat}(h:Runs g code st b Vd (SO R)):Runs g code st b Vd (au6 R):=
 ⟨λe u d v y=>h.op e (u d) d v y,h.rep,h.nxt,h.out⟩
theorem KF {Z γ S:Type}{g:Z->Option (Z⊕γ)}{code:List vT}{st:Nat->Nat->(Nat->Int)->S->Z}{b:bx->S->S}{Vd:Nat->S->Prop}{R:Nat}(h:Backs g code st b Vd (SO R)):Backs g code st b Vd (au6 R):=
 ⟨λe u d v y=>h.op e (u d) d v y,h.rep,h.nxt,h.out⟩
def tq (f:Fo)(r t:Zd):TS:=Ge uz f.unroll (r,t,0)
theorem WM (h:Prg R l f)(y:r.length=R.toNat)(C:f.n<=t.length)(u:t.length<=1000000):
  ze (f.bare.code 0) r t=O (((tq f r t).2.2:Int),(tq f r t).1,(tq f r t).2.1)/\(tq f r t).1.length=R.toNat/\(tq f r t).2.1.length=t.length:=by
 obtain⟨b,_,v,g⟩:=LK (m:=0) (l:=λ_=>0) (s:=((r,t,0):TS)) (d:=0) (p:=0) (A:=[]) (B:=[]) (NF (WF (R:=R.toNat) (N:=t.length) h.clen u)) f.bare (by simp) rfl (Fo.bare_ok f h.ok) f.bare_pos h.hi h.good ⟨y,rfl,by rw[Fo.bare_n];show 0+(f.n+0)<=_;omega⟩;rw[Fo.bare_unroll]at v g;refine⟨?_,g.1,g.2.1⟩;unfold ze
 have:=EU v h.steps (c:=(((tq f r t).2.2:Int),(tq f r t).1,(tq f r t).2.1,b 0,b 1,b 2,b 3,b 4,b 5,b 6,b 7)) (by
  unfold stT;simp only[kr];rw[zB (by rw[Fo.code_len];omega),zC]
  rfl)
 have e:stT 0 0 (λ_=>0) ((r,t,0):TS)=(0,0,0,r,t,0,0,0,0,0,0,0,0):=rfl;rw[e]at this;rw[this];rfl
theorem rJ (h:Prg R l f)(u:r.length=R.toNat)(v:f.n<=t.length)(b:t.length<=1000000):
  lQ R l r t=O (((tq f r t).2.2:Int),0,(tq f r t).1,(tq f r t).2.1)/\(tq f r t).1.length=R.toNat/\(tq f r t).2.1.length=t.length:=by
 obtain⟨d,e,g⟩:=WM h u v b;refine⟨?_,e,g⟩;unfold lQ Bp;rw[EH h,h.writes];have y:=h.R1;simp only[zG];rw[zA (show¬((0:Int)≠0)by simp),zD,zA (show¬((r.length:Int)≠R)by omega),zD,zA (show¬((t.length:Int)<(f.n:Int))by omega),zD];simp only[zG];rw[zA (show¬((0:Int)≠0)by simp),zD,d];rfl
def JL (f:Fo)(r:Zd):Zd:=(Ge LY f.unroll (r,0)).1
theorem OU (h:Prg R l f)(v:r.length=R.toNat):sa (-1) (f.bare.code 0) r=O (JL f r)/\(JL f r).length=R.toNat:=by
 obtain⟨b,_,g,u⟩:=LK (m:=0) (l:=λ_=>0) (s:=((r,0):FS)) (d:=0) (p:=0) (A:=[]) (B:=[]) (NF (Y2 (R:=R.toNat) (M:=65536) h.clen (by omega))) f.bare (by simp) rfl (Fo.bare_ok f h.ok) f.bare_pos h.hi h.good ⟨v,by rw[Fo.bare_n];show 0+(f.n+0)<=_;have:=h.n;omega⟩;rw[Fo.bare_unroll]at g u;refine⟨?_,u.1⟩;unfold sa
 have:=EU g h.steps (c:=(JL f r,b 0,b 1,b 2,b 3,b 4,b 5,b 6,b 7)) (by
  unfold stF;simp only[hY];rw[zB (by rw[Fo.code_len];omega),zC]
  rfl)
 have e:stF 0 0 (λ_=>0) ((r,0):FS)=(0,0,0,r,0,0,0,0,0,0,0,0):=rfl;rw[e]at this;rw[this];rfl
def fill (R:Int)(r:Zd):Zd:=r++aB (R.toNat-r.length) 0
theorem kw {R:Int}(h:r.length<=R.toNat):(fill R r).length=R.toNat:=by
 unfold fill;rw[List.length_append,aD];omega
theorem Vv {R:Int}(h:r.length<=R.toNat):AU (aB R.toNat (0:Int)) 0 (aB R.toNat (0:Int)).length r=fill R r:=by
 unfold AU fill;rw[aD,List.take_zero,List.nil_append,Nat.zero_add,Nat.min_eq_right h,List.take_of_length_le h,List.drop_replicate]
theorem Qk (h:Prg R l f)(b:r.length<=R.toNat):nW R l r=O (0,JL f (fill R r))/\(JL f (fill R r)).length=R.toNat:=by
 obtain⟨d,e⟩:=OU h (kw b);refine⟨?_,e⟩;have g:=h.R1;unfold nW vN;rw[EH h];simp only[zG];rw[zA (show¬((0:Int)≠0)by simp),zD,zA (show¬(R<(r.length:Int))by omega),zD,zB (show 0<=R by omega),zB (show R<=R by omega),zB (show 8*R<=140737488355328 by omega),Vv b];show((gd Za _).bind _)=_;rw[ci];simp only[zG];rw[zA (show¬((0:Int)≠0)by simp),zD,d];rfl
def jr (f:Fo)(r a t:Zd):BS:=C8 (qf t) f.unroll (r,a,f.n)
theorem Tu (h:Prg R l f)(D:r.length=R.toNat)(y:a.length=R.toNat)(E:f.n<=t.length)(u:t.length<=1000000):
  nA (f.n:Int) r a t (f.bare.code 0)=O ((jr f r a t).1,(jr f r a t).2.1)/\(jr f r a t).1.length=R.toNat/\(jr f r a t).2.1.length=R.toNat:=by
 obtain⟨b,_,v,g⟩:=GA (m:=0) (l:=λ_=>0) (s:=((r,a,f.n):BS)) (d:=0) (p:=0) (A:=[]) (B:=[]) (KF (aJ0 (R:=R.toNat) (t:=t) h.clen u)) f.bare (by simp) rfl (Fo.bare_ok f h.ok) f.bare_pos h.hi h.good ⟨D,y,by rw[Fo.bare_n];exact Nat.le_refl _,E⟩;rw[Fo.bare_unroll]at v g;refine⟨?_,g.1,g.2.1⟩;unfold nA;have C:=h.clen;rw[Fo.code_len]at C
 have:=EU v h.steps (c:=((jr f r a t).1,(jr f r a t).2.1,b 0,b 1,b 2,b 3,b 4,b 5,b 6,b 7)) (by
  unfold stB;simp only[fE];rw[Zf,zC]
  rfl)
 have e:stB (0+f.bare.len) 0 (λ_=>0) ((r,a,f.n):BS)=(IntKind.i64.wrap (((f.bare.code 0).length:Int)-1),0,(f.n:Int),r,a,0,0,0,0,0,0,0,0):=by
  unfold stB;rw[Fo.code_len,Zi,Nat.zero_add];rfl
 rw[e]at this;rw[this];rfl
theorem pB (h:Prg R l f)(v:r.length=R.toNat)(u:a.length=R.toNat)(y:f.n<=t.length)(b:t.length<=1000000):
  nz R l r a t=O (0,(jr f r a t).1,(jr f r a t).2.1)/\(jr f r a t).1.length=R.toNat/\(jr f r a t).2.1.length=R.toNat:=by
 obtain⟨d,e,g⟩:=Tu h v u y b;refine⟨?_,e,g⟩;have A:=h.R1;unfold nz;rw[EH h,h.writes];simp only[zG];rw[zA (show¬((0:Int)≠0)by simp),zD,zA (show¬((r.length:Int)≠R)by omega),zD,zA (show¬((a.length:Int)≠R)by omega),zD,zA (show¬((t.length:Int)<(f.n:Int))by omega),zD,d];rfl
end
end
section
open List renaming length_take -> aB, take_length -> aD, getElem?_take -> bB, length_append -> bD, ext_getElem? -> cB, getElem?_drop -> cD, getElem?_append_left -> cK, getElem?_append_right -> cL, getElem_mem -> cM, length_drop -> cN
def seg (W:Zd)(o n:Nat):Zd:=(W.drop o).take n
def put (W:Zd)(o:Nat)(w:Zd):Zd:=W.take o++(w++W.drop (o+w.length))
theorem zy (W:Zd)(o n i:Nat):(seg W o n)[i]?=if i<n then W[o+i]? else Y:=by
 unfold seg;rw[bB];split
 .rw[cD]
 .rfl
theorem G9 (h:o+w.length<=W.length)(i:Nat):(put W o w)[i]?=if o<=i/\i<o+w.length then w[i-o]? else W[i]?:=by
 unfold put;have e:(W.take o).length=o:=by rw[aB];omega
 by_cases b:i<o
 .rw[cK (by omega),bB,zE b,Zh]
 .rw[cL (by omega),e];by_cases d:i<o+w.length
  .rw[cK (by omega),zE ⟨by omega,d⟩]
  .rw[cL (by omega),cD,Zh]
   congr 1
   omega
theorem dp {n:Nat}(h:o+n<=W.length):(seg W o n).length=n:=by
 unfold seg;rw[aB,cN];omega
theorem ap5 (h:o+w.length<=W.length):(put W o w).length=W.length:=by
 unfold put;rw[bD,bD,aB,cN];omega
theorem F4 {n:Nat}(h:o+w.length<=W.length)(b:n<=w.length):seg (put W o w) o n=w.take n:=by
 apply cB;intro i;rw[zy,bB,G9 h];split
 .rw[Zg]
  congr 1
  omega
 .rfl
theorem tt (h:o+w.length<=W.length):seg (put W o w) o w.length=w:=by
 rw[F4 h (Nat.le_refl _),aD]
theorem nK {b n:Nat}(h:o+w.length<=W.length)(d:b+n<=o∨o+w.length<=b):seg (put W o w) b n=seg W b n:=by
 apply cB;intro i;rw[zy,zy];split
 .rw[G9 h,Zh]
 .rfl
theorem Tc (h:o+w.length<=W.length)(b:i<o∨o+w.length<=i):(put W o w)[i]?=W[i]?:=by
 rw[G9 h,Zh]
theorem Xu (h:o+w.length<=W.length):AU W o w.length w=put W o w:=by
 unfold AU put;rw[aD,Nat.min_self]
theorem yi {n tk:Nat}(h:o+n<=tk)(b:tk<=W.length)(d:W.length<=1048576):de (o:Int) (n:Int) (tk:Int) W=O (0,seg W o n):=by
 unfold de;rw[Ze,zD,Ze,zD,Ze,zD,ad (n:=(tk:Int)-o) (by omega),Ze,zD,ad (n:=(o:Int)+n) (by omega),Zl,ci];unfold ak;rw[show((o:Int)+n).toNat-(o:Int).toNat=n by omega,show(o:Int).toNat=o by omega,bp (by rw[aB];omega) (by omega)];rfl
theorem Vm {tk:Nat}(h:o<tk)(d:tk<=W.length)(e:W.length<=1048576):fG (o:Int) (tk:Int) W=O (rg W (o:Int),0):=by
 unfold fG;rw[Ze,zD,Ze,zD,ad (n:=(tk:Int)-o) (by omega),Ze,zD,ad (n:=(o:Int)+1) (by omega),Zl,ci];unfold ak;rw[show((o:Int)+1).toNat-(o:Int).toNat=1 by omega,show(o:Int).toNat=o by omega,bp (by rw[aB];omega) (by omega)]
 have b:(W.drop o).take 1=[rg W (o:Int)]:=by
  apply cB;intro i;rw[bB,cD];rcases Nat.eq_zero_or_pos i with rfl|hi
  .rw[Zg,Nat.add_zero,iM (by omega)];rfl
  .rw[Zh,List.getElem?_eq_none (by simp;omega)]
 rw[b];rfl
theorem rz {tk:Nat}(h:o+w.length<=tk)(b:tk<=W.length)(d:W.length<=1048576):dn (o:Int) w (tk:Int) W=O (0,put W o w):=by
 unfold dn;rw[Ze,zD,Ze,zD,Ze,zD,ad (n:=(tk:Int)-o) (by omega),Ze,zD,ad (n:=(o:Int)+w.length) (by omega),Zl,ci,show((o:Int)+w.length).toNat-(o:Int).toNat=w.length by omega,show(o:Int).toNat=o by omega,Xu (by omega)]
theorem py {n:Int}(h:0<=n)(e:0<=lv)(d:lv+n<=bd)(b:bd<=1048576):cg n lv pk bd=O (0,lv+n,max pk (lv+n),bd):=by
 unfold cg ng jF;rw[Ze,zD];simp only[zG];rw[ad (n:=bd-lv) (by omega),Zf,ad (n:=lv+n) (by omega)];rfl
theorem ut {n:Int}(h:0<=n)(d:n<=lv)(e:lv<=pk)(b:lv<=1048576):bg n lv pk bd=O (0,lv-n,pk,bd):=by
 unfold bg jF;rw[Ze,zD,Ze,zD];simp only[zG];rw[ad (n:=0-n) (by omega),Zi,show lv+(0-n)=lv-n by omega,Int.max_eq_left (by omega)]
theorem VM (ls:List (Zd))(h: ∀l∈ls,l.length<=100000):ls.flatten.length<=100000*ls.length:=by
 induction ls with
 |nil=>simp
 |cons a r d=>
  have e:=h a (by simp);have g:=d λl b=>h l (by simp[b])
  rw[List.flatten_cons,bD,List.length_cons];omega
theorem NL {ls:List (Zd)}(h:i<ls.length):(ls.take (i+1)).flatten=(ls.take i).flatten++ls[i]:=by
 rw[List.take_succ_eq_append_getElem h,List.flatten_append];simp
theorem WL (ls:List (Zd))(h: ∀l∈ls,l.length<=100000)(b:ls.length<=1000)(i:Nat):(ls.take i).flatten.length<=100000000:=by
 have d:=VM (ls.take i) λl b=>h l (List.mem_of_mem_take b)
 rw[aB]at d;omega
theorem M1 {ls:List (Zd)}(h: ∀l∈ls,l.length<=100000)(v:ls.length<=1000):eV ls=O ls.flatten:=by
 have b:=WL ls h v
 have A:aq (fI ls) di (0,0)=O (((ls.take ls.length).flatten.length:Nat):Int):=by
  refine fj (n:=ls.length) (λi=>(((ls.take i).flatten.length:Nat):Int)) (by omega) (λi hi=> ?_) ?_
  .unfold fI;have d:=b i;have u:=h ls[i] (cM hi);simp only;rw[zB (show(i:Int)<(ls.length:Int)by omega),zC,cl hi];simp only[zG];rw[ad (n:=(((ls.take i).flatten.length:Nat):Int)+((ls[i].length:Nat):Int)) (by omega),Ze,zD,ad (n:=(i:Int)+1) (by omega),NL hi,bD];rfl
  .unfold fI;simp only;rw[Ze,zD]
 have g: ∀(f:Int×Zd->Option ((Int×Zd)⊕Zd)),(∀s,f s=cond (Zc (s.1<((ls.length:Nat):Int))) ((rd ls s.1).bind λx=>gd (fB (s.2.length+x.length) 8) (O (.inl (IntKind.i64.wrap (s.1+1),s.2++x)))) (O (.inr s.2)))->
   aq f di (0,[])=O (ls.take ls.length).flatten:=by
  intro f e;refine fj (n:=ls.length) (λi=>(ls.take i).flatten) (by omega) (λi hi=> ?_) ?_
  .rw[e];have d:=b i;have u:=h ls[i] (cM hi);rw[zB (show(i:Int)<(ls.length:Int)by omega),zC,cl hi];simp only[zG];rw[bp (by omega) (by omega),ad (n:=(i:Int)+1) (by omega),NL hi];rfl
  .rw[e];rw[Ze,zD]
 unfold eV;rw[A];rw[aD];simp only[zG];have d:=b ls.length;rw[aD]at d;rw[Ze,zD,ad (n:=((ls.flatten.length:Nat):Int)-0) (by omega),ag];split
 .rw[Int.sub_zero]
  have y:lJ 8 ((ls.flatten.length:Nat):Int)=Za:=by
   generalize ls.flatten.length=N at d⊢;unfold lJ;rw[Zf,Zf,Zf];rfl
  rw[y,ci,bp (by rw[List.length_replicate];omega) (by omega),Zl,ci,List.take_zero,g (lB ls) λs=>rfl,aD];rfl
 .rw[g (lC ls) λs=>rfl,aD];rfl
end
section
open List renaming length_append -> aB, length_replicate -> aD, not_mem_nil -> bB
structure Cx where
 mode:Int
 R:Int
 Q:Int
 len:Int
 words:Int
 X:Zd
 T:Zd
 l:List bx
 k:List bx
 fl:Fo
 fk:Fo
 fixed:Int
 tp:Int
 sl:Int
 ns:Int
namespace Cx
def sz (c:Cx):Nat->Nat
 |0=>c.T.length
 |1=>c.X.length
 |2=>c.R.toNat
 |3=>c.Q.toNat
 |4=>max c.R.toNat c.Q.toNat
 |5=>c.X.length
 |6=>c.T.length
 |7=>c.tp.toNat
 |8=>(c.sl*c.ns).toNat
 |_=>0
def off (c:Cx):Nat->Nat
 |0=>0
 |i+1=>c.off i+c.sz i
def P (c:Cx):Zd:=(List.range 10).map λi=>(c.off i:Int)
def tk (c:Cx):Int:=(c.off 9:Int)
structure Ok (c:Cx):Prop where
 hl:OpsOk c.l
 hk:OpsOk c.k
 hc:pu c.mode c.X.length c.T.length c.R c.l c.Q c.k c.len c.words=0
 pl:Prg c.R c.l c.fl
 pk:Prg c.Q c.k c.fk
 fixed:c.fixed=vw c.X.length c.T.length c.R c.Q
 tp:c.tp=tv c.mode c.l c.k
 sl:c.sl=tu c.mode c.X.length c.R c.l
 ns:0<=c.ns/\c.ns<=1048576
 fit:c.fixed+c.tp+c.sl*c.ns<=c.words
 base:c.mode=3->c.ns=c.len
end Cx
structure Num (c:Cx):Prop where
 mode:1<=c.mode/\c.mode<=3
 R:1<=c.R/\c.R<=64
 Q:1<=c.Q/\c.Q<=64
 x:1<=c.X.length/\c.X.length<=64
 t:c.T.length<=64
 xtR:(c.X.length:Int)+c.T.length+1<=c.R
 xtQ:(c.X.length:Int)+c.T.length<=c.Q
 len:0<=c.len/\c.len<=65535
 words:0<=c.words/\c.words<=1048576
 n:c.fl.n<=65536
 m:c.fk.n<=65536
 tp:c.tp=(if c.mode=3 then(c.fk.n:Int)else c.fl.n+c.fk.n)
 sl:c.sl=(if c.mode=3 then(c.fl.n:Int)+c.R else c.X.length+1)
 fixed:c.fixed=2*c.T.length+2*c.X.length+c.R+c.Q+max c.R c.Q
 mul:0<=c.sl*c.ns
theorem H8 {m:Int}{x t:Nat}{R:Int}{k:List bx}{n b:Int}(h:pu m x t R l Q k n b=0):lU R l Q k=0/\yn R Q x t=0:=by
 unfold pu at h;split at h
 .rename_i c;exact(c h).elim
 split at h
 .rename_i c;exact(c h).elim
 split at h
 .rename_i c;exact(c h).elim
 rename_i c1 c2 c3;exact⟨by omega,by omega⟩
theorem Wv {R:Int}{k:List bx}(h:lU R l Q k=0):Cd R l=0/\Cd Q k=0:=by
 unfold lU at h
 repeat' split at h
 all_goals first|(exact absurd h (by assumption))|skip
 unfold Cd;constructor
 .repeat' split
  all_goals first|(rename_i c;exact(by omega))|omega
 .repeat' split
  all_goals first|(rename_i c;exact(by omega))|omega
theorem M5 {R:Int}{x t:Nat}(d:x<=64)(b:t<=64)(h:yn R Q x t=0):(x:Int)+t+1<=R/\(x:Int)+t<=Q:=by
 unfold yn at h;rw[ad (n:=(x:Int)+t) (by omega),ad (n:=(x:Int)+t+1) (by omega)]at h
 repeat' split at h
 all_goals omega
theorem Cx.Ok.num {c:Cx}(h:c.Ok):Num c:=by
 have f:=FR h.hl h.hk h.hc;obtain⟨v,d⟩:=H8 h.hc;obtain⟨e,g⟩:=M5 f.xs.2 f.ts d;have b:=h.pl.w;have u:=h.pk.w;have s:=Pq h.hl h.hk h.hc;refine⟨f.mode,f.regs,f.regs',f.xs,f.ts,e,g,f.len,f.bud,h.pl.n,h.pk.n, ?_, ?_, ?_, ?_⟩
 .rw[h.tp];unfold tv;rw[b,u]
 .rw[h.sl];unfold tu;rw[b]
 .rw[h.fixed];unfold vw;rfl
 .rw[h.sl];exact(Ym (by have:=s.sl;omega) h.ns).1
section
variable {c:Cx}
theorem aV4 :c.off 1=c.T.length:=Nat.zero_add _
theorem aV5 :c.off 2=c.T.length+c.X.length:=by show c.off 1+_=_;rw[aV4];rfl
theorem aV6 :c.off 3=c.T.length+c.X.length+c.R.toNat:=by show c.off 2+_=_;rw[aV5];rfl
theorem aV7 :c.off 4=c.T.length+c.X.length+c.R.toNat+c.Q.toNat:=by show c.off 3+_=_;rw[aV6];rfl
theorem aV8 :c.off 5=c.T.length+c.X.length+c.R.toNat+c.Q.toNat+max c.R.toNat c.Q.toNat:=by show c.off 4+_=_;rw[aV7];rfl
theorem aV9 :c.off 6=c.T.length+c.X.length+c.R.toNat+c.Q.toNat+max c.R.toNat c.Q.toNat+c.X.length:=by show c.off 5+_=_;rw[aV8];rfl
theorem aM2 :c.off 7=c.T.length+c.X.length+c.R.toNat+c.Q.toNat+max c.R.toNat c.Q.toNat+c.X.length+c.T.length:=by show c.off 6+_=_;rw[aV9];rfl
theorem aW0 :c.off 8=c.off 7+c.tp.toNat:=rfl
theorem Lr :c.off 9=c.off 8+(c.sl*c.ns).toNat:=rfl
theorem Yx (h:i<=j):c.off i<=c.off j:=by
 induction j with
 |zero=>rw[Nat.le_zero.1 h];exact Nat.le_refl _
 |succ j b=>
  rcases Nat.lt_or_ge i (j+1)with h1|h1
  .exact Nat.le_trans (b (by omega)) (Nat.le_add_right _ _)
  .rw[Nat.le_antisymm h h1];exact Nat.le_refl _
theorem ga (h:i<j):c.off i+c.sz i<=c.off j:=Yx (c:=c) (i:=i+1) h
theorem Cx.Ok.off9_le (h:c.Ok):(c.off 9:Int)<=c.words:=by
 have n:=h.num;have e:=n.R;have g:=n.Q;have u:=n.fixed;have b:=n.tp;have v:=n.mul;have y:=h.fit;have d:0<=c.tp:=by rw[b];split<;>omega
 rw[Lr,aW0,aM2];omega
theorem Cx.P_get (h:i<10):c.P[i]?=O (c.off i:Int):=by
 unfold Cx.P;rw[List.getElem?_map,List.getElem?_range h];rfl
theorem Cx.P_len :c.P.length=10:=by unfold Cx.P;simp
def Wd (c:Cx)(W:Zd):Prop:=W.length=c.words.toNat
theorem Wd.tk (h:c.Ok)(b:Wd c W):c.off 9<=W.length/\W.length<=1048576:=by
 have:=h.off9_le;have:=h.num.words;unfold Wd at b;omega
theorem Wd.put (h:c.Ok)(b:Wd c W)(d:o+w.length<=c.off 9):Wd c (put W o w):=by
 have:=b.tk h;unfold Wd at b⊢;rw[ap5 (by omega),b]
theorem Qr {k:List bx}(h:c.Ok)(u:Wd c W)(hi:ii=(i:Int))(b:i<9):
  bj ii a0 a1 a2 a3 a4 a5 a6 a7 a8 a9 a10 a11 a12 a13 a14 a15 a16 X T l k c.P c.tk lv pk bd W=O (seg W (c.off i) (c.sz i)):=by
 subst hi;have d:=u.tk h;have g:=ga (c:=c) (i:=i) (j:=9) b;unfold bj;rw[bq (show i<c.P.length by rw[Cx.P_len];omega)];simp only[zG];rw[Cx.P_get (show i<10 by omega)];simp only[zG];rw[ad (n:=(i:Int)+1) (by omega),show(i:Int)+1=((i+1:Nat):Int)by omega,bq (show i+1<c.P.length by rw[Cx.P_len];omega)];simp only[zG];rw[Cx.P_get (show i+1<10 by omega)];simp only[zG]
 have e:IntKind.i64.wrap ((c.off (i+1):Int)-(c.off i:Int))=(c.sz i:Int):=by
  have:c.off (i+1)=c.off i+c.sz i:=rfl;rw[Zi];omega
 rw[e];unfold Cx.tk;rw[yi g d.1 d.2];rfl
theorem put1 {k:List bx}(h:c.Ok)(e:Wd c W)(hi:ii=(i:Int))(b:i<9)(u:w.length<=c.sz i):
  am ii w a0 a1 a2 a3 a4 a5 a6 a7 a8 a9 a10 a11 a12 a13 a14 a15 a16 X T l k c.P c.tk lv pk bd W=O (put W (c.off i) w):=by
 subst hi;have d:=e.tk h;have g:=ga (c:=c) (i:=i) (j:=9) b;unfold am;rw[bq (show i<c.P.length by rw[Cx.P_len];omega)];simp only[zG];rw[Cx.P_get (show i<10 by omega)];simp only[zG];unfold Cx.tk;rw[rz (by omega) d.1 d.2];rfl
theorem ML {k:List bx}(h:c.Ok)(u:Wd c W)(hi:ii=(i:Int))(b:i<9):
  be ii a0 a1 a2 a3 a4 a5 a6 a7 a8 a9 a10 a11 a12 a13 a14 a15 a16 X T l k c.P c.tk sb sn sx lv pk bd W=O (seg W (c.off i) (c.sz i)):=by
 subst hi;have d:=u.tk h;have g:=ga (c:=c) (i:=i) (j:=9) b;unfold be;rw[bq (show i<c.P.length by rw[Cx.P_len];omega)];simp only[zG];rw[Cx.P_get (show i<10 by omega)];simp only[zG];rw[ad (n:=(i:Int)+1) (by omega),show(i:Int)+1=((i+1:Nat):Int)by omega,bq (show i+1<c.P.length by rw[Cx.P_len];omega)];simp only[zG];rw[Cx.P_get (show i+1<10 by omega)];simp only[zG]
 have e:IntKind.i64.wrap ((c.off (i+1):Int)-(c.off i:Int))=(c.sz i:Int):=by
  have:c.off (i+1)=c.off i+c.sz i:=rfl;rw[Zi];omega
 rw[e];unfold Cx.tk;rw[yi g d.1 d.2];rfl
theorem Ii {k:List bx}(h:c.Ok)(e:Wd c W)(hi:ii=(i:Int))(b:i<9)(u:w.length<=c.sz i):
  aj ii w a0 a1 a2 a3 a4 a5 a6 a7 a8 a9 a10 a11 a12 a13 a14 a15 a16 X T l k c.P c.tk sb sn sx lv pk bd W=O (put W (c.off i) w):=by
 subst hi;have d:=e.tk h;have g:=ga (c:=c) (i:=i) (j:=9) b;unfold aj;rw[bq (show i<c.P.length by rw[Cx.P_len];omega)];simp only[zG];rw[Cx.P_get (show i<10 by omega)];simp only[zG];unfold Cx.tk;rw[rz (by omega) d.1 d.2];rfl
theorem J7 {R:Int}(d:1<=R/\R<=64)(e:(a.length:Int)<=R):jM R l a=O (fill R a):=by
 unfold jM ak;rw[bp (by omega) (by omega)];simp only[zG];rw[ad (n:=R-(a.length:Int)) (by omega)]
 have b:lJ 8 (R-(a.length:Int))=Za:=by
  unfold lJ;rw[Zf,Zf,Zf];rfl
 rw[b,ci,bp (by rw[aD];omega) (by omega),show(R-(a.length:Int)).toNat=R.toNat-a.length by omega];rfl
theorem Xn {R:Int}{g:List bx}{b:Zd}{k:List bx}(h:c.Ok)(u:Wd c W)(C:1<=R/\R<=64)(F:(x.length:Int)+c.T.length+b.length<=R):
  gE R g x b a0 a1 a2 a3 a4 a5 a6 a7 a8 a9 a10 a11 a12 a13 a14 a15 a16 X T l k c.P c.tk lv pk bd W=O (fill R (x++(seg W 0 c.T.length++b))):=by
 have D:=u.tk h;have B:=ga (c:=c) (i:=0) (j:=9) (by omega);have y:(seg W 0 c.T.length).length=c.T.length:=dp (by have:c.off 0+c.sz 0=0+c.T.length:=rfl;omega);unfold gE;rw[Qr (ii:=0) (i:=0) h u rfl (by omega)];simp only[zG];have d:seg W (c.off 0) (c.sz 0)=seg W 0 c.T.length:=rfl
 rw[d,M1 (λa v=>by
  simp only[List.mem_cons,bB,or_false]at v
  rcases v with rfl|rfl|rfl<;>omega) (by simp)]
 simp only[zG];have e:[x,seg W 0 c.T.length,b].flatten=x++(seg W 0 c.T.length++b):=by simp
 have E:(x++(seg W 0 c.T.length++b)).length=x.length+c.T.length+b.length:=by rw[aB,aB,y];omega
 rw[e];generalize x++(seg W 0 c.T.length++b)=a at*;rw[ad (n:=R-(a.length:Int)) (by omega)]
 have A:lJ 8 (R-(a.length:Int))=Za:=by
  unfold lJ;rw[Zf,Zf,Zf];rfl
 rw[A,ci,bp (by rw[aD];omega) (by omega),show(R-(a.length:Int)).toNat=R.toNat-a.length by omega];rfl
theorem Sr {R:Int}{g:List bx}{b:Zd}{k:List bx}(h:c.Ok)(u:Wd c W)(C:1<=R/\R<=64)(F:(x.length:Int)+c.T.length+b.length<=R):
  fS R g x b a0 a1 a2 a3 a4 a5 a6 a7 a8 a9 a10 a11 a12 a13 a14 a15 a16 X T l k c.P c.tk sb sn sx lv pk bd W=O (fill R (x++(seg W 0 c.T.length++b))):=by
 have D:=u.tk h;have B:=ga (c:=c) (i:=0) (j:=9) (by omega);have y:(seg W 0 c.T.length).length=c.T.length:=dp (by have:c.off 0+c.sz 0=0+c.T.length:=rfl;omega);unfold fS;rw[ML (ii:=0) (i:=0) h u rfl (by omega)];simp only[zG];have d:seg W (c.off 0) (c.sz 0)=seg W 0 c.T.length:=rfl
 rw[d,M1 (λa v=>by
  simp only[List.mem_cons,bB,or_false]at v
  rcases v with rfl|rfl|rfl<;>omega) (by simp)]
 simp only[zG];have e:[x,seg W 0 c.T.length,b].flatten=x++(seg W 0 c.T.length++b):=by simp
 have E:(x++(seg W 0 c.T.length++b)).length=x.length+c.T.length+b.length:=by rw[aB,aB,y];omega
 rw[e];generalize x++(seg W 0 c.T.length++b)=a at*;rw[ad (n:=R-(a.length:Int)) (by omega)]
 have A:lJ 8 (R-(a.length:Int))=Za:=by
  unfold lJ;rw[Zf,Zf,Zf];rfl
 rw[A,ci,bp (by rw[aD];omega) (by omega),show(R-(a.length:Int)).toNat=R.toNat-a.length by omega];rfl
end
end
section
open Go.IntKind renaming wrap -> zH, i64 -> zI, u64 -> zJ
open List renaming range -> bB, replicate -> bD, getElem?_eq_none -> cB, length_append -> cD, length_take -> cK, drop_zero -> cL, ext_getElem? -> cM
open Nat renaming le_refl -> aB, le_of_eq -> aD
theorem VT {β:Type}{n:Int}{y:Option β}(h:0<=n/\n<=1048576):gd (Nat.beq 1 (Sh.w (.int .u64))&&Zc (0<=n)&&Zc (n<=n)&&Zc ((8:Int)*n<=140737488355328)&&Nat.ble 1 8) y=y:=by
 rw[zB h.1,zB (Int.le_refl n),Zf];rfl
section
variable {c:Cx}
theorem Cx.Ok.of (h:c.Ok):iJ c.mode c.X c.T c.R c.l c.Q c.k c.len c.words=O ((c.fl.n:Int),(c.fk.n:Int)):=by
 rw[UL h.hl h.hk,zF (λk=>k h.hc),h.pl.w,h.pk.w]
def cj (n:Nat):Zd:=bD n 0
def stepR (c:Cx)(W:Zd)(p:Int):TS:=tq c.fl (fill c.R (seg W (c.off 1) c.X.length++(seg W 0 c.T.length++[zH zJ p]))) (cj c.fl.n)
def lossR (c:Cx)(W x:Zd):TS:=tq c.fk (fill c.Q (x++(seg W 0 c.T.length++[]))) (cj c.fk.n)
def yg (x:Nat)(g a:Zd):Zd:=(bB g.length).map λ(i:Nat)=>IntKind.u64.wrap (rg g (i:Int)+rg a ((x+i:Nat):Int))
def yj (c:Cx)(W a:Zd):Zd:=
 put (put (put W (c.off 4) a) (c.off 5) (a.take c.X.length)) (c.off 6) (yg c.X.length (seg (put (put W (c.off 4) a) (c.off 5) (a.take c.X.length)) (c.off 6) c.T.length) a)
theorem yh (x:Nat)(g a:Zd):(yg x g a).length=g.length:=by unfold yg;simp
theorem Wd.in' (h:c.Ok)(b:Wd c W)(hi:i<9):c.off i+c.sz i<=W.length:=by
 have:=b.tk h;have:=ga (c:=c) (i:=i) (j:=9) hi;omega
theorem Gx {g:Zd}{f:Int×Zd->Option ((Int×Zd)⊕Zd)}(I:g.length<=64)(F:X.length<=64)(H:X.length+g.length<=a.length)(A: ∀s,f s=cond (Zc (s.1<(((g.length:Nat):Int))))
   ((ix s.1 (s.2.length)).bind λj=>(s.2[j]?).bind λy=>(ix (zH zI (((X.length:Nat):Int)+s.1)) a.length).bind λC=>(a[C]?).bind λD=>(ix s.1 (s.2.length)).bind λh=>(s.2[h]?).bind λE=>O (.inl (zH zI (s.1+1),s.2.set h (zH zJ (y+D)))))
   (O (.inr s.2))):aq f di (0,g)=O (yg X.length g a):=by
 have v: ∀i,((bB g.length).map λ(j:Nat)=>if j<i then zH zJ (rg g (j:Int)+rg a ((X.length+j:Nat):Int))else rg g (j:Int)).length=g.length:=λi=>by simp
 have b: ∀i j,j<g.length->((bB g.length).map λ(j:Nat)=>if j<i then zH zJ (rg g (j:Int)+rg a ((X.length+j:Nat):Int))else rg g (j:Int))[j]?=O (if j<i then zH zJ (rg g (j:Int)+rg a ((X.length+j:Nat):Int))else rg g (j:Int)):=λi j d=>by
  rw[List.getElem?_map,List.getElem?_range d];rfl
 have e0:g=(bB g.length).map λ(j:Nat)=>if j<0 then zH zJ (rg g (j:Int)+rg a ((X.length+j:Nat):Int))else rg g (j:Int):=by
  apply cM;intro j;by_cases d:j<g.length
  .rw[b 0 j d,Zh,iM d]
  .rw[cB (by omega),cB (by simp;omega)]
 have B:yg X.length g a=(bB g.length).map λ(j:Nat)=>if j<g.length then zH zJ (rg g (j:Int)+rg a ((X.length+j:Nat):Int))else rg g (j:Int):=by
  unfold yg;apply List.map_congr_left;intro j d;rw[zE (List.mem_range.1 d)]
 rw[B];refine Eq.trans (congrArg (λy=>aq f di (0,y)) e0) ?_;refine fj (n:=g.length) (λi=>(bB g.length).map λ(j:Nat)=>if j<i then zH zJ (rg g (j:Int)+rg a ((X.length+j:Nat):Int))else rg g (j:Int)) (by omega) (λi hi=> ?_) ?_
 .rw[A];rw[zB (show(i:Int)<((g.length:Nat):Int)by omega),zC,bq (by rw[v];exact hi)];simp only[zG];rw[b i i hi];simp only[zG];rw[zF (Nat.lt_irrefl i),ad (n:=((X.length:Nat):Int)+(i:Int)) (by omega),show((X.length:Nat):Int)+(i:Int)=((X.length+i:Nat):Int)by omega,bq (show X.length+i<a.length by omega)];simp only[zG];rw[iM (show X.length+i<a.length by omega)];simp only[zG];rw[ad (n:=(i:Int)+1) (by omega)]
  congr 3
  apply cM;intro j;by_cases d:j<g.length
  .rw[b (i+1) j d];by_cases e:i=j
   .subst e;rw[List.getElem?_set_self (by rw[v];exact hi),zE (Nat.lt_succ_self i)]
   .rw[List.getElem?_set_ne e,b i j d]
    congr 1
    by_cases u:j<i
    .rw[zE u,Zg]
    .rw[zF u,Zh]
  .rw[cB (by simp;omega),cB (by simp;omega)]
 .rw[A];rw[Ze,zD]
theorem cd (n:Nat):(cj n).length=n:=List.length_replicate
theorem iq (h:c.Ok)(d:Wd c W)(p:Int):(fill c.R (seg W (c.off 1) c.X.length++(seg W 0 c.T.length++[zH zJ p]))).length=c.R.toNat/\(stepR c W p).1.length=c.R.toNat/\(stepR c W p).2.1.length=c.fl.n:=by
 have n:=h.num;have u:=d.in' h (i:=1) (by omega);have g:=d.in' h (i:=0) (by omega);have A:(seg W (c.off 1) c.X.length).length=c.X.length:=dp u;have y:(seg W 0 c.T.length).length=c.T.length:=dp g
 have e:(fill c.R (seg W (c.off 1) c.X.length++(seg W 0 c.T.length++[zH zJ p]))).length=c.R.toNat:=by
  apply kw;rw[cD,cD,A,y];have:=n.xtR;simp;omega
 obtain⟨_,v,b⟩:=rJ h.pl e (t:=cj c.fl.n) (by rw[cd];exact aB _) (by rw[cd];have:=n.n;omega);rw[cd]at b;exact⟨e,v,b⟩
theorem zr (h:c.Ok)(u:Wd c W)(v:x.length=c.X.length):(fill c.Q (x++(seg W 0 c.T.length++[]))).length=c.Q.toNat/\(lossR c W x).1.length=c.Q.toNat/\(lossR c W x).2.1.length=c.fk.n:=by
 have n:=h.num;have e:=u.in' h (i:=0) (by omega);have y:(seg W 0 c.T.length).length=c.T.length:=dp e
 have d:(fill c.Q (x++(seg W 0 c.T.length++[]))).length=c.Q.toNat:=by
  apply kw;rw[cD,cD,y,v];have:=n.xtQ;simp;omega
 obtain⟨_,g,b⟩:=rJ h.pk d (t:=cj c.fk.n) (by rw[cd];exact aB _) (by rw[cd];have:=n.m;omega);rw[cd]at b;exact⟨d,g,b⟩
theorem mR (h:c.Ok)(e:Wd c W)(A:c.X.length+c.T.length<=a.length)(g:a.length<=max c.R.toNat c.Q.toNat):
  Wd c (put W (c.off 4) a)/\Wd c (put (put W (c.off 4) a) (c.off 5) (a.take c.X.length))/\Wd c (yj c W a):=by
 have u:=ga (c:=c) (i:=4) (j:=9) (by omega);have v:=ga (c:=c) (i:=5) (j:=9) (by omega);have y:=ga (c:=c) (i:=6) (j:=9) (by omega);have B:c.sz 4=max c.R.toNat c.Q.toNat:=rfl;have C:c.sz 5=c.X.length:=rfl;have D:c.sz 6=c.T.length:=rfl;have d:=e.put h (w:=a) (o:=c.off 4) (by omega);have b:=d.put h (w:=a.take c.X.length) (o:=c.off 5) (by rw[cK];omega);refine⟨d,b, ?_⟩;unfold yj;refine b.put h ?_;rw[yh,dp (n:=c.T.length) (b.in' h (i:=6) (by omega))];omega
theorem aF6 (h:c.Ok)(b:Wd c W):
  gF c.fixed c.tp c.sl c.ns c.mode c.R c.Q c.len c.words L p q c0 c1 c2 c3 z c.X c.T c.l c.k c.P c.tk lv pk bd W=O (c.fixed,c.tp,c.sl,c.ns,c.mode,c.R,c.Q,c.len,c.words,L,p,q,c0,zH zI (c1+1),c2,c3,z,put W (c.off 2) (stepR c W p).1,(stepR c W p).1,(stepR c W p).2.1):=by
 have n:=h.num;obtain⟨d,y,A⟩:=iq h b p;have e:=b.in' h (i:=1) (by omega);have g:(seg W (c.off 1) c.X.length).length=c.X.length:=dp e;unfold gF;rw[h.of];simp only[zG];have B:=n.n;rw[VT (by omega),Qr (ii:=1) (i:=1) h b rfl (by omega)];simp only[zG];rw[VT (by omega),Xn h b n.R (by rw[show c.sz 1=c.X.length from rfl,g];have:=n.xtR;simp;omega)];simp only[zG];rw[VT (by omega),show c.sz 1=c.X.length from rfl,show bD ((c.fl.n:Int)).toNat (0:Int)=cj c.fl.n from rfl];obtain⟨u,v,C⟩:=rJ h.pl d (t:=cj c.fl.n) (by rw[cd];exact aB _) (by rw[cd];omega);rw[u];simp only[zG];rw[put1 (ii:=2) (i:=2) h b rfl (by omega) (by rw[show c.sz 2=c.R.toNat from rfl];exact aD v)];rfl
theorem ab1 (h:c.Ok)(b:Wd c W):
  fT c.fixed c.tp c.sl c.ns c.mode c.R c.Q c.len c.words L p q c0 c1 c2 c3 z c.X c.T c.l c.k c.P c.tk sb sn sx lv pk bd W=O (c.fixed,c.tp,c.sl,c.ns,c.mode,c.R,c.Q,c.len,c.words,L,p,q,c0,zH zI (c1+1),c2,c3,z,put W (c.off 2) (stepR c W p).1,(stepR c W p).1,(stepR c W p).2.1):=by
 have n:=h.num;obtain⟨d,y,A⟩:=iq h b p;have e:=b.in' h (i:=1) (by omega);have g:(seg W (c.off 1) c.X.length).length=c.X.length:=dp e;unfold fT;rw[h.of];simp only[zG];have B:=n.n;rw[VT (by omega),ML (ii:=1) (i:=1) h b rfl (by omega)];simp only[zG];rw[VT (by omega),Sr h b n.R (by rw[show c.sz 1=c.X.length from rfl,g];have:=n.xtR;simp;omega)];simp only[zG];rw[VT (by omega),show c.sz 1=c.X.length from rfl,show bD ((c.fl.n:Int)).toNat (0:Int)=cj c.fl.n from rfl];obtain⟨u,v,C⟩:=rJ h.pl d (t:=cj c.fl.n) (by rw[cd];exact aB _) (by rw[cd];omega);rw[u];simp only[zG];rw[Ii (ii:=2) (i:=2) h b rfl (by omega) (by rw[show c.sz 2=c.R.toNat from rfl];exact aD v)];rfl
theorem ay6 (h:c.Ok)(u:Wd c W)(B:r.length=c.Q.toNat)(y:a.length=c.Q.toNat)(C:t.length=c.fk.n):
  md c.Q c.fixed c.tp c.sl c.ns c.mode c.R c.Q c.len c.words L p q c0 c1 c2 c3 z c.k r a t c.X c.T c.l c.P c.tk lv pk bd W=O (c.fixed,c.tp,c.sl,c.ns,c.mode,c.R,c.Q,c.len,c.words,L,p,q,c0,c1,c2,zH zI (c3+1),z,(jr c.fk r a t).1,(jr c.fk r a t).2.1,yj c W (jr c.fk r a t).2.1):=by
 have n:=h.num;obtain⟨D,N,V⟩:=pB h.pk B y (aD C.symm) (by have:=n.n;have:=n.m;omega);have J:=n.R;have I:=n.Q;have F:=n.xtR;have H:=n.xtQ;have M:=n.x;have K:=n.t;unfold md;rw[D];simp only[zG];generalize jr c.fk r a t=d at*;have b:=mR h (a:=d.2.1) u (by omega) (by omega);obtain⟨v,e,E⟩:=b;rw[put1 (ii:=4) (i:=4) h u rfl (by omega) (by rw[show c.sz 4=max c.R.toNat c.Q.toNat from rfl];omega)];simp only[zG];rw[Zl,ci,show((c.X.length:Int)).toNat-0=c.X.length by omega,cL,put1 (ii:=5) (i:=5) h v rfl (by omega) (by rw[cK,show c.sz 5=c.X.length from rfl];omega)];simp only[zG];rw[Qr (ii:=6) (i:=6) h e rfl (by omega)];simp only[zG];rw[show c.sz 6=c.T.length from rfl];have A:(seg (put (put W (c.off 4) d.2.1) (c.off 5) (d.2.1.take c.X.length)) (c.off 6) c.T.length).length=c.T.length:=dp (e.in' h (i:=6) (by omega));rw[Gx (f:=rT c.X (0,d.1,d.2.1) _) (X:=c.X) (a:=d.2.1) (g:=seg (put (put W (c.off 4) d.2.1) (c.off 5) (d.2.1.take c.X.length)) (c.off 6) c.T.length) (by omega) (by omega) (by omega) (λs=>rfl)]
 simp only[zG];rw[put1 (ii:=6) (i:=6) h e rfl (by omega) (by rw[yh,A];exact aB _)];rfl
theorem ay7 (h:c.Ok)(u:Wd c W)(B:r.length=c.Q.toNat)(y:a.length=c.Q.toNat)(C:t.length=c.fk.n):
  kG c.Q c.fixed c.tp c.sl c.ns c.mode c.R c.Q c.len c.words L p q c0 c1 c2 c3 z c.k r a t c.X c.T c.l c.P c.tk sb sn sx lv pk bd W=O (c.fixed,c.tp,c.sl,c.ns,c.mode,c.R,c.Q,c.len,c.words,L,p,q,c0,c1,c2,zH zI (c3+1),z,(jr c.fk r a t).1,(jr c.fk r a t).2.1,yj c W (jr c.fk r a t).2.1):=by
 have n:=h.num;obtain⟨D,N,V⟩:=pB h.pk B y (aD C.symm) (by have:=n.n;have:=n.m;omega);have J:=n.R;have I:=n.Q;have F:=n.xtR;have H:=n.xtQ;have M:=n.x;have K:=n.t;unfold kG;rw[D];simp only[zG];generalize jr c.fk r a t=d at*;have b:=mR h (a:=d.2.1) u (by omega) (by omega);obtain⟨v,e,E⟩:=b;rw[Ii (ii:=4) (i:=4) h u rfl (by omega) (by rw[show c.sz 4=max c.R.toNat c.Q.toNat from rfl];omega)];simp only[zG];rw[Zl,ci,show((c.X.length:Int)).toNat-0=c.X.length by omega,cL,Ii (ii:=5) (i:=5) h v rfl (by omega) (by rw[cK,show c.sz 5=c.X.length from rfl];omega)];simp only[zG];rw[ML (ii:=6) (i:=6) h e rfl (by omega)];simp only[zG];rw[show c.sz 6=c.T.length from rfl];have A:(seg (put (put W (c.off 4) d.2.1) (c.off 5) (d.2.1.take c.X.length)) (c.off 6) c.T.length).length=c.T.length:=dp (e.in' h (i:=6) (by omega));rw[Gx (f:=qh c.X (0,d.1,d.2.1) _) (X:=c.X) (a:=d.2.1) (g:=seg (put (put W (c.off 4) d.2.1) (c.off 5) (d.2.1.take c.X.length)) (c.off 6) c.T.length) (by omega) (by omega) (by omega) (λs=>rfl)]
 simp only[zG];rw[Ii (ii:=6) (i:=6) h e rfl (by omega) (by rw[yh,A];exact aB _)];rfl
theorem ay8 (h:c.Ok)(u:Wd c W)(B:r.length=c.R.toNat)(y:a.length=c.R.toNat)(C:t.length=c.fl.n):
  kH c.R c.fixed c.tp c.sl c.ns c.mode c.R c.Q c.len c.words L p q c0 c1 c2 c3 z c.l r a t c.X c.T c.k c.P c.tk sb sn sx lv pk bd W=O (c.fixed,c.tp,c.sl,c.ns,c.mode,c.R,c.Q,c.len,c.words,L,p,q,c0,c1,c2,zH zI (c3+1),z,(jr c.fl r a t).1,(jr c.fl r a t).2.1,yj c W (jr c.fl r a t).2.1):=by
 have n:=h.num;obtain⟨D,N,V⟩:=pB h.pl B y (aD C.symm) (by have:=n.n;have:=n.m;omega);have J:=n.R;have I:=n.Q;have F:=n.xtR;have H:=n.xtQ;have M:=n.x;have K:=n.t;unfold kH;rw[D];simp only[zG];generalize jr c.fl r a t=d at*;have b:=mR h (a:=d.2.1) u (by omega) (by omega);obtain⟨v,e,E⟩:=b;rw[Ii (ii:=4) (i:=4) h u rfl (by omega) (by rw[show c.sz 4=max c.R.toNat c.Q.toNat from rfl];omega)];simp only[zG];rw[Zl,ci,show((c.X.length:Int)).toNat-0=c.X.length by omega,cL,Ii (ii:=5) (i:=5) h v rfl (by omega) (by rw[cK,show c.sz 5=c.X.length from rfl];omega)];simp only[zG];rw[ML (ii:=6) (i:=6) h e rfl (by omega)];simp only[zG];rw[show c.sz 6=c.T.length from rfl];have A:(seg (put (put W (c.off 4) d.2.1) (c.off 5) (d.2.1.take c.X.length)) (c.off 6) c.T.length).length=c.T.length:=dp (e.in' h (i:=6) (by omega));rw[Gx (f:=qi c.X (0,d.1,d.2.1) _) (X:=c.X) (a:=d.2.1) (g:=seg (put (put W (c.off 4) d.2.1) (c.off 5) (d.2.1.take c.X.length)) (c.off 6) c.T.length) (by omega) (by omega) (by omega) (λs=>rfl)]
 simp only[zG];rw[Ii (ii:=6) (i:=6) h e rfl (by omega) (by rw[yh,A];exact aB _)];rfl
def HT (c:Cx)(W x:Zd):Zd:=yj c (put W (c.off 3) (lossR c W x).1) (jr c.fk (lossR c W x).1 (fill c.Q [1]) (lossR c W x).2.1).2.1
theorem B3 (h:c.Ok)(b:Wd c W)(u:x.length=c.X.length):Wd c (put W (c.off 3) (lossR c W x).1)/\Wd c (HT c W x):=by
 have n:=h.num;obtain⟨v,e,g⟩:=zr h b u;have C:=n.R;have B:=n.Q;have A:=n.xtQ;have E:=n.x;have D:=n.m;have y:=ga (c:=c) (i:=3) (j:=9) (by omega);have I:c.sz 3=c.Q.toNat:=rfl;have d:=b.put h (w:=(lossR c W x).1) (o:=c.off 3) (by omega);obtain⟨_,F,H⟩:=pB h.pk e (a:=fill c.Q [1]) (t:=(lossR c W x).2.1) (kw (by simp;omega)) (aD g.symm) (by omega);exact⟨d,(mR h d (by omega) (by omega)).2.2⟩
theorem aV0 (h:c.Ok)(b:Wd c W)(g:x.length=c.X.length):
  ki x c.fixed c.tp c.sl c.ns c.mode c.R c.Q c.len c.words L p q c0 c1 c2 c3 z c.X c.T c.l c.k c.P c.tk lv pk bd W=O (c.fixed,c.tp,c.sl,c.ns,c.mode,c.R,c.Q,c.len,c.words,L,p,q,c0,c1,zH zI (c2+1),zH zI (c3+1),rg (lossR c W x).1 0,HT c W x):=by
 have n:=h.num;obtain⟨u,d,v⟩:=zr h b g;obtain⟨B,K⟩:=B3 h b g;have E:=n.R;have D:=n.Q;have C:=n.xtQ;have H:=n.x;have F:=n.m;unfold ki;rw[h.of];simp only[zG];rw[VT (by omega),Xn h b n.Q (by simp;omega)];simp only[zG];rw[VT (by omega),show bD ((c.fk.n:Int)).toNat (0:Int)=cj c.fk.n from rfl];obtain⟨A,I,J⟩:=rJ h.pk u (t:=cj c.fk.n) (by rw[cd];exact aB _) (by rw[cd];omega);rw[A];simp only[zG];have e:tq c.fk (fill c.Q (x++(seg W 0 c.T.length++[]))) (cj c.fk.n)=lossR c W x:=rfl;rw[e];have i0:ix 0 (lossR c W x).1.length=O 0:=bq (k:=0) (by omega);have y:(lossR c W x).1[0]?=O (rg (lossR c W x).1 0):=iM (k:=0) (by omega);rw[i0];simp only[zG];rw[y];simp only[zG];rw[put1 (ii:=3) (i:=3) h b rfl (by omega) (by rw[show c.sz 3=c.Q.toNat from rfl];exact aD d)];simp only[zG];rw[J7 n.Q (by simp;omega)]
 simp only[zG];rw[ay6 h B d (kw (by simp;omega)) v];rfl
theorem aM6 (h:c.Ok)(b:Wd c W)(u:0<=lv)(y:lv<=pk)(g:lv+c.fk.n<=bd)(d:bd<=1048576):
  jE i0 c.fixed c.tp c.sl c.ns c.mode c.R c.Q c.len c.words L p q c0 c1 c2 c3 z c.X c.T c.l c.k c.P c.tk lv pk bd W=O (c.fixed,c.tp,c.sl,c.ns,c.mode,c.R,c.Q,c.len,c.words,L,p,q,c0,c1,zH zI (c2+1),zH zI (c3+1),rg (lossR c W (seg W (c.off 1) c.X.length)).1 0,lv,max pk (lv+c.fk.n),bd,HT c W (seg W (c.off 1) c.X.length)):=by
 have n:=h.num;have e:=b.in' h (i:=1) (by omega);have v:(seg W (c.off 1) c.X.length).length=c.X.length:=dp e;unfold jE;rw[h.of];simp only[zG];rw[py (by omega) u g d];simp only[zG];rw[Qr (ii:=1) (i:=1) h b rfl (by omega)];simp only[zG];rw[show c.sz 1=c.X.length from rfl,aV0 h b v];simp only[zG];rw[ut (by omega) (by omega) (by omega) (by omega)];simp only[zG];rw[show lv+(c.fk.n:Int)-c.fk.n=lv by omega]
theorem aJ6 (h:c.Ok)(b:Wd c W)(g:x.length=c.X.length):
  i5 x c.fixed c.tp c.sl c.ns c.mode c.R c.Q c.len c.words L p q c0 c1 c2 c3 z c.X c.T c.l c.k c.P c.tk sb sn sx lv pk bd W=O (c.fixed,c.tp,c.sl,c.ns,c.mode,c.R,c.Q,c.len,c.words,L,p,q,c0,c1,zH zI (c2+1),zH zI (c3+1),rg (lossR c W x).1 0,HT c W x):=by
 have n:=h.num;obtain⟨u,d,v⟩:=zr h b g;obtain⟨B,K⟩:=B3 h b g;have E:=n.R;have D:=n.Q;have C:=n.xtQ;have H:=n.x;have F:=n.m;unfold i5;rw[h.of];simp only[zG];rw[VT (by omega),Sr h b n.Q (by simp;omega)];simp only[zG];rw[VT (by omega),show bD ((c.fk.n:Int)).toNat (0:Int)=cj c.fk.n from rfl];obtain⟨A,I,J⟩:=rJ h.pk u (t:=cj c.fk.n) (by rw[cd];exact aB _) (by rw[cd];omega);rw[A];simp only[zG];have e:tq c.fk (fill c.Q (x++(seg W 0 c.T.length++[]))) (cj c.fk.n)=lossR c W x:=rfl;rw[e];have i0:ix 0 (lossR c W x).1.length=O 0:=bq (k:=0) (by omega);have y:(lossR c W x).1[0]?=O (rg (lossR c W x).1 0):=iM (k:=0) (by omega);rw[i0];simp only[zG];rw[y];simp only[zG];rw[Ii (ii:=3) (i:=3) h b rfl (by omega) (by rw[show c.sz 3=c.Q.toNat from rfl];exact aD d)];simp only[zG];rw[J7 n.Q (by simp;omega)]
 simp only[zG];rw[ay7 h B d (kw (by simp;omega)) v];rfl
theorem aM7 (h:c.Ok)(b:Wd c W)(u:0<=lv)(y:lv<=pk)(g:lv+c.fk.n<=bd)(d:bd<=1048576):
  iA i0 c.fixed c.tp c.sl c.ns c.mode c.R c.Q c.len c.words L p q c0 c1 c2 c3 z c.X c.T c.l c.k c.P c.tk sb sn sx lv pk bd W=O (c.fixed,c.tp,c.sl,c.ns,c.mode,c.R,c.Q,c.len,c.words,L,p,q,c0,c1,zH zI (c2+1),zH zI (c3+1),rg (lossR c W (seg W (c.off 1) c.X.length)).1 0,lv,max pk (lv+c.fk.n),bd,HT c W (seg W (c.off 1) c.X.length)):=by
 have n:=h.num;have e:=b.in' h (i:=1) (by omega);have v:(seg W (c.off 1) c.X.length).length=c.X.length:=dp e;unfold iA;rw[h.of];simp only[zG];rw[py (by omega) u g d];simp only[zG];rw[ML (ii:=1) (i:=1) h b rfl (by omega)];simp only[zG];rw[show c.sz 1=c.X.length from rfl,aJ6 h b v];simp only[zG];rw[ut (by omega) (by omega) (by omega) (by omega)];simp only[zG];rw[show lv+(c.fk.n:Int)-c.fk.n=lv by omega]
end
end
section
open Go.IntKind renaming wrap -> zH, i64 -> zI, u64 -> zJ
open List renaming length_take -> aB
open Nat renaming le_of_eq -> aD
section
variable {c:Cx}
def L6 (c:Cx)(W r t:Zd):Zd:=yj c W (jr c.fl r (fill c.R (seg W (c.off 5) c.X.length)) t).2.1
theorem Hq (h:c.Ok)(b:Wd c W)(g:r.length=c.R.toNat)(u:t.length=c.fl.n):(fill c.R (seg W (c.off 5) c.X.length)).length=c.R.toNat/\Wd c (L6 c W r t):=by
 have n:=h.num;have A:=n.R;have y:=n.xtR;have C:=n.x;have B:=n.n;have e:=b.in' h (i:=5) (by omega);have v:(seg W (c.off 5) c.X.length).length=c.X.length:=dp e;have d:(fill c.R (seg W (c.off 5) c.X.length)).length=c.R.toNat:=kw (by omega);obtain⟨_,D,E⟩:=pB h.pl g d (aD u.symm) (by omega);exact⟨d,(mR h b (by omega) (by omega)).2.2⟩
theorem av4 (h:c.Ok)(b:Wd c W)(d:r.length=c.R.toNat)(e:t.length=c.fl.n):
  iB c.fixed c.tp c.sl c.ns c.mode c.R c.Q c.len c.words L p q c0 c1 c2 c3 z r t c.X c.T c.l c.k c.P c.tk sb sn sx lv pk bd W=O (c.fixed,c.tp,c.sl,c.ns,c.mode,c.R,c.Q,c.len,c.words,L,p,q,c0,c1,c2,zH zI (c3+1),z,(jr c.fl r (fill c.R (seg W (c.off 5) c.X.length)) t).1,L6 c W r t):=by
 have n:=h.num;have v:=n.R;have B:=n.xtR;obtain⟨g,y⟩:=Hq h b d e;have u:=b.in' h (i:=5) (by omega);have A:(seg W (c.off 5) c.X.length).length=c.X.length:=dp u;unfold iB;rw[ML (ii:=5) (i:=5) h b rfl (by omega)];simp only[zG];rw[show c.sz 5=c.X.length from rfl,J7 v (by omega)];simp only[zG];rw[ay8 h b d g e];rfl
def WB (c:Cx)(W:Zd)(p:Int):Zd:=L6 c (put W (c.off 2) (stepR c W p).1) (stepR c W p).1 (stepR c W p).2.1
theorem xB (h:c.Ok)(b:Wd c W)(p:Int):Wd c (put W (c.off 2) (stepR c W p).1):=by
 obtain⟨_,d,_⟩:=iq h b p;have e:=ga (c:=c) (i:=2) (j:=9) (by omega);have g:c.sz 2=c.R.toNat:=rfl;exact b.put h (by omega)
theorem aW2 (h:c.Ok)(b:Wd c W)(v:0<=lv)(A:lv<=pk)(u:lv+c.fl.n<=bd)(d:bd<=1048576):
  iQ i0 c.fixed c.tp c.sl c.ns c.mode c.R c.Q c.len c.words L p q c0 c1 c2 c3 z c.X c.T c.l c.k c.P c.tk sb sn sx lv pk bd W=O (c.fixed,c.tp,c.sl,c.ns,c.mode,c.R,c.Q,c.len,c.words,L,p,q,c0,zH zI (c1+1),c2,zH zI (c3+1),z,lv,max pk (lv+c.fl.n),bd,WB c W p):=by
 obtain⟨y,e,g⟩:=iq h b p;unfold iQ;rw[h.of];simp only[zG];rw[py (by omega) v u d];simp only[zG];rw[ab1 h b];simp only[zG];rw[av4 h (xB h b p) e g];simp only[zG];rw[ut (by omega) (by omega) (by omega) (by omega)];simp only[zG];rw[show lv+(c.fl.n:Int)-c.fl.n=lv by omega];rfl
def MX (c:Cx)(W:Zd)(p:Int):Zd:=L6 c (HT c (put W (c.off 2) (stepR c W p).1) ((stepR c W p).1.take c.X.length)) (stepR c W p).1 (stepR c W p).2.1
theorem aJ2 (h:c.Ok)(b:Wd c W)(A:0<=lv)(C:lv<=pk)(y:lv+(c.fl.n+c.fk.n)<=bd)(d:bd<=1048576):
  kI i0 c.fixed c.tp c.sl c.ns c.mode c.R c.Q c.len c.words L p q c0 c1 c2 c3 z c.X c.T c.l c.k c.P c.tk sb sn sx lv pk bd W=O (c.fixed,c.tp,c.sl,c.ns,c.mode,c.R,c.Q,c.len,c.words,L,p,q,c0,zH zI (c1+1),zH zI (c2+1),zH zI (zH zI (c3+1)+1),rg (lossR c (put W (c.off 2) (stepR c W p).1) ((stepR c W p).1.take c.X.length)).1 0,lv,max pk (lv+(c.fl.n+c.fk.n)),bd,MX c W p):=by
 have n:=h.num;have E:=n.R;have D:=n.xtR;have H:=n.n;have F:=n.m;obtain⟨B,u,v⟩:=iq h b p;have g:=xB h b p;have e:((stepR c W p).1.take c.X.length).length=c.X.length:=by rw[aB];omega
 unfold kI;rw[h.of];simp only[zG];rw[ad (n:=(c.fl.n:Int)+(c.fk.n:Int)) (by omega),py (by omega) A y d];simp only[zG];rw[ab1 h b];simp only[zG];rw[Zl,ci,show((c.X.length:Int)).toNat-0=c.X.length by omega,List.drop_zero,aJ6 h g e];simp only[zG];rw[av4 h (B3 h g e).2 u v];simp only[zG];rw[ut (by omega) (by omega) (by omega) (by omega)];simp only[zG];rw[show lv+((c.fl.n:Int)+c.fk.n)-(c.fl.n+c.fk.n)=lv by omega];rfl
def I7 (c:Cx)(W:Zd)(p:Int):Zd:=JL c.fl (fill c.R (seg W (c.off 1) c.X.length++(seg W 0 c.T.length++[zH zJ p])))
def adv1 (c:Cx)(W:Zd)(p:Int):Zd:=put (put W (c.off 2) (I7 c W p)) (c.off 1) ((I7 c W p).take c.X.length)
def advW (c:Cx)(W:Zd)(p:Int):Nat->Zd
 |0=>W
 |i+1=>adv1 c (advW c W p i) (p+i)
theorem VJ {R:Int}(h:r.length=R.toNat):fill R r=r:=by
 unfold fill;rw[h,Nat.sub_self];simp
theorem Eg (h:c.Ok)(d:Wd c W)(p:Int):nW c.R c.l (fill c.R (seg W (c.off 1) c.X.length++(seg W 0 c.T.length++[zH zJ p])))=O (0,I7 c W p)/\(I7 c W p).length=c.R.toNat:=by
 obtain⟨b,_,_⟩:=iq h d p;have:=Qk h.pl (r:=fill c.R (seg W (c.off 1) c.X.length++(seg W 0 c.T.length++[zH zJ p]))) (aD b);rw[VJ b]at this;exact this
theorem Ov (h:c.Ok)(b:Wd c W)(p:Int):Wd c (put W (c.off 2) (I7 c W p))/\Wd c (adv1 c W p):=by
 have n:=h.num;have y:=n.R;have v:=n.xtR;obtain⟨_,e⟩:=Eg h b p;have g:=ga (c:=c) (i:=1) (j:=9) (by omega);have u:=ga (c:=c) (i:=2) (j:=9) (by omega);have A:c.sz 1=c.X.length:=rfl;have B:c.sz 2=c.R.toNat:=rfl;have d:=b.put h (w:=I7 c W p) (o:=c.off 2) (by omega);exact⟨d,d.put h (by rw[aB];omega)⟩
theorem JQ (h:c.Ok){W:Zd}(b:Wd c W)(p:Int): ∀i,Wd c (advW c W p i)
 |0=>b
 |i+1=>(Ov h (JQ h b p i) _).2
theorem Xc (h:c.Ok)(u:Wd c W){m:Nat}(C:m<=65536)(D:0<=p/\p<=65536)(B:0<=c0/\c0<=4611686018427387904):
  iO (m:Int) c.fixed c.tp c.sl c.ns c.mode c.R c.Q c.len c.words L p q c0 c1 c2 c3 z c.X c.T c.l c.k c.P c.tk sb sn sx lv pk bd W=O (c.fixed,c.tp,c.sl,c.ns,c.mode,c.R,c.Q,c.len,c.words,L,p,q,c0+m,c1,c2,c3,z,advW c W p m):=by
 have n:=h.num;have y:=n.R;have E:=n.xtR;have F:=n.x;unfold iO
 have d:aq (gT (m:Int) c.X c.T c.l c.k c.P c.tk sb sn sx lv pk bd) di (0,c.fixed,c.tp,c.sl,c.ns,c.mode,c.R,c.Q,c.len,c.words,L,p,q,c0+((0:Nat):Int),c1,c2,c3,z,advW c W p 0)=O (c.fixed,c.tp,c.sl,c.ns,c.mode,c.R,c.Q,c.len,c.words,L,p,q,c0+m,c1,c2,c3,z,advW c W p m):=by
  refine fj (n:=m) (λi=>(c.fixed,c.tp,c.sl,c.ns,c.mode,c.R,c.Q,c.len,c.words,L,p,q,c0+(i:Int),c1,c2,c3,z,advW c W p i)) (by omega) (λi hi=> ?_) ?_
  .have b:=JQ h u p i;obtain⟨e,g⟩:=Eg h b (p+i);obtain⟨A,H⟩:=Ov h b (p+i);have v:(seg (advW c W p i) (c.off 1) c.X.length).length=c.X.length:=dp (b.in' h (i:=1) (by omega));simp only[gT];rw[zB (show(i:Int)<(m:Int)by omega),zC,ML (ii:=1) (i:=1) h b rfl (by omega)];simp only[zG];rw[show c.sz 1=c.X.length from rfl,ad (n:=p+(i:Int)) (by omega),Sr h b y (by rw[v];simp;omega)];simp only[zG];rw[e];simp only[zG];rw[Ii (ii:=2) (i:=2) h b rfl (by omega) (by rw[show c.sz 2=c.R.toNat from rfl];exact aD g)];simp only[zG];rw[Zl,ci,show((c.X.length:Int)).toNat-0=c.X.length by omega,List.drop_zero,Ii (ii:=1) (i:=1) h A rfl (by omega) (by rw[aB,show c.sz 1=c.X.length from rfl];omega)];simp only[zG];rw[ad (n:=(i:Int)+1) (by omega),ad (n:=c0+(i:Int)+1) (by omega),show c0+(i:Int)+1=c0+((i+1:Nat):Int)by omega]
   rfl
  .simp only[gT];rw[Ze,zD]
 rw[show c0+((0:Nat):Int)=c0 by omega,show advW c W p 0=W from rfl]at d;rw[d];rfl
end
end
section
open List renaming range -> aB
def jT (a n:Int):Bool:=if a<1 then Zb else if 9<a then Zb else if a=1 then Zc (1<=n/\n<65536)else if a<=4 then Zc (0<=n/\n<1048576)else Zc (n=0)
theorem Ot (a n:Int):rO a n=O (jT a n):=by
 unfold rO jT rP;by_cases d:a<1
 .rw[zB d,zE d];rfl
 rw[zA d,zF d];by_cases e:9<a
 .rw[zB e,zE e];rfl
 rw[zA e,zF e];show cond (Zc (a=1)) _ _=_;by_cases g:a=1
 .rw[zB g,zE g];by_cases b:1<=n
  .rw[zB b];simp[b]
  .rw[zA b];simp[b]
 rw[zA g,zF g,zB (show 1<=a by omega)];by_cases b:a<=4
 .rw[zB b,zE b];by_cases h:0<=n
  .rw[zB h];simp[h]
  .rw[zA h];simp[h]
 .rw[zA b,zF b];rfl
section
variable {c:Cx}
def sp (c:Cx)(k:Nat):Nat:=c.off 8+k*(c.X.length+1)
def gX (c:Cx)(W:Zd)(k:Nat):Int:=rg W (sp c k:Int)
def kR (c:Cx)(W:Zd):Zd:=(aB c.ns.toNat).map λ(k:Nat)=>gX c W k-1
structure Dy where
 L:Int
 p:Int
 q:Int
 c0:Int
 c1:Int
 c2:Int
 c3:Int
 z:Int
 lv:Int
 pk:Int
 W:Zd
def iI (c:Cx)(W:Zd):Nat:=(aB c.ns.toNat).countP λ(k:Nat)=>Zc (0<gX c W k)
structure Inv (c:Cx)(s:Dy):Prop where
 w:Wd c s.W
 L:0<=s.L/\s.L<=65535
 p:0<=s.p/\s.p<=s.L
 q: -1<=s.q/\s.q<=s.L
 tag: ∀k,k<c.ns.toNat->0<=gX c s.W k/\gX c s.W k<=s.L+1
 lv:s.lv=c.fixed+c.sl*iI c s.W
 pk:s.lv<=s.pk/\s.pk<=c.words
theorem qA (h:c.Ok)(v:c.mode≠3)(u:k<c.ns.toNat):sp c k+(c.X.length+1)<=c.off 9/\c.ns.toNat*(c.X.length+1)+c.off 8=c.off 9/\c.ns.toNat<=524288:=by
 have n:=h.num;have b:=n.sl;rw[zF v]at b;have d:=h.ns
 have e:(c.sl*c.ns).toNat=c.ns.toNat*(c.X.length+1):=by
  have:c.sl*c.ns=((c.ns.toNat*(c.X.length+1):Nat):Int):=by
   rw[Int.natCast_mul,b,Int.toNat_of_nonneg d.1,Int.mul_comm]
   congr 1
  rw[this];rfl
 have C:c.off 9=c.off 8+c.ns.toNat*(c.X.length+1):=by rw[Lr,e]
 have g:(k+1)*(c.X.length+1)<=c.ns.toNat*(c.X.length+1):=Nat.mul_le_mul_right _ u;rw[Nat.succ_mul]at g;have y:=h.off9_le;have A:=n.words;have B:c.ns.toNat*2<=c.ns.toNat*(c.X.length+1):=Nat.mul_le_mul_left _ (by have:=n.x;omega);unfold sp;omega
theorem yz (h:c.Ok)(g:c.mode≠3)(d:k<c.ns.toNat):df (c.off 8:Int) c.ns (c.X.length:Int) (k:Int)=O (sp c k:Int):=by
 obtain⟨b,u,v⟩:=qA h g d;have y:=h.off9_le;have A:=h.num.words;have B:=h.num.x;unfold sp at b;unfold df eg;simp only[zG];have e:(k:Int)*((c.X.length:Int)+1)=((k*(c.X.length+1):Nat):Int):=by rw[Int.natCast_mul];congr 1
 rw[ad (n:=(c.X.length:Int)+1) (by omega),e,ad (n:=((k*(c.X.length+1):Nat):Int)) (by omega),Zi];unfold sp
 congr 1
theorem Hk (h:c.Ok)(u:c.mode≠3)(e:Wd c W)(g:k<c.ns.toNat):fG (sp c k:Int) c.tk W=O (gX c W k,0):=by
 obtain⟨v,_,_⟩:=qA h u g;obtain⟨b,d⟩:=e.tk h;exact Vm (by omega) b d
theorem Hl (h:c.Ok)(d:c.mode≠3)(e:Wd c W)(u: ∀k,k<c.ns.toNat->0<=gX c W k/\gX c W k<=65536):gL (c.off 8:Int) c.ns (c.X.length:Int) c.tk W=O (kR c W):=by
 unfold gL;have g:=h.ns
 have b:aq (gM (c.off 8:Int) c.ns (c.X.length:Int) c.tk W) di (0,(aB 0).map λ(k:Nat)=>gX c W k-1)=O (kR c W):=by
  refine fj (n:=c.ns.toNat) (λi=>(aB i).map λ(k:Nat)=>gX c W k-1) (by omega) (λi hi=> ?_) ?_
  .have v:=u i hi;unfold gM;simp only;rw[Zf,zC,yz h d hi];simp only[zG];rw[Hk h d e hi];simp only[zG];rw[bp (by simp;omega) (by omega),ad (n:=(i:Int)+1) (by omega),ad (n:=gX c W i) (by omega),ad (n:=gX c W i-1) (by omega),List.range_succ,List.map_append];rfl
  .unfold gM;simp only;rw[Ze,zD];rfl
 have b:aq (gM (c.off 8:Int) c.ns (c.X.length:Int) c.tk W) di (0,[])=_:=b;rw[b];rfl
theorem Ej (b:k<c.ns.toNat):(kR c W)[k]?=O (gX c W k-1):=by
 unfold kR;rw[List.getElem?_map,List.getElem?_range b];rfl
theorem nU :(kR c W).length=c.ns.toNat:=by unfold kR;simp
theorem MG {l:Zd}(d:l.length<1000000)(h: ∀t∈l,-1<=t/\t<=L):fO l L=O Zb:=by
 unfold fO jy
 have b:aq (fP l L) di 0=O (.inr ()):=by
  refine pO (n:=l.length) (by omega) (λi hi=> ?_) ?_
  .have:=h l[i] (List.getElem_mem hi);unfold fP mn;rw[Zf,zC,cl hi];simp only[zG];rw[Ze,zD];simp only[zG];rw[Ze,zD,Zi];rfl
  .unfold fP;rw[Ze,zD]
 rw[b];rfl
theorem B8 {l:Zd}(d:0<=L/\L<=65535)(e:0<=p/\p<=L)(g: -1<=q/\q<=L)(b:l.length<1000000)(h: ∀t∈l,-1<=t/\t<=L):jP L p q l=O (.inr (p,q,L,l)):=by
 unfold jP xE mn;rw[zB (show 0<=L by omega),zB (show L<65536 by omega)];simp only[zC,zG,Bool.not_true,zD];rw[zA (show¬(1048576<(l.length:Int))by omega),zA (show¬p= -1 by omega),zA (show¬p< -1 by omega),zA (show¬L<p by omega),zA (show¬q< -1 by omega),zA (show¬L<q by omega)];simp only[zD,zG];rw[MG b h];simp only[zG,zD];unfold ie;rw[bp (by omega) (by omega)];rfl
end
end
section
open Bool renaming not_true -> aB
open Int renaming mul_le_mul_of_nonneg_left -> aD
open List renaming countP_le_length -> bB
variable {s:Dy}
section
variable {c:Cx}
def CC (c:Cx)(a n:Int)(s:Dy):Int×Dy:=
 if jT a n=Zb∨7<a then(2,s)
 else if(2<=a/\a<=4)/\c.ns<=n then(2,s)
 else if a=1 then(if s.L-s.p<n then(17,s)else(0,{s with p:=s.p+n,c0:=s.c0+n,W:=advW c s.W s.p n.toNat}))
 else if a=2 then(if 0<=gX c s.W n.toNat-1 then(15,s)else(0,{s with lv:=s.lv+c.sl,pk:=max s.pk (s.lv+c.sl),W:=put s.W (sp c n.toNat) (IntKind.u64.wrap (IntKind.i64.wrap (s.p+1))::seg s.W (c.off 1) c.X.length)}))
 else if a=3 then(if gX c s.W n.toNat-1<0 then(16,s)else(0,{s with p:=gX c s.W n.toNat-1,W:=put s.W (c.off 1) (seg s.W (sp c n.toNat+1) c.X.length)}))
 else if a=4 then(if gX c s.W n.toNat-1<0 then(16,s)else(0,{s with lv:=s.lv-c.sl,W:=put s.W (sp c n.toNat) (cj (c.X.length+1))}))
 else if a=5 then(if s.q≠ -1 then(18,s)else if s.p≠s.L then(17,s)else(0,{s with q:=s.p,c2:=s.c2+1,c3:=s.c3+1,z:=rg (lossR c s.W (seg s.W (c.off 1) c.X.length)).1 0,pk:=max s.pk (s.lv+c.fk.n),W:=HT c s.W (seg s.W (c.off 1) c.X.length)}))
 else if a=6 then(if s.q≠ -1 then(18,s)else if s.p≠s.L-1 then(17,s)else(0,{s with q:=s.p,c1:=s.c1+1,c2:=s.c2+1,c3:=s.c3+1+1,z:=rg (lossR c (put s.W (c.off 2) (stepR c s.W s.p).1) ((stepR c s.W s.p).1.take c.X.length)).1 0,pk:=max s.pk (s.lv+(c.fl.n+c.fk.n)),W:=MX c s.W s.p}))
 else(if s.q<=0 then(18,s)else if s.p≠s.q-1 then(17,s)else(0,{s with q:=s.p,c1:=s.c1+1,c3:=s.c3+1,pk:=max s.pk (s.lv+c.fl.n),W:=WB c s.W s.p}))
def aA4 (c:Cx)(r:Int×Dy):Int×Int×Int×Int×Int×Int×Int×Int×Int×Int×Int×Int×Int×Int×Int×Int×Int×Int×Int×Int×Int×Zd:=
 (r.1,c.fixed,c.tp,c.sl,c.ns,c.mode,c.R,c.Q,c.len,c.words,r.2.L,r.2.p,r.2.q,r.2.c0,r.2.c1,r.2.c2,r.2.c3,r.2.z,r.2.lv,r.2.pk,c.words,r.2.W)
def De (B:Int)(s:Dy):Prop:=(0<=s.c0/\s.c0<=B)/\(0<=s.c1/\s.c1<=B)/\(0<=s.c2/\s.c2<=B)/\(0<=s.c3/\s.c3<=B)
theorem U5 (c:Cx)(W:Zd):iI c W<=c.ns.toNat:=by
 unfold iI;exact Nat.le_trans bB (by simp)
theorem GU (h:c.Ok)(hi:Inv c s):0<=s.lv/\s.lv+c.tp<=c.words/\c.words<=1048576/\0<=c.tp:=by
 have n:=h.num;have e:=hi.lv;have g:=U5 c s.W;have u:=h.fit;have v:=n.fixed;have y:=h.ns;have d:=n.sl;have A:1<=c.sl:=by rw[d];have:=n.R;split<;>omega
 have B:c.sl*(iI c s.W:Int)<=c.sl*c.ns:=aD (by omega) (by omega);have C:0<=c.sl*(iI c s.W:Int):=Int.mul_nonneg (by omega) (by omega);have b:0<=c.tp:=by rw[n.tp];split<;>omega
 have:=n.R;have:=n.Q;have:=n.words;refine⟨by omega,by omega,by omega,b⟩
theorem Nr (h:c.Ok)(hi:Inv c s)(A:iI c s.W<c.ns.toNat):s.lv+c.sl<=c.words:=by
 have n:=h.num;have g:=hi.lv;have u:=h.fit;have v:=h.ns;have d:=n.sl;have y:1<=c.sl:=by rw[d];have:=n.R;split<;>omega
 have e:c.sl*((iI c s.W:Int)+1)<=c.sl*c.ns:=aD (by omega) (by omega);have b:0<=c.tp:=by rw[n.tp];split<;>omega
 rw[Int.mul_add,Int.mul_one]at e;omega
theorem VC {l:List Nat}{P:Nat->Bool}(d:k∈l)(b:P k=Zb):l.countP P<l.length:=by
 rcases Nat.lt_or_ge (l.countP P) l.length with h|h
 .exact h
 .have:=List.countP_eq_length.1 (Nat.le_antisymm bB h) k d;rw[b]at this;cases this
theorem Nh (b:k<c.ns.toNat)(d:gX c W k<=0):iI c W<c.ns.toNat:=by
 have:=VC (l:=List.range c.ns.toNat) (P:=λ(k:Nat)=>Zc (0<gX c W k)) (k:=k) (List.mem_range.2 b) (zA (by omega));rw[List.length_range]at this;exact this
theorem SM (b:k<c.ns.toNat):jq sb c.ns sx (k:Int)=O Za:=by
 unfold jq;rw[Zf,zC,Zf]
theorem aF3 (h:c.Ok)(e:c.mode≠3)(hi:Inv c s)(b:k<c.ns.toNat)(A:gX c s.W k<=0):
  jL (k:Int) c.fixed c.tp c.sl c.ns c.mode c.R c.Q c.len c.words s.L s.p s.q s.c0 s.c1 s.c2 s.c3 s.z c.X c.T c.l c.k c.P c.tk (c.off 8:Int) c.ns (c.X.length:Int) s.lv s.pk c.words s.W=O (s.lv+c.sl,max s.pk (s.lv+c.sl),c.words,put s.W (sp c k) (IntKind.u64.wrap (IntKind.i64.wrap (s.p+1))::seg s.W (c.off 1) c.X.length)):=by
 have n:=h.num;have d:=hi.w;obtain⟨v,E,F⟩:=GU h hi;have y:=Nr h hi (Nh b A);have g:=n.sl;rw[zF e]at g;have J:=n.x;have I:=hi.p;have H:=hi.L;have B:=(hi.tag k b).1;obtain⟨K,M,N⟩:=qA h e b;obtain⟨C,D⟩:=d.tk h;have u:(seg s.W (c.off 1) c.X.length).length=c.X.length:=dp (d.in' h (i:=1) (by omega));unfold jL;rw[py (by omega) v y (by omega)];simp only[zG];rw[ML (ii:=1) (i:=1) h d rfl (by omega)];simp only[zG];rw[show c.sz 1=c.X.length from rfl];unfold oo;rw[SM b];simp only[zG,aB,zD];rw[yz h e b];simp only[zG];rw[Hk h e d b];simp only[zG];rw[zA (show¬s.p<0 by omega),zD,zA (show¬65536<=s.p by omega)];simp only[zG,zD];rw[u,zA (λk=>k rfl),zD,zA (show¬(gX c s.W k≠0)by omega),zD,bp (by omega) (by omega)]
 unfold Cx.tk;rw[rz (by simp[u];omega) C D];rfl
theorem YU (h:c.Ok)(e:c.mode≠3)(hi:Inv c s)(b:k<c.ns.toNat)(B:0<gX c s.W k):
  iP (k:Int) c.fixed c.tp c.sl c.ns c.mode c.R c.Q c.len c.words s.L s.p s.q s.c0 s.c1 s.c2 s.c3 s.z c.X c.T c.l c.k c.P c.tk (c.off 8:Int) c.ns (c.X.length:Int) s.lv s.pk c.words s.W=O (put s.W (c.off 1) (seg s.W (sp c k+1) c.X.length)):=by
 have n:=h.num;have d:=hi.w;have A:=hi.L;have g:=(hi.tag k b).2;obtain⟨C,D,E⟩:=qA h e b;obtain⟨v,y⟩:=d.tk h;have u:(seg s.W (sp c k+1) c.X.length).length=c.X.length:=dp (by omega);unfold iP mB;rw[SM b];simp only[zG,aB,zD];rw[yz h e b];simp only[zG];rw[Hk h e d b];simp only[zG];rw[zA (show¬gX c s.W k=0 by omega),zD,ad (n:=(sp c k:Int)+1) (by omega),show(sp c k:Int)+1=((sp c k+1:Nat):Int)by omega];unfold Cx.tk;rw[yi (by omega) v y];simp only[zG];rw[show((c.off 9:Nat):Int)=c.tk from rfl,Ii (ii:=1) (i:=1) h d rfl (by omega) (by rw[u];exact Nat.le_refl _)];rfl
theorem aK5 (h:c.Ok)(d:c.mode≠3)(hi:Inv c s)(b:k<c.ns.toNat)(E:0<gX c s.W k)(e:c.sl<=s.lv):
  kJ (k:Int) c.fixed c.tp c.sl c.ns c.mode c.R c.Q c.len c.words s.L s.p s.q s.c0 s.c1 s.c2 s.c3 s.z c.X c.T c.l c.k c.P c.tk (c.off 8:Int) c.ns (c.X.length:Int) s.lv s.pk c.words s.W=O (s.lv-c.sl,s.pk,c.words,put s.W (sp c k) (cj (c.X.length+1))):=by
 have n:=h.num;have v:=hi.w;have F:=n.x;have u:=n.sl;rw[zF d]at u;obtain⟨B,C,D⟩:=GU h hi;have g:=hi.pk;obtain⟨H,I,J⟩:=qA h d b;obtain⟨y,A⟩:=v.tk h;unfold kJ oW;rw[SM b];simp only[zG,aB,zD];rw[yz h d b];simp only[zG];rw[Hk h d v b];simp only[zG];rw[zA (show¬gX c s.W k=0 by omega),zD];unfold eg;simp only[zG];rw[ad (n:=(c.X.length:Int)+1) (by omega),VT (by omega),show List.replicate (((c.X.length:Int)+1).toNat) (0:Int)=cj (c.X.length+1)from rfl];unfold Cx.tk;rw[rz (by rw[cd];omega) y A];simp only[zG];rw[ut (by omega) e g.1 (by omega)];rfl
end
end
end Go.V
