/- A part of the proof. No condition. -/
import Derived.Test.YtknphpcjacoaeaaGreatL2
set_option linter.unusedVariables false
set_option linter.unusedSimpArgs false
set_option linter.unusedSectionVars false
namespace Go.V
open Go.Ab
open Option renaming some->O,none->Y
open Bool renaming true->Za,false->Zb
open Decidable renaming decide->Zc
variable {T W X a r t w x:Zd}{L Q a0 a1 a10 a11 a12 a13 a14 a15 a16 a2 a3 a4 a5 a6 a7 a8 a9 bd c0 c1 c2 c3 i0 ii lv p pk q sb sn sx z:Int}{l:List bu}{i j k o:Nat}
section
open Go.IntKind renaming wrap -> zH, i64 -> zI, u64 -> zJ
open Int renaming toNat_natCast -> aB
open List renaming getElem?_eq_getElem -> aD
set_option maxRecDepth 100000
theorem Br (f:Nat->Int): ∀{j:Nat},j<8->List.getD [f 0,f 1,f 2,f 3,f 4,f 5,f 6,f 7] j 0=f j
 |0,_=>rfl
 |1,_=>rfl
 |2,_=>rfl
 |3,_=>rfl
 |4,_=>rfl
 |5,_=>rfl
 |6,_=>rfl
 |7,_=>rfl
 |n+8,h=>by omega
def app (o:bu)(x y:Int):Int:=
 if o.1=1 then zH zJ (x+y)else if o.1=2 then zH zJ (x-y)else if o.1=3 then zH zJ (x*y)else if o.1=4 then zH zJ (0-x)else if o.1=5 then o.2.2.2.2 else if o.1=6 then x else 0
theorem Lx (o:bu)(x y:Int):tC o.1 o.2.1 o.2.2.1 o.2.2.2.1 o.2.2.2.2 x y=O (app o x y):=by
 unfold tC app;simp only[ag]
 repeat' split
 all_goals rfl
def Xg (R:Nat)(o:bu):Prop:=(0<=o.2.1/\o.2.1<R)/\(0<=o.2.2.1/\o.2.2.1<R)/\0<=o.2.2.2.1/\o.2.2.2.1<R
theorem B2 {R:Nat}{o:bu}(h:Xg R o): ∃d a b:Nat,o.2.1=d/\o.2.2.1=a/\o.2.2.2.1=b/\d<R/\a<R/\b<R:=by
 unfold Xg at h;exact⟨o.2.1.toNat,o.2.2.1.toNat,o.2.2.2.1.toNat,by omega,by omega,by omega,by omega,by omega,by omega⟩
def rg (r:Zd)(k:Int):Int:=r.getD k.toNat 0
theorem db (h:k<r.length):r[k]?=O (rg r (k:Int)):=by
 unfold rg;rw[aB,aD h,List.getD_eq_getElem?_getD,aD h];rfl
abbrev TS :=Zd×Zd×Nat
def pQ (o:bu)(s:TS):TS:=(s.1.set o.2.1.toNat (app o (rg s.1 o.2.2.1) (rg s.1 o.2.2.2.1)),s.2.1.set s.2.2 (rg s.1 o.2.1),s.2.2+1)
def VdT (R N:Nat)(m:Nat)(s:TS):Prop:=s.1.length=R/\s.2.1.length=N/\s.2.2+m<=N
def stT (p d:Nat)(l:Nat->Int)(s:TS):Int×Int×Int×(Zd)×(Zd)×Int×Int×Int×Int×Int×Int×Int×Int:=
 ((p:Int),(s.2.2:Int),(d:Int),s.1,s.2.1,l 0,l 1,l 2,l 3,l 4,l 5,l 6,l 7)
theorem oU {code:List AV}{p:Nat}{x:AV}(b:code.length<=1000)(h:code[p]?=O x):p<code.length/\ix (p:Int) code.length=O p:=by
 have:=(List.getElem?_eq_some_iff.1 h).1;exact⟨this,bi this⟩
theorem al3 {code:List AV}(y:code.length<=1000){R N:Nat}(hN:N<=1000000):Runs (oB code) code stT pQ (VdT R N) (Xg R)where
 op:=by
  intro p d l s m o C h K v b A;obtain⟨B,g⟩:=oU y h;obtain⟨F,D,E,H,I,J,g1,g2,g3⟩:=B2 K;obtain⟨V,Z,v3⟩:=A;refine⟨?_,by unfold pQ;exact⟨by simp[V],by simp[Z],by show s.2.2+1+m<=N;omega⟩⟩;unfold stT pQ;simp only[oB];rw[Ze,zD,g];simp only[zG];rw[h];simp only[zG,ce];rw[Ze,zD,Ze,zD];simp only[Lx,zG];rw[H,I,J,bi (show F<s.1.length by omega)];simp only[zG];rw[db (show F<s.1.length by omega)];simp only[zG];rw[bi (show s.2.2<s.2.1.length by omega)];simp only[zG];rw[db (show s.2.2<s.2.1.length by omega)];simp only[zG];rw[bi (show D<s.1.length by omega)];simp only[zG];rw[db (show D<s.1.length by omega)];simp only[zG];rw[bi (show E<s.1.length by omega)];simp only[zG];rw[db (show E<s.1.length by omega)]
  simp only[zG];rw[ad (n:=(p:Int)+1) (by omega),ad (n:=(s.2.2:Int)+1) (by omega)];rfl
 rep:=by
  intro p d l s m o C h v b A;obtain⟨B,g⟩:=oU y h;unfold stT;simp only[oB];rw[Ze,zD,g];simp only[zG];rw[h];simp only[zG,ce];rw[zB v,zC,bi b];simp only[zG];rw[ad (n:=(p:Int)+1) (by omega),ad (n:=(d:Int)+1) (by omega)];rfl
 nxt:=by
  intro p d l s m e C h v b M U A;obtain⟨B,g⟩:=oU y h;have u:=Br (upd l d (l d-1)) b;rw[sC]at u;unfold upd at u;unfold stT;simp only[oB];rw[Ze,zD,g];simp only[zG];rw[h];simp only[zG,ce];rw[Ze,zD,zB v,zC,ad (n:=((d+1:Nat):Int)-1) (by omega),show((d+1:Nat):Int)-1=(d:Int)by omega,bi b];simp only[zG];rw[Br l b,Zj,u,Zf,zC];rfl
 out:=by
  intro p d l s m e C h v b M A;obtain⟨B,g⟩:=oU y h;have u:=Br (upd l d (l d-1)) b;rw[sC]at u;unfold upd at u;unfold stT;simp only[oB];rw[Ze,zD,g];simp only[zG];rw[h];simp only[zG,ce];rw[Ze,zD,zB v,zC,ad (n:=((d+1:Nat):Int)-1) (by omega),show((d+1:Nat):Int)-1=(d:Int)by omega,bi b];simp only[zG];rw[Br l b,Zj,u,Ze,zD,ad (n:=(p:Int)+1) (by omega)];rfl
abbrev FS :=Zd×Nat
def GH (o:bu)(s:FS):FS:=(s.1.set o.2.1.toNat (app o (rg s.1 o.2.2.1) (rg s.1 o.2.2.2.1)),s.2+1)
def VdF (R M:Nat)(m:Nat)(s:FS):Prop:=s.1.length=R/\s.2+m<=M
def stF (p d:Nat)(l:Nat->Int)(s:FS):Int×Int×Int×(Zd)×Int×Int×Int×Int×Int×Int×Int×Int:=
 ((p:Int),(s.2:Int),(d:Int),s.1,l 0,l 1,l 2,l 3,l 4,l 5,l 6,l 7)
theorem az8 {code:List AV}(y:code.length<=1000){R M:Nat}(hM:M<=1000000):Runs (lx (-1) code) code stF GH (VdF R M) (Xg R)where
 op:=by
  intro p d l s m o C h K v b A;obtain⟨B,g⟩:=oU y h;obtain⟨F,D,E,H,I,J,Z,g2,g3⟩:=B2 K;obtain⟨V,v2⟩:=A;refine⟨?_,by unfold GH;exact⟨by simp[V],by show s.2+1+m<=M;omega⟩⟩;unfold stF GH;simp only[lx];rw[zA (show¬((p:Int)=(code.length:Int))by omega),zD,zA (show¬((s.2:Int)= -1)by omega),zD,g];simp only[zG];rw[h];simp only[zG,ce];rw[Ze,zD,Ze,zD];simp only[Lx,AO,zG];rw[H,I,J,bi (show D<s.1.length by omega)];simp only[zG];rw[db (show D<s.1.length by omega)];simp only[zG];rw[bi (show E<s.1.length by omega)];simp only[zG];rw[db (show E<s.1.length by omega)];simp only[zG];rw[bi (show F<s.1.length by omega)];simp only[zG];rw[db (show F<s.1.length by omega)];simp only[zG]
  rw[ad (n:=(p:Int)+1) (by omega),ad (n:=(s.2:Int)+1) (by omega)];rfl
 rep:=by
  intro p d l s m o C h v b A;obtain⟨B,g⟩:=oU y h;unfold stF;simp only[lx];rw[zA (show¬((p:Int)=(code.length:Int))by omega),zD,zA (show¬((s.2:Int)= -1)by omega),zD,g];simp only[zG];rw[h];simp only[zG,ce];rw[zB v,zC,bi b];simp only[zG];rw[ad (n:=(p:Int)+1) (by omega),ad (n:=(d:Int)+1) (by omega)];rfl
 nxt:=by
  intro p d l s m e C h v b N U A;obtain⟨B,g⟩:=oU y h;have u:=Br (upd l d (l d-1)) b;rw[sC]at u;unfold upd at u;unfold stF;simp only[lx];rw[zA (show¬((p:Int)=(code.length:Int))by omega),zD,zA (show¬((s.2:Int)= -1)by omega),zD,g];simp only[zG];rw[h];simp only[zG,ce];rw[Ze,zD,zB v,zC,ad (n:=((d+1:Nat):Int)-1) (by omega),show((d+1:Nat):Int)-1=(d:Int)by omega,bi b];simp only[zG];rw[Br l b,Zj,u,Zf,zC];rfl
 out:=by
  intro p d l s m e C h v b N A;obtain⟨B,g⟩:=oU y h;have u:=Br (upd l d (l d-1)) b;rw[sC]at u;unfold upd at u;unfold stF;simp only[lx];rw[zA (show¬((p:Int)=(code.length:Int))by omega),zD,zA (show¬((s.2:Int)= -1)by omega),zD,g];simp only[zG];rw[h];simp only[zG,ce];rw[Ze,zD,zB v,zC,ad (n:=((d+1:Nat):Int)-1) (by omega),show((d+1:Nat):Int)-1=(d:Int)by omega,bi b];simp only[zG];rw[Br l b,Zj,u,Ze,zD,ad (n:=(p:Int)+1) (by omega)];rfl
def par (o:bu)(x y:Int):Int×Int:=
 if o.1=1 then(1,1)else if o.1=2 then(1,18446744073709551615)else if o.1=3 then(y,x)else if o.1=4 then(18446744073709551615,0)else if o.1=6 then(1,0)else(0,0)
theorem G6 (o:bu)(x y:Int):nk o.1 o.2.1 o.2.2.1 o.2.2.2.1 o.2.2.2.2 x y=O (par o x y):=by
 unfold nk par;simp only[ag]
 repeat' split
 all_goals rfl
def LC (o:bu)(r a:Zd)(t:Int):Zd×Zd:=
 let g:=rg a o.2.1
 let b:=r.set o.2.1.toNat t
 let a1:=a.set o.2.1.toNat 0
 let q:=par o (rg b o.2.2.1) (rg b o.2.2.2.1)
 let a2:=a1.set o.2.2.1.toNat (zH zJ (rg a1 o.2.2.1+zH zJ (q.1*g)))
 (b,a2.set o.2.2.2.1.toNat (zH zJ (rg a2 o.2.2.2.1+zH zJ (q.2*g))))
theorem YD {o:bu}{n:Nat}(E:Xg r.length o)(J:a.length=r.length)(u:n<t.length):
  rX o.1 o.2.1 o.2.2.1 o.2.2.2.1 o.2.2.2.2 (n:Int) r a t=O (LC o r a (rg t (n:Int))):=by
 obtain⟨b,e,g,v,y,A,h,F,H⟩:=B2 E;unfold rX;simp only[G6,zG];unfold LC;simp only[v,y,A,aB];rw[bi (show b<a.length by omega)];simp only[zG];rw[db (show b<a.length by omega)];simp only[zG];rw[bi u];simp only[zG];rw[db u];simp only[zG];rw[bi h];simp only[zG];rw[db h];simp only[zG];have d: ∀x:Int,(r.set b x).length=r.length:=by simp
 have D:(a.set b 0).length=a.length:=by simp
 rw[bi (show e<(r.set b (rg t (n:Int))).length by rw[d];omega)];simp only[zG];rw[db (show e<(r.set b (rg t (n:Int))).length by rw[d];omega)];simp only[zG];rw[bi (show g<(r.set b (rg t (n:Int))).length by rw[d];omega)];simp only[zG];rw[db (show g<(r.set b (rg t (n:Int))).length by rw[d];omega)];simp only[zG];rw[bi (show e<(a.set b 0).length by omega)];simp only[zG];rw[db (show e<(a.set b 0).length by omega)];simp only[zG];generalize I:par o _ _=P;generalize B:(a.set b 0).set e _=A2;have C:A2.length=a.length:=by rw[<-B];simp
 rw[bi (show g<A2.length by omega)];simp only[zG];rw[db (show g<A2.length by omega)];simp only[zG]
abbrev BS :=Zd×Zd×Nat
def sq (t:Zd)(o:bu)(s:BS):BS:=((LC o s.1 s.2.1 (rg t ((s.2.2-1:Nat):Int))).1,(LC o s.1 s.2.1 (rg t ((s.2.2-1:Nat):Int))).2,s.2.2-1)
def VdB (R N:Nat)(m:Nat)(s:BS):Prop:=s.1.length=R/\s.2.1.length=R/\m<=s.2.2/\s.2.2<=N
def stB (p d:Nat)(l:Nat->Int)(s:BS):Int×Int×Int×(Zd)×(Zd)×Int×Int×Int×Int×Int×Int×Int×Int:=
 ((p:Int)-1,(d:Int),(s.2.2:Int),s.1,s.2.1,l 0,l 1,l 2,l 3,l 4,l 5,l 6,l 7)
theorem P3 (o:bu)(r a:Zd)(t:Int):(LC o r a t).1.length=r.length/\(LC o r a t).2.length=a.length:=by
 unfold LC;simp
theorem bh8 {code:List AV}(A:code.length<=1000){R:Nat}(Z:t.length<=1000000):Backs (gm t code) code stB (sq t) (VdB R t.length) (Xg R)where
 op:=by
  intro p d l s m o y h H v b B;obtain⟨C,g⟩:=oU A h;obtain⟨E,U,v3,v4⟩:=B;obtain⟨M,N⟩:=P3 o s.1 s.2.1 (rg t ((s.2.2-1:Nat):Int));refine⟨?_,by unfold sq;exact⟨by simp[E,M],by simp[U,N],by show m<=s.2.2-1;omega,by show s.2.2-1<=_;omega⟩⟩;unfold stB sq;simp only[gm];rw[show((p+1:Nat):Int)-1=(p:Int)by omega,Ze,zD,g];simp only[zG];rw[h];simp only[zG,ce];rw[Ze,zD,Ze,zD,ad (n:=(s.2.2:Int)-1) (by omega),show(s.2.2:Int)-1=((s.2.2-1:Nat):Int)by omega,YD (by rw[E];exact H) (by omega) (by omega)];simp only[zG];rw[ad (n:=(p:Int)-1) (by omega)]
 rep:=by
  intro p q d l s m o e y h v D b B;obtain⟨C,g⟩:=oU A h;obtain⟨V,F⟩:=oU A D;unfold stB;simp only[gm];rw[show((p+1:Nat):Int)-1=(p:Int)by omega,Ze,zD,g];simp only[zG];rw[h];simp only[zG,ce];rw[zB v,zC,ad (n:=((q+1:Nat):Int)-1) (by omega),show((q+1:Nat):Int)-1=(q:Int)by omega,F];simp only[zG];rw[D];simp only[zG,ce];rw[bi b];simp only[zG];rw[ad (n:=(p:Int)-1) (by omega),ad (n:=(d:Int)+1) (by omega)];rfl
 nxt:=by
  intro p d l s m o y h K v b I J B;obtain⟨C,g⟩:=oU A h;have u:=Br (upd l d (l d-1)) b;rw[sC]at u;unfold upd at u;unfold stB;simp only[gm];rw[show((p+1:Nat):Int)-1=(p:Int)by omega,Ze,zD,g];simp only[zG];rw[h];simp only[zG,ce];rw[Ze,zD,zB v,zC,ad (n:=((d+1:Nat):Int)-1) (by omega),show((d+1:Nat):Int)-1=(d:Int)by omega,bi b];simp only[zG];rw[Br l b,Zj,u,Zf,zC];rw[ad (n:=((y+1:Nat):Int)-2) (by omega),show((y+1:Nat):Int)-2=(y:Int)-1 by omega];rfl
 out:=by
  intro p d l s m o y h v b I B;obtain⟨C,g⟩:=oU A h;have u:=Br (upd l d (l d-1)) b;rw[sC]at u;unfold upd at u;unfold stB;simp only[gm];rw[show((p+1:Nat):Int)-1=(p:Int)by omega,Ze,zD,g];simp only[zG];rw[h];simp only[zG,ce];rw[Ze,zD,zB v,zC,ad (n:=((d+1:Nat):Int)-1) (by omega),show((d+1:Nat):Int)-1=(d:Int)by omega,bi b];simp only[zG];rw[Br l b,Zj,u,Ze,zD,ad (n:=(p:Int)-1) (by omega)];rfl
end
section
open Bool renaming and_eq_true -> cB, not_eq_true' -> cD
open List renaming getElem?_append_right -> bB, append_assoc -> bD, length_append -> dB
open Nat renaming le_refl -> aB, sub_self -> aD
theorem bh9 {w v c:Int}{n:Nat}(h:DA w v=O c)(d:0<=v)(e:w=(n:Int)):c=((n*v.toNat:Nat):Int):=by
 have b:((v.toNat:Nat):Int)=v:=Int.toNat_of_nonneg d;rw[Int.natCast_mul,b,<-e];unfold DA at h;split at h
 .rename_i g;injection h with h
  rw[g,Int.zero_mul,h]
 split at h
 .cases h
 split at h
 .cases h
 .injection h with h
  exact h.symm
def YO (l:List bu)(m S:Zd):Prop:=m.length=l.length/\S.length=l.length/\∀(A B:List bu) (o e:bu) (b:Fo),l=A++o::(b.src++e::B)->b.Ok->o.1=7->e.1=0->
 m[A.length]?=O ((A.length+1+b.len:Nat):Int)/\S[A.length]?=O ((b.n*tt o:Nat):Int)
theorem aU4 {m S R:Zd}(H:MOK l m)(V:S.length=l.length)(J: ∀o∈l,Uq o)(h: ∀j,j<l.length->∃a b,S[j]?=O a/\R[j]?=O b/\aY5 l j a b):YO l m S:=by
 refine⟨H.len,V,λA B o e b u y I E=> ?_⟩;have F:l.length=A.length+1+(b.len+(B.length+1)):=by rw[u];simp[Fo.src_len];omega
 have g:A.length<l.length:=by omega
 have d:l[A.length]=o:=by
  have:l[A.length]?=O o:=by rw[u,bB (aB _),aD];rfl
  rw[List.getElem?_eq_getElem g]at this;injection this
 have D:l.drop (A.length+1)=b.src++e::B:=by rw[u,List.drop_append,List.drop_of_length_le (by omega),show A.length+1-A.length=1 by omega];rfl
 refine⟨?_, ?_⟩
 .have:=H.at' A.length g (by rw[d];exact I) b.src e B D E (Fo.scan0 y);rw[Fo.src_len]at this;exact this
 .obtain⟨a,c,M,h2,N⟩:=h A.length g;obtain⟨U,C⟩:=(N g).1 (by rw[d];exact I) b.src e B D E (Fo.scan0 y);have v: ∀x∈b.src,0<=x.2.2.2.2:=λx Z=>(J x (by rw[u];simp[Z])).1
  have K:=Fo.Q9_n b y v U;rw[d]at C;rw[M,bh9 C (J o (by rw[u];simp)).1 K];rfl
section
variable {l:List bu} {m S:Zd} {em es:Int}
theorem bj7 {op:Zd}{out:List AV}(g:l.length<=1000)(h:out.length<=1000){x:bu}(d:l[i]?=O x)(e:0<x.1/\x.1<7):
  gf l (em,m) (es,S) ((i:Int),op,out)=O (.inl (((i+1:Nat):Int),op,out++[ce x 0])):=by
 obtain⟨hi,b⟩:=List.getElem?_eq_some_iff.1 d;simp only[gf];rw[zB (show(i:Int)<(l.length:Int)by omega),zC,bh hi,b];simp only[zG];rw[zA (show¬x.1=7 by omega),zA (show¬x.1=0 by omega)];simp only[zD,zG,bg];rw[ca (by omega) (by omega),Zi];rfl
theorem aI1 {op:Zd}{out:List AV}(A:l.length<=1000){x:bu}(v:l[i]?=O x)(u:x.1=7)(g:S[i]?=O 0)(e:m[i]?=O (j:Int))(y:j<=1000):
  gf l (em,m) (es,S) ((i:Int),op,out)=O (.inl (((j+1:Nat):Int),op,out)):=by
 obtain⟨hi,h⟩:=List.getElem?_eq_some_iff.1 v;obtain⟨b,_⟩:=List.getElem?_eq_some_iff.1 g;obtain⟨d,_⟩:=List.getElem?_eq_some_iff.1 e;simp only[gf];rw[zB (show(i:Int)<(l.length:Int)by omega),zC,bh hi,h];simp only[zG];rw[zB u];simp only[zC];rw[bi b];simp only[zG];rw[g];simp only[zG,ej];rw[decide_true,zC,bi d];simp only[zG];rw[e];simp only[zG,ej];rw[Zi];rfl
theorem aI0 {n:Int}{op:Zd}{out:List AV}(v:l.length<=1000)(y:out.length<=1000)(A:op.length<=1000){x:bu}(u:l[i]?=O x)(g:x.1=7)(d:S[i]?=O n)(h:n≠0):
  gf l (em,m) (es,S) ((i:Int),op,out)=O (.inl (((i+1:Nat):Int),op++[(out.length:Int)],out++[ce x 0])):=by
 obtain⟨hi,e⟩:=List.getElem?_eq_some_iff.1 u;obtain⟨b,_⟩:=List.getElem?_eq_some_iff.1 d;simp only[gf];rw[zB (show(i:Int)<(l.length:Int)by omega),zC,bh hi,e];simp only[zG];rw[zB g];simp only[zC];rw[bi b];simp only[zG];rw[d];simp only[zG,ej];rw[zA h,zD,ca (by omega) (by omega)];simp only[zG,ej,bg];rw[ca (by omega) (by omega),Zi];rfl
theorem as5 {q:Nat}{op:Zd}{out:List AV}{o:bu}{t:Nat}(y:l.length<=1000)(A:out.length<=1000)(B:op.length<=1000){x:bu}(v:l[i]?=O x)(u:x.1=0)(g:out[q]?=O (ce o t)):
  gf l (em,m) (es,S) ((i:Int),op++[(q:Int)],out)=O (.inl (((i+1:Nat):Int),op,out.set q (ce o (out.length+1))++[ce x (q+1)])):=by
 obtain⟨hi,h⟩:=List.getElem?_eq_some_iff.1 v;obtain⟨b,_⟩:=List.getElem?_eq_some_iff.1 g;have e:(op++[(q:Int)]).length=op.length+1:=by simp
 simp only[gf];rw[zB (show(i:Int)<(l.length:Int)by omega),zC,bh hi,h];simp only[zG];rw[zA (show¬x.1=7 by omega),zB u];simp only[zD,zC,zG,bg];rw[ad (n:=((op++[(q:Int)]).length:Int)-1) (by omega),show((op++[(q:Int)]).length:Int)-1=(op.length:Int)by omega,bi (show op.length<(op++[(q:Int)]).length by omega)];simp only[zG];rw[bB (aB _),aD];simp only[List.getElem?_cons_zero,zG];rw[Zk,bw,bi b];simp only[zG];rw[g];simp only[zG];rw[ca (by simp;omega) (by omega)];simp only[zG,ej,bg]
 have d:(op++[(q:Int)]).take ((op.length:Int).toNat-0)=op:=by
  rw[show(op.length:Int).toNat-0=op.length by omega,List.take_left'];rfl
 rw[d,ad (n:=(i:Int)+1) (by omega),ad (n:=(out.length:Int)+1) (by omega),ad (n:=(q:Int)+1) (by omega)];rfl
theorem PA (g:l.length<=1000)(C:YO l m S): ∀(f:Fo) (A B:List bu) (op:Zd) (out:List AV),l=A++f.src++B->f.Ok->op.length<=A.length->out.length<=A.length->
  ∃k,k<=f.len/\Reach (gf l (em,m) (es,S)) k ((A.length:Int),op,out) (((A.length+f.len:Nat):Int),op,out++f.bare.code out.length)
 | .nil,A,B,op,out,d,_,_,_=>by
  refine⟨0,aB _, ?_⟩;simp only[Fo.bare,Fo.code,Fo.len,List.append_nil,Nat.add_zero];exact Reach.refl
 | .op o r,A,B,op,out,d,F,hp,ho=>by
  have K:(A++[o]).length=A.length+1:=by simp
  have V:l.length=A.length+(r.len+1)+B.length:=by rw[d];simp[Fo.src,Fo.src_len];omega
  have H:l[A.length]?=O o:=by rw[d,bD,bB (aB _),aD];rfl
  obtain⟨k,I,E⟩:=PA g C r (A++[o]) B op (out++[ce o 0]) (by rw[d];simp[Fo.src]) F.2 (by omega) (by simp;omega);refine⟨1+k,by simp only[Fo.len];omega, ?_⟩;have h:=(Reach.one (bj7 (em:=em) (es:=es) (op:=op) (out:=out) g (by omega) H F.1)).trans (show Reach _ k _ _ from by rw[K]at E;exact E);simp only[Fo.bare,Fo.code,Fo.len];rw[show A.length+(r.len+1)=A.length+1+r.len by omega];rw[bD,dB]at h;exact h
 | .rep o b e r,A,B,op,out,d,F,hp,ho=>by
  obtain⟨⟨I,E⟩,k3,k4⟩:=F;have V:l.length=A.length+(b.len+r.len+2)+B.length:=by rw[d];simp[Fo.src,Fo.src_len];omega
  have H:l[A.length]?=O o:=by rw[d,bD,bB (aB _),aD];rfl
  obtain⟨hm,N⟩:=C.2.2 A (r.src++B) o e b (by rw[d];simp[Fo.src]) k3 I E;have M:(A++o::b.src).length=A.length+1+b.len:=by simp[Fo.src_len];omega
  have Z:l[A.length+1+b.len]?=O e:=by
   rw[show l=(A++o::b.src)++(e::(r.src++B))by rw[d];simp[Fo.src],<-M,bB (aB _),aD];rfl
  have u:(A++o::(b.src++[e])).length=A.length+1+b.len+1:=by simp[Fo.src_len];omega
  simp only[Fo.bare,Fo.len];by_cases hz:b.n*tt o=0
  .rw[zE hz];rw[hz]at N;obtain⟨k,g1,y⟩:=PA g C r (A++o::(b.src++[e])) B op out (by rw[d];simp[Fo.src]) k4 (by omega) (by omega);refine⟨1+k,by omega, ?_⟩;have h:=(Reach.one (aI1 (em:=em) (es:=es) (op:=op) (out:=out) g H I N hm (by omega))).trans (show Reach _ k _ _ from by rw[u]at y;exact y);rw[show A.length+(b.len+r.len+2)=A.length+1+b.len+1+r.len by omega];exact h
  .rw[zF hz];have K:(A++[o]).length=A.length+1:=by simp
   obtain⟨kb,b1,b2⟩:=PA g C b (A++[o]) (e::(r.src++B)) (op++[(out.length:Int)]) (out++[ce o 0]) (by rw[d];simp[Fo.src]) k3 (by simp;omega) (by simp;omega);rw[K]at b2;have hbl:=b.bare_len;have hrl:=r.bare_len;have v:(out++[ce o 0]++b.bare.code (out++[ce o 0]).length).length=out.length+1+b.bare.len:=by simp[Fo.code_len];omega
   have hq:(out++[ce o 0]++b.bare.code (out++[ce o 0]).length)[out.length]?=O (ce o 0):=by
    rw[bD,bB (aB _),aD];rfl
   have J:=as5 (em:=em) (es:=es) (m:=m) (S:=S) (op:=op) g (by omega) (by omega) Z E hq;rw[v]at J
   have D:(out++[ce o 0]++b.bare.code (out++[ce o 0]).length).set out.length (ce o (out.length+1+b.bare.len+1))=out++ce o (out.length+1+b.bare.len+1)::b.bare.code (out.length+1):=by
    rw[bD,List.set_append_right _ _ (aB _),aD,dB];rfl
   rw[D]at J;obtain⟨k,g1,y⟩:=PA g C r (A++o::(b.src++[e])) B op (out++ce o (out.length+1+b.bare.len+1)::b.bare.code (out.length+1)++[ce e (out.length+1)]) (by rw[d];simp[Fo.src]) k4 (by omega) (by rw[u];simp[Fo.code_len];omega);rw[u]at y;refine⟨1+kb+1+k,by omega, ?_⟩;have h:=(((Reach.one (aI0 (em:=em) (es:=es) (m:=m) (op:=op) (out:=out) g (by omega) (by omega) H I N (by omega))).trans b2).trans (Reach.one J)).trans y;rw[show A.length+(b.len+r.len+2)=A.length+1+b.len+1+r.len by omega]
   have e1:out++ce o (out.length+1+b.bare.len+1)::b.bare.code (out.length+1)++[ce e (out.length+1)]++r.bare.code (out++ce o (out.length+1+b.bare.len+1)::b.bare.code (out.length+1)++[ce e (out.length+1)]).length=out++(Fo.rep o b.bare e r.bare).code out.length:=by
    have U:(out++ce o (out.length+1+b.bare.len+1)::b.bare.code (out.length+1)++[ce e (out.length+1)]).length=out.length+b.bare.len+2:=by simp[Fo.code_len];omega
    rw[U];simp only[Fo.code];rw[show out.length+1+b.bare.len+1=out.length+b.bare.len+2 by omega];simp
   rw[e1]at h;exact h
end
theorem Rs :Fw l=(oz l).bind λr=>O (r.2.1,r.2.2.1):=rfl
theorem ag8 {R:Int}(h:C9 R l=0):N1 l=0/\MD R l=0/\ME l=0/\L3 l=0:=by
 unfold C9 at h;split at h
 .omega
 split at h
 .omega
 split at h
 .omega
 .omega
structure Prg (R:Int)(l:List bu)(f:Fo):Prop where
 ops:OpsOk l
 ok:f.Ok
 src:f.src=l
 z:C9 R l=0
 R1:1<=R/\R<=64
 deep:f.hi<=8
 n:f.n<=65536
 w:dg l=((f.n:Int),0)
 regs: ∀o∈l,0<o.1/\o.1<7->Xg R.toNat o
theorem ay4 {R:Int}(h:OpsOk l)(M:C9 R l=0): ∃f,Prg R l f:=by
 obtain⟨I,J,A,u⟩:=ag8 M
 have e:Nt l=Za:=by
  unfold N1 at I;split at I
  .assumption
  .omega
 have g:LH R l=Za:=by
  unfold MD at J;split at J
  .assumption
  .omega
 unfold Nt at e;rw[cB,decide_eq_true_eq,cD]at e;obtain⟨C,hr⟩:=e;unfold LH at g;rw[cB,decide_eq_true_eq,cD]at g;obtain⟨V,ho⟩:=g;obtain⟨f,D,y⟩:=Fo.parse _ l (aB _) C
 have B: ∃t,Q9 l=O t/\t<=65536:=by
  unfold L3 dg at u;rw[zE C]at u;cases B:Q9 l with
  |none=>rw[B]at u;cases u
  |some t=>
   rw[B]at u;refine⟨t,rfl, ?_⟩;by_cases c:65536<t
   .simp only[zE c]at u;cases u
   .omega
 obtain⟨t,N,Z⟩:=B;have hn:t=(f.n:Int):=Fo.Q9_n f D (λx hx=>(h.v x (y▸hx)).1) (by rw[y];exact N);refine⟨f,h,D,y,M,V, ?_,by omega, ?_,λo K H=> ?_⟩
 .have U:=Fo.hi_le D;rw[y]at U;unfold ME Ps at A;rw[zE C]at A;by_cases c:(8:Int)<((hmax l 0 0:Nat):Int)
  .simp only[zE c]at A;cases A
  .omega
 .unfold dg;rw[zE C,N];show(if 65536<t then((0:Int),(9:Int))else(t,0))=_;rw[Zh,hn]
 .have E:=List.any_eq_false.1 hr o K;have F:=List.any_eq_false.1 ho o K;have E:zr o=Za:=by simpa using E
  have F:Up R o=Zb:=by simpa using F
  obtain⟨k,d,a,b,v⟩:=o;have H:k=1∨k=2∨k=3∨k=4∨k=5∨k=6:=by simp only at H;omega
  unfold Xg
  rcases H with rfl|rfl|rfl|rfl|rfl|rfl<;>
   .simp[zr,Hx,bx]at E;simp[Up,bx]at F;simp only;omega
theorem Jc {R:Int}{f:Fo}(b:Prg R l f):qZ R l=O (0,f.bare.code 0):=by
 unfold qZ;rw[Rg b.ops];simp only[zG];rw[b.z,zA (by simp),zD];have J:=b.ops.len;have D:br l 0=O 0:=by rw[<-b.src];exact Fo.scan0 b.ok
 obtain⟨m,A,y⟩:=N2 (l:=l) (by omega) D;obtain⟨r,C,M,N,e⟩:=LM (l:=l) (by omega) b.ops.v;rw[A,Rs,C];simp only[zG];have E:=b.w;rcases e with⟨e,_⟩|⟨_,_,H,U,I⟩
 .rw[E]at e;exact(e rfl).elim
 have u:=aU4 y H (λo B=>b.ops.v o B) I;obtain⟨k,K,F⟩:=PA (em:=0) (es:=r.2.1) (by omega) u f [] [] [] [] (by simp[b.src]) b.ok (by simp) (by simp);have g:f.len=l.length:=by rw[<-Fo.src_len,b.src]
 have h:=F (18446744073709551616-k);rw[show 18446744073709551616-k+k=cj by unfold cj;omega,show 18446744073709551616-k=(18446744073709551615-k)+1 by omega]at h
 have d:am (gf l (0,m) (r.2.1,r.2.2.1)) cj ((0:Int),([]:Zd),([]:List AV))=O (f.bare.code 0):=by
  refine h.trans ?_;rw[cg];simp only[gf];rw[zA (by rw[g];simp),zD];rfl
 rw[d];rfl
end
section
open List renaming replicate -> aB, length_replicate -> aD
theorem ie {α γ:Type}{g:α->Option (α⊕γ)}{s d:α}{c:γ}(h:Reach g k s d)(u:k<=1000000000)(e:g d=O (.inr c)):am g cj s=O c:=by
 have b:=h (18446744073709551616-k);rw[show 18446744073709551616-k+k=cj by unfold cj;omega,show 18446744073709551616-k=(18446744073709551615-k)+1 by omega]at b;refine b.trans ?_;rw[cg,e];rfl
section
variable {R:Int} {l:List bu} {f:Fo}
theorem Prg.len (h:Prg R l f):f.len<=100:=by
 have:=h.ops.len;rw[<-Fo.src_len,h.src];exact this
theorem Prg.clen (h:Prg R l f):(f.bare.code 0).length<=1000:=by
 have b:=h.len;have d:=f.bare_len;rw[Fo.code_len];omega
theorem Prg.steps (h:Prg R l f):f.bare.steps<=1000000000:=by
 have b:=Fo.steps_le f.bare f.bare_pos;rw[Fo.bare_n]at b;have e:=h.len;have g:=f.bare_len;have d:=h.n;have u:(2*f.bare.len+1)*f.n<=201*65536:=Nat.mul_le_mul (by omega) d;omega
theorem Prg.good (h:Prg R l f): ∀o∈f.bare.src,(0<o.1/\o.1<7->Xg R.toNat o)/\Uq o:=λo b=>by
 have:=Fo.bare_mem f b;rw[h.src]at this;exact⟨h.regs o this,h.ops.v o this⟩
theorem Prg.hi (h:Prg R l f):0+f.bare.hi<=8:=by
 have b:=h.deep;have d:=f.bare_hi;omega
theorem Prg.writes (h:Prg R l f):iu l=O ((f.n:Int),0):=by
 rw[AI (by have:=h.ops.len;omega) h.ops.v,h.w]
def aU1 (R:Nat)(o:bu):Prop:=0<o.1/\o.1<7->Xg R o
theorem So {Z γ S:Type}{g:Z->Option (Z⊕γ)}{code:List AV}{st:Nat->Nat->(Nat->Int)->S->Z}{b:bu->S->S}{Vd:Nat->S->Prop}{R:Nat}(h:Runs g code st b Vd (Xg R)):Runs g code st b Vd (aU1 R):=
 ⟨λe u d v y=>h.op e (u d) d v y,h.rep,h.nxt,h.out⟩
theorem Pa {Z γ S:Type}{g:Z->Option (Z⊕γ)}{code:List AV}{st:Nat->Nat->(Nat->Int)->S->Z}{b:bu->S->S}{Vd:Nat->S->Prop}{R:Nat}(h:Backs g code st b Vd (Xg R)):Backs g code st b Vd (aU1 R):=
 ⟨λe u d v y=>h.op e (u d) d v y,h.rep,h.nxt,h.out⟩
def uW (f:Fo)(r t:Zd):TS:=AN pQ f.unroll (r,t,0)
theorem am2 (h:Prg R l f)(y:r.length=R.toNat)(C:f.n<=t.length)(u:t.length<=1000000):
  DO (f.bare.code 0) r t=O (((uW f r t).2.2:Int),(uW f r t).1,(uW f r t).2.1)/\(uW f r t).1.length=R.toNat/\(uW f r t).2.1.length=t.length:=by
 obtain⟨b,_,v,g⟩:=Qp (m:=0) (l:=λ_=>0) (s:=((r,t,0):TS)) (d:=0) (p:=0) (A:=[]) (B:=[]) (So (al3 (R:=R.toNat) (N:=t.length) h.clen u)) f.bare (by simp) rfl (Fo.bare_ok f h.ok) f.bare_pos h.hi h.good ⟨y,rfl,by rw[Fo.bare_n];show 0+(f.n+0)<=_;omega⟩;rw[Fo.bare_unroll]at v g;refine⟨?_,g.1,g.2.1⟩;unfold DO
 have:=ie v h.steps (c:=(((uW f r t).2.2:Int),(uW f r t).1,(uW f r t).2.1,b 0,b 1,b 2,b 3,b 4,b 5,b 6,b 7)) (by
  unfold stT;simp only[oB];rw[zB (by rw[Fo.code_len];omega),zC]
  rfl)
 have e:stT 0 0 (λ_=>0) ((r,t,0):TS)=(0,0,0,r,t,0,0,0,0,0,0,0,0):=rfl;rw[e]at this;rw[this];rfl
theorem wY (h:Prg R l f)(u:r.length=R.toNat)(v:f.n<=t.length)(b:t.length<=1000000):
  qb R l r t=O (((uW f r t).2.2:Int),0,(uW f r t).1,(uW f r t).2.1)/\(uW f r t).1.length=R.toNat/\(uW f r t).2.1.length=t.length:=by
 obtain⟨d,e,g⟩:=am2 h u v b;refine⟨?_,e,g⟩;unfold qb Fx;rw[Jc h,h.writes];have y:=h.R1;simp only[zG];rw[zA (show¬((0:Int)≠0)by simp),zD,zA (show¬((r.length:Int)≠R)by omega),zD,zA (show¬((t.length:Int)<(f.n:Int))by omega),zD];simp only[zG];rw[zA (show¬((0:Int)≠0)by simp),zD,d];rfl
def LK (f:Fo)(r:Zd):Zd:=(AN GH f.unroll (r,0)).1
theorem TZ (h:Prg R l f)(v:r.length=R.toNat):xj (-1) (f.bare.code 0) r=O (LK f r)/\(LK f r).length=R.toNat:=by
 obtain⟨b,_,g,u⟩:=Qp (m:=0) (l:=λ_=>0) (s:=((r,0):FS)) (d:=0) (p:=0) (A:=[]) (B:=[]) (So (az8 (R:=R.toNat) (M:=65536) h.clen (by omega))) f.bare (by simp) rfl (Fo.bare_ok f h.ok) f.bare_pos h.hi h.good ⟨v,by rw[Fo.bare_n];show 0+(f.n+0)<=_;have:=h.n;omega⟩;rw[Fo.bare_unroll]at g u;refine⟨?_,u.1⟩;unfold xj
 have:=ie g h.steps (c:=(LK f r,b 0,b 1,b 2,b 3,b 4,b 5,b 6,b 7)) (by
  unfold stF;simp only[lx];rw[zB (by rw[Fo.code_len];omega),zC]
  rfl)
 have e:stF 0 0 (λ_=>0) ((r,0):FS)=(0,0,0,r,0,0,0,0,0,0,0,0):=rfl;rw[e]at this;rw[this];rfl
def fill (R:Int)(r:Zd):Zd:=r++aB (R.toNat-r.length) 0
theorem ia {R:Int}(h:r.length<=R.toNat):(fill R r).length=R.toNat:=by
 unfold fill;rw[List.length_append,aD];omega
theorem af5 {R:Int}(h:r.length<=R.toNat):E3 (aB R.toNat (0:Int)) 0 (aB R.toNat (0:Int)).length r=fill R r:=by
 unfold E3 fill;rw[aD,List.take_zero,List.nil_append,Nat.zero_add,Nat.min_eq_right h,List.take_of_length_le h,List.drop_replicate]
theorem VG (h:Prg R l f)(b:r.length<=R.toNat):sD R l r=O (0,LK f (fill R r))/\(LK f (fill R r)).length=R.toNat:=by
 obtain⟨d,e⟩:=TZ h (ia b);refine⟨?_,e⟩;have g:=h.R1;unfold sD AP;rw[Jc h];simp only[zG];rw[zA (show¬((0:Int)≠0)by simp),zD,zA (show¬(R<(r.length:Int))by omega),zD,zB (show 0<=R by omega),zB (show R<=R by omega),zB (show 8*R<=140737488355328 by omega),af5 b];show((gd Za _).bind _)=_;rw[bw];simp only[zG];rw[zA (show¬((0:Int)≠0)by simp),zD,d];rfl
def mh (f:Fo)(r a t:Zd):BS:=DB (sq t) f.unroll (r,a,f.n)
theorem YC (h:Prg R l f)(D:r.length=R.toNat)(y:a.length=R.toNat)(E:f.n<=t.length)(u:t.length<=1000000):
  rW (f.n:Int) r a t (f.bare.code 0)=O ((mh f r a t).1,(mh f r a t).2.1)/\(mh f r a t).1.length=R.toNat/\(mh f r a t).2.1.length=R.toNat:=by
 obtain⟨b,_,v,g⟩:=K9 (m:=0) (l:=λ_=>0) (s:=((r,a,f.n):BS)) (d:=0) (p:=0) (A:=[]) (B:=[]) (Pa (bh8 (R:=R.toNat) (t:=t) h.clen u)) f.bare (by simp) rfl (Fo.bare_ok f h.ok) f.bare_pos h.hi h.good ⟨D,y,by rw[Fo.bare_n];exact Nat.le_refl _,E⟩;rw[Fo.bare_unroll]at v g;refine⟨?_,g.1,g.2.1⟩;unfold rW;have C:=h.clen;rw[Fo.code_len]at C
 have:=ie v h.steps (c:=((mh f r a t).1,(mh f r a t).2.1,b 0,b 1,b 2,b 3,b 4,b 5,b 6,b 7)) (by
  unfold stB;simp only[gm];rw[Zf,zC]
  rfl)
 have e:stB (0+f.bare.len) 0 (λ_=>0) ((r,a,f.n):BS)=(IntKind.i64.wrap (((f.bare.code 0).length:Int)-1),0,(f.n:Int),r,a,0,0,0,0,0,0,0,0):=by
  unfold stB;rw[Fo.code_len,Zi,Nat.zero_add];rfl
 rw[e]at this;rw[this];rfl
theorem tW (h:Prg R l f)(v:r.length=R.toNat)(u:a.length=R.toNat)(y:f.n<=t.length)(b:t.length<=1000000):
  rV R l r a t=O (0,(mh f r a t).1,(mh f r a t).2.1)/\(mh f r a t).1.length=R.toNat/\(mh f r a t).2.1.length=R.toNat:=by
 obtain⟨d,e,g⟩:=YC h v u y b;refine⟨?_,e,g⟩;have A:=h.R1;unfold rV;rw[Jc h,h.writes];simp only[zG];rw[zA (show¬((0:Int)≠0)by simp),zD,zA (show¬((r.length:Int)≠R)by omega),zD,zA (show¬((a.length:Int)≠R)by omega),zD,zA (show¬((t.length:Int)<(f.n:Int))by omega),zD,d];rfl
end
end
section
open List renaming length_take -> aB, take_length -> aD, getElem?_take -> bB, length_append -> bD, ext_getElem? -> cB, getElem?_drop -> cD, getElem?_append_left -> dB, getElem?_append_right -> dD, getElem_mem -> eD, length_drop -> fB
def seg (W:Zd)(o n:Nat):Zd:=(W.drop o).take n
def put (W:Zd)(o:Nat)(w:Zd):Zd:=W.take o++(w++W.drop (o+w.length))
theorem yv (W:Zd)(o n i:Nat):(seg W o n)[i]?=if i<n then W[o+i]? else Y:=by
 unfold seg;rw[bB];split
 .rw[cD]
 .rfl
theorem Gw (h:o+w.length<=W.length)(i:Nat):(put W o w)[i]?=if o<=i/\i<o+w.length then w[i-o]? else W[i]?:=by
 unfold put;have e:(W.take o).length=o:=by rw[aB];omega
 by_cases b:i<o
 .rw[dB (by omega),bB,zE b,Zh]
 .rw[dD (by omega),e];by_cases d:i<o+w.length
  .rw[dB (by omega),zE ⟨by omega,d⟩]
  .rw[dD (by omega),cD,Zh]
   congr 1
   omega
theorem cv {n:Nat}(h:o+n<=W.length):(seg W o n).length=n:=by
 unfold seg;rw[aB,fB];omega
theorem aM3 (h:o+w.length<=W.length):(put W o w).length=W.length:=by
 unfold put;rw[bD,bD,aB,fB];omega
theorem Yt {n:Nat}(h:o+w.length<=W.length)(b:n<=w.length):seg (put W o w) o n=w.take n:=by
 apply cB;intro i;rw[yv,bB,Gw h];split
 .rw[Zg]
  congr 1
  omega
 .rfl
theorem yw (h:o+w.length<=W.length):seg (put W o w) o w.length=w:=by
 rw[Yt h (Nat.le_refl _),aD]
theorem Dd {b n:Nat}(h:o+w.length<=W.length)(d:b+n<=o∨o+w.length<=b):seg (put W o w) b n=seg W b n:=by
 apply cB;intro i;rw[yv,yv];split
 .rw[Gw h,Zh]
 .rfl
theorem X8 (h:o+w.length<=W.length)(b:i<o∨o+w.length<=i):(put W o w)[i]?=W[i]?:=by
 rw[Gw h,Zh]
theorem aq3 (h:o+w.length<=W.length):E3 W o w.length w=put W o w:=by
 unfold E3 put;rw[aD,Nat.min_self]
theorem CQ {n tk:Nat}(h:o+n<=tk)(b:tk<=W.length)(d:W.length<=1048576):cy (o:Int) (n:Int) (tk:Int) W=O (0,seg W o n):=by
 unfold cy;rw[Ze,zD,Ze,zD,Ze,zD,ad (n:=(tk:Int)-o) (by omega),Ze,zD,ad (n:=(o:Int)+n) (by omega),Zk,bw];unfold ar;rw[show((o:Int)+n).toNat-(o:Int).toNat=n by omega,show(o:Int).toNat=o by omega,ca (by rw[aB];omega) (by omega)];rfl
theorem ae8 {tk:Nat}(h:o<tk)(d:tk<=W.length)(e:W.length<=1048576):gu (o:Int) (tk:Int) W=O (rg W (o:Int),0):=by
 unfold gu;rw[Ze,zD,Ze,zD,ad (n:=(tk:Int)-o) (by omega),Ze,zD,ad (n:=(o:Int)+1) (by omega),Zk,bw];unfold ar;rw[show((o:Int)+1).toNat-(o:Int).toNat=1 by omega,show(o:Int).toNat=o by omega,ca (by rw[aB];omega) (by omega)]
 have b:(W.drop o).take 1=[rg W (o:Int)]:=by
  apply cB;intro i;rw[bB,cD];rcases Nat.eq_zero_or_pos i with rfl|hi
  .rw[Zg,Nat.add_zero,db (by omega)];rfl
  .rw[Zh,List.getElem?_eq_none (by simp;omega)]
 rw[b];rfl
theorem wN {tk:Nat}(h:o+w.length<=tk)(b:tk<=W.length)(d:W.length<=1048576):dp (o:Int) w (tk:Int) W=O (0,put W o w):=by
 unfold dp;rw[Ze,zD,Ze,zD,Ze,zD,ad (n:=(tk:Int)-o) (by omega),Ze,zD,ad (n:=(o:Int)+w.length) (by omega),Zk,bw,show((o:Int)+w.length).toNat-(o:Int).toNat=w.length by omega,show(o:Int).toNat=o by omega,aq3 (by omega)]
theorem tU {n:Int}(h:0<=n)(e:0<=lv)(d:lv+n<=bd)(b:bd<=1048576):cf n lv pk bd=O (0,lv+n,max pk (lv+n),bd):=by
 unfold cf rG nK;rw[Ze,zD];simp only[zG];rw[ad (n:=bd-lv) (by omega),Zf,ad (n:=lv+n) (by omega)];rfl
theorem zp {n:Int}(h:0<=n)(d:n<=lv)(e:lv<=pk)(b:lv<=1048576):be n lv pk bd=O (0,lv-n,pk,bd):=by
 unfold be nK;rw[Ze,zD,Ze,zD];simp only[zG];rw[ad (n:=0-n) (by omega),Zi,show lv+(0-n)=lv-n by omega,Int.max_eq_left (by omega)]
theorem ag9 (ls:List (Zd))(h: ∀l∈ls,l.length<=100000):ls.flatten.length<=100000*ls.length:=by
 induction ls with
 |nil=>simp
 |cons a r d=>
  have e:=h a (by simp);have g:=d λl b=>h l (by simp[b])
  rw[List.flatten_cons,bD,List.length_cons];omega
theorem Ss {ls:List (Zd)}(h:i<ls.length):(ls.take (i+1)).flatten=(ls.take i).flatten++ls[i]:=by
 rw[List.take_succ_eq_append_getElem h,List.flatten_append];simp
theorem am1 (ls:List (Zd))(h: ∀l∈ls,l.length<=100000)(b:ls.length<=1000)(i:Nat):(ls.take i).flatten.length<=100000000:=by
 have d:=ag9 (ls.take i) λl b=>h l (List.mem_of_mem_take b)
 rw[aB]at d;omega
theorem RF {ls:List (Zd)}(h: ∀l∈ls,l.length<=100000)(v:ls.length<=1000):fh ls=O ls.flatten:=by
 have b:=am1 ls h v
 have A:am (gx ls) cj (0,0)=O (((ls.take ls.length).flatten.length:Nat):Int):=by
  refine cx (n:=ls.length) (λi=>(((ls.take i).flatten.length:Nat):Int)) (by omega) (λi hi=> ?_) ?_
  .unfold gx;have d:=b i;have u:=h ls[i] (eD hi);simp only;rw[zB (show(i:Int)<(ls.length:Int)by omega),zC,bh hi];simp only[zG];rw[ad (n:=(((ls.take i).flatten.length:Nat):Int)+((ls[i].length:Nat):Int)) (by omega),Ze,zD,ad (n:=(i:Int)+1) (by omega),Ss hi,bD];rfl
  .unfold gx;simp only;rw[Ze,zD]
 have g: ∀(f:Int×Zd->Option ((Int×Zd)⊕Zd)),(∀s,f s=cond (Zc (s.1<((ls.length:Nat):Int))) ((rd ls s.1).bind λx=>gd (ip (s.2.length+x.length) 8) (O (.inl (IntKind.i64.wrap (s.1+1),s.2++x)))) (O (.inr s.2)))->
   am f cj (0,[])=O (ls.take ls.length).flatten:=by
  intro f e;refine cx (n:=ls.length) (λi=>(ls.take i).flatten) (by omega) (λi hi=> ?_) ?_
  .rw[e];have d:=b i;have u:=h ls[i] (eD hi);rw[zB (show(i:Int)<(ls.length:Int)by omega),zC,bh hi];simp only[zG];rw[ca (by omega) (by omega),ad (n:=(i:Int)+1) (by omega),Ss hi];rfl
  .rw[e];rw[Ze,zD]
 unfold fh;rw[A];rw[aD];simp only[zG];have d:=b ls.length;rw[aD]at d;rw[Ze,zD,ad (n:=((ls.flatten.length:Nat):Int)-0) (by omega),ag];split
 .rw[Int.sub_zero]
  have y:pR 8 ((ls.flatten.length:Nat):Int)=Za:=by
   generalize ls.flatten.length=N at d⊢;unfold pR;rw[Zf,Zf,Zf];rfl
  rw[y,bw,ca (by rw[List.length_replicate];omega) (by omega),Zk,bw,List.take_zero,g (pG ls) λs=>rfl,aD];rfl
 .rw[g (pH ls) λs=>rfl,aD];rfl
end
section
open List renaming length_append -> aB, length_replicate -> aD, not_mem_nil -> bB
structure Cx where
 mode:Int
 R:Int
 Q:Int
 len:Int
 words:Int
 X:Zd
 T:Zd
 l:List bu
 k:List bu
 fl:Fo
 fk:Fo
 fixed:Int
 tp:Int
 sl:Int
 ns:Int
namespace Cx
def sz (c:Cx):Nat->Nat
 |0=>c.T.length
 |1=>c.X.length
 |2=>c.R.toNat
 |3=>c.Q.toNat
 |4=>max c.R.toNat c.Q.toNat
 |5=>c.X.length
 |6=>c.T.length
 |7=>c.tp.toNat
 |8=>(c.sl*c.ns).toNat
 |_=>0
def off (c:Cx):Nat->Nat
 |0=>0
 |i+1=>c.off i+c.sz i
def P (c:Cx):Zd:=(List.range 10).map λi=>(c.off i:Int)
def tk (c:Cx):Int:=(c.off 9:Int)
structure Ok (c:Cx):Prop where
 hl:OpsOk c.l
 hk:OpsOk c.k
 hc:A5 c.mode c.X.length c.T.length c.R c.l c.Q c.k c.len c.words=0
 pl:Prg c.R c.l c.fl
 pk:Prg c.Q c.k c.fk
 fixed:c.fixed=sX c.X.length c.T.length c.R c.Q
 tp:c.tp=ri c.mode c.l c.k
 sl:c.sl=rh c.mode c.X.length c.R c.l
 ns:0<=c.ns/\c.ns<=1048576
 fit:c.fixed+c.tp+c.sl*c.ns<=c.words
 base:c.mode=3->c.ns=c.len
end Cx
structure Num (c:Cx):Prop where
 mode:1<=c.mode/\c.mode<=3
 R:1<=c.R/\c.R<=64
 Q:1<=c.Q/\c.Q<=64
 x:1<=c.X.length/\c.X.length<=64
 t:c.T.length<=64
 xtR:(c.X.length:Int)+c.T.length+1<=c.R
 xtQ:(c.X.length:Int)+c.T.length<=c.Q
 len:0<=c.len/\c.len<=65535
 words:0<=c.words/\c.words<=1048576
 n:c.fl.n<=65536
 m:c.fk.n<=65536
 tp:c.tp=(if c.mode=3 then(c.fk.n:Int)else c.fl.n+c.fk.n)
 sl:c.sl=(if c.mode=3 then(c.fl.n:Int)+c.R else c.X.length+1)
 fixed:c.fixed=2*c.T.length+2*c.X.length+c.R+c.Q+max c.R c.Q
 mul:0<=c.sl*c.ns
theorem Mx {m:Int}{x t:Nat}{R:Int}{k:List bu}{n b:Int}(h:A5 m x t R l Q k n b=0):uV R l Q k=0/\DW R Q x t=0:=by
 unfold A5 at h;split at h
 .rename_i c;exact(c h).elim
 split at h
 .rename_i c;exact(c h).elim
 split at h
 .rename_i c;exact(c h).elim
 rename_i c1 c2 c3;exact⟨by omega,by omega⟩
theorem aj1 {R:Int}{k:List bu}(h:uV R l Q k=0):C9 R l=0/\C9 Q k=0:=by
 unfold uV at h
 repeat' split at h
 all_goals first|(exact absurd h (by assumption))|skip
 unfold C9;constructor
 .repeat' split
  all_goals first|(rename_i c;exact(by omega))|omega
 .repeat' split
  all_goals first|(rename_i c;exact(by omega))|omega
theorem RI {R:Int}{x t:Nat}(d:x<=64)(b:t<=64)(h:DW R Q x t=0):(x:Int)+t+1<=R/\(x:Int)+t<=Q:=by
 unfold DW at h;rw[ad (n:=(x:Int)+t) (by omega),ad (n:=(x:Int)+t+1) (by omega)]at h
 repeat' split at h
 all_goals omega
theorem Cx.Ok.num {c:Cx}(h:c.Ok):Num c:=by
 have f:=Gq h.hl h.hk h.hc;obtain⟨v,d⟩:=Mx h.hc;obtain⟨e,g⟩:=RI f.xs.2 f.ts d;have b:=h.pl.w;have u:=h.pk.w;have s:=MT h.hl h.hk h.hc;refine⟨f.mode,f.regs,f.regs',f.xs,f.ts,e,g,f.len,f.bud,h.pl.n,h.pk.n, ?_, ?_, ?_, ?_⟩
 .rw[h.tp];unfold ri;rw[b,u]
 .rw[h.sl];unfold rh;rw[b]
 .rw[h.fixed];unfold sX;rfl
 .rw[h.sl];exact(PV (by have:=s.sl;omega) h.ns).1
section
variable {c:Cx}
theorem bA1 :c.off 1=c.T.length:=Nat.zero_add _
theorem bA2 :c.off 2=c.T.length+c.X.length:=by show c.off 1+_=_;rw[bA1];rfl
theorem bA3 :c.off 3=c.T.length+c.X.length+c.R.toNat:=by show c.off 2+_=_;rw[bA2];rfl
theorem bA4 :c.off 4=c.T.length+c.X.length+c.R.toNat+c.Q.toNat:=by show c.off 3+_=_;rw[bA3];rfl
theorem bA5 :c.off 5=c.T.length+c.X.length+c.R.toNat+c.Q.toNat+max c.R.toNat c.Q.toNat:=by show c.off 4+_=_;rw[bA4];rfl
theorem bA6 :c.off 6=c.T.length+c.X.length+c.R.toNat+c.Q.toNat+max c.R.toNat c.Q.toNat+c.X.length:=by show c.off 5+_=_;rw[bA5];rfl
theorem bn0 :c.off 7=c.T.length+c.X.length+c.R.toNat+c.Q.toNat+max c.R.toNat c.Q.toNat+c.X.length+c.T.length:=by show c.off 6+_=_;rw[bA6];rfl
theorem bA7 :c.off 8=c.off 7+c.tp.toNat:=rfl
theorem PZ :c.off 9=c.off 8+(c.sl*c.ns).toNat:=rfl
theorem aw5 (h:i<=j):c.off i<=c.off j:=by
 induction j with
 |zero=>rw[Nat.le_zero.1 h];exact Nat.le_refl _
 |succ j b=>
  rcases Nat.lt_or_ge i (j+1)with h1|h1
  .exact Nat.le_trans (b (by omega)) (Nat.le_add_right _ _)
  .rw[Nat.le_antisymm h h1];exact Nat.le_refl _
theorem kc (h:i<j):c.off i+c.sz i<=c.off j:=aw5 (c:=c) (i:=i+1) h
theorem Cx.Ok.off9_le (h:c.Ok):(c.off 9:Int)<=c.words:=by
 have n:=h.num;have e:=n.R;have g:=n.Q;have u:=n.fixed;have b:=n.tp;have v:=n.mul;have y:=h.fit;have d:0<=c.tp:=by rw[b];split<;>omega
 rw[PZ,bA7,bn0];omega
theorem Cx.P_get (h:i<10):c.P[i]?=O (c.off i:Int):=by
 unfold Cx.P;rw[List.getElem?_map,List.getElem?_range h];rfl
theorem Cx.P_len :c.P.length=10:=by unfold Cx.P;simp
def Wd (c:Cx)(W:Zd):Prop:=W.length=c.words.toNat
theorem Wd.tk (h:c.Ok)(b:Wd c W):c.off 9<=W.length/\W.length<=1048576:=by
 have:=h.off9_le;have:=h.num.words;unfold Wd at b;omega
theorem Wd.put (h:c.Ok)(b:Wd c W)(d:o+w.length<=c.off 9):Wd c (put W o w):=by
 have:=b.tk h;unfold Wd at b⊢;rw[aM3 (by omega),b]
theorem Uc {k:List bu}(h:c.Ok)(u:Wd c W)(hi:ii=(i:Int))(b:i<9):
  bk ii a0 a1 a2 a3 a4 a5 a6 a7 a8 a9 a10 a11 a12 a13 a14 a15 a16 X T l k c.P c.tk lv pk bd W=O (seg W (c.off i) (c.sz i)):=by
 subst hi;have d:=u.tk h;have g:=kc (c:=c) (i:=i) (j:=9) b;unfold bk;rw[bi (show i<c.P.length by rw[Cx.P_len];omega)];simp only[zG];rw[Cx.P_get (show i<10 by omega)];simp only[zG];rw[ad (n:=(i:Int)+1) (by omega),show(i:Int)+1=((i+1:Nat):Int)by omega,bi (show i+1<c.P.length by rw[Cx.P_len];omega)];simp only[zG];rw[Cx.P_get (show i+1<10 by omega)];simp only[zG]
 have e:IntKind.i64.wrap ((c.off (i+1):Int)-(c.off i:Int))=(c.sz i:Int):=by
  have:c.off (i+1)=c.off i+c.sz i:=rfl;rw[Zi];omega
 rw[e];unfold Cx.tk;rw[CQ g d.1 d.2];rfl
theorem put1 {k:List bu}(h:c.Ok)(e:Wd c W)(hi:ii=(i:Int))(b:i<9)(u:w.length<=c.sz i):
  ap ii w a0 a1 a2 a3 a4 a5 a6 a7 a8 a9 a10 a11 a12 a13 a14 a15 a16 X T l k c.P c.tk lv pk bd W=O (put W (c.off i) w):=by
 subst hi;have d:=e.tk h;have g:=kc (c:=c) (i:=i) (j:=9) b;unfold ap;rw[bi (show i<c.P.length by rw[Cx.P_len];omega)];simp only[zG];rw[Cx.P_get (show i<10 by omega)];simp only[zG];unfold Cx.tk;rw[wN (by omega) d.1 d.2];rfl
theorem PF {k:List bu}(h:c.Ok)(u:Wd c W)(hi:ii=(i:Int))(b:i<9):
  az ii a0 a1 a2 a3 a4 a5 a6 a7 a8 a9 a10 a11 a12 a13 a14 a15 a16 X T l k c.P c.tk sb sn sx lv pk bd W=O (seg W (c.off i) (c.sz i)):=by
 subst hi;have d:=u.tk h;have g:=kc (c:=c) (i:=i) (j:=9) b;unfold az;rw[bi (show i<c.P.length by rw[Cx.P_len];omega)];simp only[zG];rw[Cx.P_get (show i<10 by omega)];simp only[zG];rw[ad (n:=(i:Int)+1) (by omega),show(i:Int)+1=((i+1:Nat):Int)by omega,bi (show i+1<c.P.length by rw[Cx.P_len];omega)];simp only[zG];rw[Cx.P_get (show i+1<10 by omega)];simp only[zG]
 have e:IntKind.i64.wrap ((c.off (i+1):Int)-(c.off i:Int))=(c.sz i:Int):=by
  have:c.off (i+1)=c.off i+c.sz i:=rfl;rw[Zi];omega
 rw[e];unfold Cx.tk;rw[CQ g d.1 d.2];rfl
theorem ML {k:List bu}(h:c.Ok)(e:Wd c W)(hi:ii=(i:Int))(b:i<9)(u:w.length<=c.sz i):
  aj ii w a0 a1 a2 a3 a4 a5 a6 a7 a8 a9 a10 a11 a12 a13 a14 a15 a16 X T l k c.P c.tk sb sn sx lv pk bd W=O (put W (c.off i) w):=by
 subst hi;have d:=e.tk h;have g:=kc (c:=c) (i:=i) (j:=9) b;unfold aj;rw[bi (show i<c.P.length by rw[Cx.P_len];omega)];simp only[zG];rw[Cx.P_get (show i<10 by omega)];simp only[zG];unfold Cx.tk;rw[wN (by omega) d.1 d.2];rfl
theorem Ow {R:Int}(d:1<=R/\R<=64)(e:(a.length:Int)<=R):nS R l a=O (fill R a):=by
 unfold nS ar;rw[ca (by omega) (by omega)];simp only[zG];rw[ad (n:=R-(a.length:Int)) (by omega)]
 have b:pR 8 (R-(a.length:Int))=Za:=by
  unfold pR;rw[Zf,Zf,Zf];rfl
 rw[b,bw,ca (by rw[aD];omega) (by omega),show(R-(a.length:Int)).toNat=R.toNat-a.length by omega];rfl
theorem ap8 {R:Int}{g:List bu}{b:Zd}{k:List bu}(h:c.Ok)(u:Wd c W)(C:1<=R/\R<=64)(F:(x.length:Int)+c.T.length+b.length<=R):
  kg R g x b a0 a1 a2 a3 a4 a5 a6 a7 a8 a9 a10 a11 a12 a13 a14 a15 a16 X T l k c.P c.tk lv pk bd W=O (fill R (x++(seg W 0 c.T.length++b))):=by
 have D:=u.tk h;have B:=kc (c:=c) (i:=0) (j:=9) (by omega);have y:(seg W 0 c.T.length).length=c.T.length:=cv (by have:c.off 0+c.sz 0=0+c.T.length:=rfl;omega);unfold kg;rw[Uc (ii:=0) (i:=0) h u rfl (by omega)];simp only[zG];have d:seg W (c.off 0) (c.sz 0)=seg W 0 c.T.length:=rfl
 rw[d,RF (λa v=>by
  simp only[List.mem_cons,bB,or_false]at v
  rcases v with rfl|rfl|rfl<;>omega) (by simp)]
 simp only[zG];have e:[x,seg W 0 c.T.length,b].flatten=x++(seg W 0 c.T.length++b):=by simp
 have E:(x++(seg W 0 c.T.length++b)).length=x.length+c.T.length+b.length:=by rw[aB,aB,y];omega
 rw[e];generalize x++(seg W 0 c.T.length++b)=a at*;rw[ad (n:=R-(a.length:Int)) (by omega)]
 have A:pR 8 (R-(a.length:Int))=Za:=by
  unfold pR;rw[Zf,Zf,Zf];rfl
 rw[A,bw,ca (by rw[aD];omega) (by omega),show(R-(a.length:Int)).toNat=R.toNat-a.length by omega];rfl
theorem Xs {R:Int}{g:List bu}{b:Zd}{k:List bu}(h:c.Ok)(u:Wd c W)(C:1<=R/\R<=64)(F:(x.length:Int)+c.T.length+b.length<=R):
  iy R g x b a0 a1 a2 a3 a4 a5 a6 a7 a8 a9 a10 a11 a12 a13 a14 a15 a16 X T l k c.P c.tk sb sn sx lv pk bd W=O (fill R (x++(seg W 0 c.T.length++b))):=by
 have D:=u.tk h;have B:=kc (c:=c) (i:=0) (j:=9) (by omega);have y:(seg W 0 c.T.length).length=c.T.length:=cv (by have:c.off 0+c.sz 0=0+c.T.length:=rfl;omega);unfold iy;rw[PF (ii:=0) (i:=0) h u rfl (by omega)];simp only[zG];have d:seg W (c.off 0) (c.sz 0)=seg W 0 c.T.length:=rfl
 rw[d,RF (λa v=>by
  simp only[List.mem_cons,bB,or_false]at v
  rcases v with rfl|rfl|rfl<;>omega) (by simp)]
 simp only[zG];have e:[x,seg W 0 c.T.length,b].flatten=x++(seg W 0 c.T.length++b):=by simp
 have E:(x++(seg W 0 c.T.length++b)).length=x.length+c.T.length+b.length:=by rw[aB,aB,y];omega
 rw[e];generalize x++(seg W 0 c.T.length++b)=a at*;rw[ad (n:=R-(a.length:Int)) (by omega)]
 have A:pR 8 (R-(a.length:Int))=Za:=by
  unfold pR;rw[Zf,Zf,Zf];rfl
 rw[A,bw,ca (by rw[aD];omega) (by omega),show(R-(a.length:Int)).toNat=R.toNat-a.length by omega];rfl
end
end
section
open Go.IntKind renaming wrap -> zH, i64 -> zI, u64 -> zJ
open List renaming range -> bB, replicate -> bD, getElem?_eq_none -> cB, length_append -> cD, length_take -> dB, drop_zero -> dD, ext_getElem? -> eD
open Nat renaming le_refl -> aB, le_of_eq -> aD
theorem Ub {β:Type}{n:Int}{y:Option β}(h:0<=n/\n<=1048576):gd (Nat.beq 1 (Sh.w (.int .u64))&&Zc (0<=n)&&Zc (n<=n)&&Zc ((8:Int)*n<=140737488355328)&&Nat.ble 1 8) y=y:=by
 rw[zB h.1,zB (Int.le_refl n),Zf];rfl
section
variable {c:Cx}
theorem Cx.Ok.of (h:c.Ok):mA c.mode c.X c.T c.R c.l c.Q c.k c.len c.words=O ((c.fl.n:Int),(c.fk.n:Int)):=by
 rw[ab5 h.hl h.hk,zF (λk=>k h.hc),h.pl.w,h.pk.w]
def bp (n:Nat):Zd:=bD n 0
def stepR (c:Cx)(W:Zd)(p:Int):TS:=uW c.fl (fill c.R (seg W (c.off 1) c.X.length++(seg W 0 c.T.length++[zH zJ p]))) (bp c.fl.n)
def lossR (c:Cx)(W x:Zd):TS:=uW c.fk (fill c.Q (x++(seg W 0 c.T.length++[]))) (bp c.fk.n)
def Av (x:Nat)(g a:Zd):Zd:=(bB g.length).map λ(i:Nat)=>IntKind.u64.wrap (rg g (i:Int)+rg a ((x+i:Nat):Int))
def E2 (c:Cx)(W a:Zd):Zd:=
 put (put (put W (c.off 4) a) (c.off 5) (a.take c.X.length)) (c.off 6) (Av c.X.length (seg (put (put W (c.off 4) a) (c.off 5) (a.take c.X.length)) (c.off 6) c.T.length) a)
theorem vp (x:Nat)(g a:Zd):(Av x g a).length=g.length:=by unfold Av;simp
theorem Wd.in' (h:c.Ok)(b:Wd c W)(hi:i<9):c.off i+c.sz i<=W.length:=by
 have:=b.tk h;have:=kc (c:=c) (i:=i) (j:=9) hi;omega
theorem K6 {g:Zd}{f:Int×Zd->Option ((Int×Zd)⊕Zd)}(J:g.length<=64)(H:X.length<=64)(I:X.length+g.length<=a.length)(A: ∀s,f s=cond (Zc (s.1<(((g.length:Nat):Int))))
   ((ix s.1 (s.2.length)).bind λj=>(s.2[j]?).bind λy=>(ix (zH zI (((X.length:Nat):Int)+s.1)) a.length).bind λD=>(a[D]?).bind λE=>(ix s.1 (s.2.length)).bind λh=>(s.2[h]?).bind λF=>O (.inl (zH zI (s.1+1),s.2.set h (zH zJ (y+E)))))
   (O (.inr s.2))):am f cj (0,g)=O (Av X.length g a):=by
 have v: ∀i,((bB g.length).map λ(j:Nat)=>if j<i then zH zJ (rg g (j:Int)+rg a ((X.length+j:Nat):Int))else rg g (j:Int)).length=g.length:=λi=>by simp
 have b: ∀i j,j<g.length->((bB g.length).map λ(j:Nat)=>if j<i then zH zJ (rg g (j:Int)+rg a ((X.length+j:Nat):Int))else rg g (j:Int))[j]?=O (if j<i then zH zJ (rg g (j:Int)+rg a ((X.length+j:Nat):Int))else rg g (j:Int)):=λi j d=>by
  rw[List.getElem?_map,List.getElem?_range d];rfl
 have B:g=(bB g.length).map λ(j:Nat)=>if j<0 then zH zJ (rg g (j:Int)+rg a ((X.length+j:Nat):Int))else rg g (j:Int):=by
  apply eD;intro j;by_cases d:j<g.length
  .rw[b 0 j d,Zh,db d]
  .rw[cB (by omega),cB (by simp;omega)]
 have C:Av X.length g a=(bB g.length).map λ(j:Nat)=>if j<g.length then zH zJ (rg g (j:Int)+rg a ((X.length+j:Nat):Int))else rg g (j:Int):=by
  unfold Av;apply List.map_congr_left;intro j d;rw[zE (List.mem_range.1 d)]
 rw[C];refine Eq.trans (congrArg (λy=>am f cj (0,y)) B) ?_;refine cx (n:=g.length) (λi=>(bB g.length).map λ(j:Nat)=>if j<i then zH zJ (rg g (j:Int)+rg a ((X.length+j:Nat):Int))else rg g (j:Int)) (by omega) (λi hi=> ?_) ?_
 .rw[A];rw[zB (show(i:Int)<((g.length:Nat):Int)by omega),zC,bi (by rw[v];exact hi)];simp only[zG];rw[b i i hi];simp only[zG];rw[zF (Nat.lt_irrefl i),ad (n:=((X.length:Nat):Int)+(i:Int)) (by omega),show((X.length:Nat):Int)+(i:Int)=((X.length+i:Nat):Int)by omega,bi (show X.length+i<a.length by omega)];simp only[zG];rw[db (show X.length+i<a.length by omega)];simp only[zG];rw[ad (n:=(i:Int)+1) (by omega)]
  congr 3
  apply eD;intro j;by_cases d:j<g.length
  .rw[b (i+1) j d];by_cases e:i=j
   .subst e;rw[List.getElem?_set_self (by rw[v];exact hi),zE (Nat.lt_succ_self i)]
   .rw[List.getElem?_set_ne e,b i j d]
    congr 1
    by_cases u:j<i
    .rw[zE u,Zg]
    .rw[zF u,Zh]
  .rw[cB (by simp;omega),cB (by simp;omega)]
 .rw[A];rw[Ze,zD]
theorem bz (n:Nat):(bp n).length=n:=List.length_replicate
theorem mm (h:c.Ok)(d:Wd c W)(p:Int):(fill c.R (seg W (c.off 1) c.X.length++(seg W 0 c.T.length++[zH zJ p]))).length=c.R.toNat/\(stepR c W p).1.length=c.R.toNat/\(stepR c W p).2.1.length=c.fl.n:=by
 have n:=h.num;have u:=d.in' h (i:=1) (by omega);have g:=d.in' h (i:=0) (by omega);have A:(seg W (c.off 1) c.X.length).length=c.X.length:=cv u;have y:(seg W 0 c.T.length).length=c.T.length:=cv g
 have e:(fill c.R (seg W (c.off 1) c.X.length++(seg W 0 c.T.length++[zH zJ p]))).length=c.R.toNat:=by
  apply ia;rw[cD,cD,A,y];have:=n.xtR;simp;omega
 obtain⟨_,v,b⟩:=wY h.pl e (t:=bp c.fl.n) (by rw[bz];exact aB _) (by rw[bz];have:=n.n;omega);rw[bz]at b;exact⟨e,v,b⟩
theorem DZ (h:c.Ok)(u:Wd c W)(v:x.length=c.X.length):(fill c.Q (x++(seg W 0 c.T.length++[]))).length=c.Q.toNat/\(lossR c W x).1.length=c.Q.toNat/\(lossR c W x).2.1.length=c.fk.n:=by
 have n:=h.num;have e:=u.in' h (i:=0) (by omega);have y:(seg W 0 c.T.length).length=c.T.length:=cv e
 have d:(fill c.Q (x++(seg W 0 c.T.length++[]))).length=c.Q.toNat:=by
  apply ia;rw[cD,cD,y,v];have:=n.xtQ;simp;omega
 obtain⟨_,g,b⟩:=wY h.pk d (t:=bp c.fk.n) (by rw[bz];exact aB _) (by rw[bz];have:=n.m;omega);rw[bz]at b;exact⟨d,g,b⟩
theorem re (h:c.Ok)(e:Wd c W)(A:c.X.length+c.T.length<=a.length)(g:a.length<=max c.R.toNat c.Q.toNat):
  Wd c (put W (c.off 4) a)/\Wd c (put (put W (c.off 4) a) (c.off 5) (a.take c.X.length))/\Wd c (E2 c W a):=by
 have u:=kc (c:=c) (i:=4) (j:=9) (by omega);have v:=kc (c:=c) (i:=5) (j:=9) (by omega);have y:=kc (c:=c) (i:=6) (j:=9) (by omega);have B:c.sz 4=max c.R.toNat c.Q.toNat:=rfl;have C:c.sz 5=c.X.length:=rfl;have D:c.sz 6=c.T.length:=rfl;have d:=e.put h (w:=a) (o:=c.off 4) (by omega);have b:=d.put h (w:=a.take c.X.length) (o:=c.off 5) (by rw[dB];omega);refine⟨d,b, ?_⟩;unfold E2;refine b.put h ?_;rw[vp,cv (n:=c.T.length) (b.in' h (i:=6) (by omega))];omega
theorem be4 (h:c.Ok)(b:Wd c W):
  ki c.fixed c.tp c.sl c.ns c.mode c.R c.Q c.len c.words L p q c0 c1 c2 c3 z c.X c.T c.l c.k c.P c.tk lv pk bd W=O (c.fixed,c.tp,c.sl,c.ns,c.mode,c.R,c.Q,c.len,c.words,L,p,q,c0,zH zI (c1+1),c2,c3,z,put W (c.off 2) (stepR c W p).1,(stepR c W p).1,(stepR c W p).2.1):=by
 have n:=h.num;obtain⟨d,y,A⟩:=mm h b p;have e:=b.in' h (i:=1) (by omega);have g:(seg W (c.off 1) c.X.length).length=c.X.length:=cv e;unfold ki;rw[h.of];simp only[zG];have B:=n.n;rw[Ub (by omega),Uc (ii:=1) (i:=1) h b rfl (by omega)];simp only[zG];rw[Ub (by omega),ap8 h b n.R (by rw[show c.sz 1=c.X.length from rfl,g];have:=n.xtR;simp;omega)];simp only[zG];rw[Ub (by omega),show c.sz 1=c.X.length from rfl,show bD ((c.fl.n:Int)).toNat (0:Int)=bp c.fl.n from rfl];obtain⟨u,v,C⟩:=wY h.pl d (t:=bp c.fl.n) (by rw[bz];exact aB _) (by rw[bz];omega);rw[u];simp only[zG];rw[put1 (ii:=2) (i:=2) h b rfl (by omega) (by rw[show c.sz 2=c.R.toNat from rfl];exact aD v)];rfl
theorem aB3 (h:c.Ok)(b:Wd c W):
  iz c.fixed c.tp c.sl c.ns c.mode c.R c.Q c.len c.words L p q c0 c1 c2 c3 z c.X c.T c.l c.k c.P c.tk sb sn sx lv pk bd W=O (c.fixed,c.tp,c.sl,c.ns,c.mode,c.R,c.Q,c.len,c.words,L,p,q,c0,zH zI (c1+1),c2,c3,z,put W (c.off 2) (stepR c W p).1,(stepR c W p).1,(stepR c W p).2.1):=by
 have n:=h.num;obtain⟨d,y,A⟩:=mm h b p;have e:=b.in' h (i:=1) (by omega);have g:(seg W (c.off 1) c.X.length).length=c.X.length:=cv e;unfold iz;rw[h.of];simp only[zG];have B:=n.n;rw[Ub (by omega),PF (ii:=1) (i:=1) h b rfl (by omega)];simp only[zG];rw[Ub (by omega),Xs h b n.R (by rw[show c.sz 1=c.X.length from rfl,g];have:=n.xtR;simp;omega)];simp only[zG];rw[Ub (by omega),show c.sz 1=c.X.length from rfl,show bD ((c.fl.n:Int)).toNat (0:Int)=bp c.fl.n from rfl];obtain⟨u,v,C⟩:=wY h.pl d (t:=bp c.fl.n) (by rw[bz];exact aB _) (by rw[bz];omega);rw[u];simp only[zG];rw[ML (ii:=2) (i:=2) h b rfl (by omega) (by rw[show c.sz 2=c.R.toNat from rfl];exact aD v)];rfl
theorem aZ2 (h:c.Ok)(u:Wd c W)(B:r.length=c.Q.toNat)(y:a.length=c.Q.toNat)(C:t.length=c.fk.n):
  qs c.Q c.fixed c.tp c.sl c.ns c.mode c.R c.Q c.len c.words L p q c0 c1 c2 c3 z c.k r a t c.X c.T c.l c.P c.tk lv pk bd W=O (c.fixed,c.tp,c.sl,c.ns,c.mode,c.R,c.Q,c.len,c.words,L,p,q,c0,c1,c2,zH zI (c3+1),z,(mh c.fk r a t).1,(mh c.fk r a t).2.1,E2 c W (mh c.fk r a t).2.1):=by
 have n:=h.num;obtain⟨D,N,U⟩:=tW h.pk B y (aD C.symm) (by have:=n.n;have:=n.m;omega);have J:=n.R;have I:=n.Q;have F:=n.xtR;have H:=n.xtQ;have M:=n.x;have K:=n.t;unfold qs;rw[D];simp only[zG];generalize mh c.fk r a t=d at*;have b:=re h (a:=d.2.1) u (by omega) (by omega);obtain⟨v,e,E⟩:=b;rw[put1 (ii:=4) (i:=4) h u rfl (by omega) (by rw[show c.sz 4=max c.R.toNat c.Q.toNat from rfl];omega)];simp only[zG];rw[Zk,bw,show((c.X.length:Int)).toNat-0=c.X.length by omega,dD,put1 (ii:=5) (i:=5) h v rfl (by omega) (by rw[dB,show c.sz 5=c.X.length from rfl];omega)];simp only[zG];rw[Uc (ii:=6) (i:=6) h e rfl (by omega)];simp only[zG];rw[show c.sz 6=c.T.length from rfl];have A:(seg (put (put W (c.off 4) d.2.1) (c.off 5) (d.2.1.take c.X.length)) (c.off 6) c.T.length).length=c.T.length:=cv (e.in' h (i:=6) (by omega));rw[K6 (f:=xe c.X (0,d.1,d.2.1) _) (X:=c.X) (a:=d.2.1) (g:=seg (put (put W (c.off 4) d.2.1) (c.off 5) (d.2.1.take c.X.length)) (c.off 6) c.T.length) (by omega) (by omega) (by omega) (λs=>rfl)]
 simp only[zG];rw[put1 (ii:=6) (i:=6) h e rfl (by omega) (by rw[vp,A];exact aB _)];rfl
theorem aZ3 (h:c.Ok)(u:Wd c W)(B:r.length=c.Q.toNat)(y:a.length=c.Q.toNat)(C:t.length=c.fk.n):
  oM c.Q c.fixed c.tp c.sl c.ns c.mode c.R c.Q c.len c.words L p q c0 c1 c2 c3 z c.k r a t c.X c.T c.l c.P c.tk sb sn sx lv pk bd W=O (c.fixed,c.tp,c.sl,c.ns,c.mode,c.R,c.Q,c.len,c.words,L,p,q,c0,c1,c2,zH zI (c3+1),z,(mh c.fk r a t).1,(mh c.fk r a t).2.1,E2 c W (mh c.fk r a t).2.1):=by
 have n:=h.num;obtain⟨D,N,U⟩:=tW h.pk B y (aD C.symm) (by have:=n.n;have:=n.m;omega);have J:=n.R;have I:=n.Q;have F:=n.xtR;have H:=n.xtQ;have M:=n.x;have K:=n.t;unfold oM;rw[D];simp only[zG];generalize mh c.fk r a t=d at*;have b:=re h (a:=d.2.1) u (by omega) (by omega);obtain⟨v,e,E⟩:=b;rw[ML (ii:=4) (i:=4) h u rfl (by omega) (by rw[show c.sz 4=max c.R.toNat c.Q.toNat from rfl];omega)];simp only[zG];rw[Zk,bw,show((c.X.length:Int)).toNat-0=c.X.length by omega,dD,ML (ii:=5) (i:=5) h v rfl (by omega) (by rw[dB,show c.sz 5=c.X.length from rfl];omega)];simp only[zG];rw[PF (ii:=6) (i:=6) h e rfl (by omega)];simp only[zG];rw[show c.sz 6=c.T.length from rfl];have A:(seg (put (put W (c.off 4) d.2.1) (c.off 5) (d.2.1.take c.X.length)) (c.off 6) c.T.length).length=c.T.length:=cv (e.in' h (i:=6) (by omega));rw[K6 (f:=uZ c.X (0,d.1,d.2.1) _) (X:=c.X) (a:=d.2.1) (g:=seg (put (put W (c.off 4) d.2.1) (c.off 5) (d.2.1.take c.X.length)) (c.off 6) c.T.length) (by omega) (by omega) (by omega) (λs=>rfl)]
 simp only[zG];rw[ML (ii:=6) (i:=6) h e rfl (by omega) (by rw[vp,A];exact aB _)];rfl
theorem aZ4 (h:c.Ok)(u:Wd c W)(B:r.length=c.R.toNat)(y:a.length=c.R.toNat)(C:t.length=c.fl.n):
  oN c.R c.fixed c.tp c.sl c.ns c.mode c.R c.Q c.len c.words L p q c0 c1 c2 c3 z c.l r a t c.X c.T c.k c.P c.tk sb sn sx lv pk bd W=O (c.fixed,c.tp,c.sl,c.ns,c.mode,c.R,c.Q,c.len,c.words,L,p,q,c0,c1,c2,zH zI (c3+1),z,(mh c.fl r a t).1,(mh c.fl r a t).2.1,E2 c W (mh c.fl r a t).2.1):=by
 have n:=h.num;obtain⟨D,N,U⟩:=tW h.pl B y (aD C.symm) (by have:=n.n;have:=n.m;omega);have J:=n.R;have I:=n.Q;have F:=n.xtR;have H:=n.xtQ;have M:=n.x;have K:=n.t;unfold oN;rw[D];simp only[zG];generalize mh c.fl r a t=d at*;have b:=re h (a:=d.2.1) u (by omega) (by omega);obtain⟨v,e,E⟩:=b;rw[ML (ii:=4) (i:=4) h u rfl (by omega) (by rw[show c.sz 4=max c.R.toNat c.Q.toNat from rfl];omega)];simp only[zG];rw[Zk,bw,show((c.X.length:Int)).toNat-0=c.X.length by omega,dD,ML (ii:=5) (i:=5) h v rfl (by omega) (by rw[dB,show c.sz 5=c.X.length from rfl];omega)];simp only[zG];rw[PF (ii:=6) (i:=6) h e rfl (by omega)];simp only[zG];rw[show c.sz 6=c.T.length from rfl];have A:(seg (put (put W (c.off 4) d.2.1) (c.off 5) (d.2.1.take c.X.length)) (c.off 6) c.T.length).length=c.T.length:=cv (e.in' h (i:=6) (by omega));rw[K6 (f:=u0 c.X (0,d.1,d.2.1) _) (X:=c.X) (a:=d.2.1) (g:=seg (put (put W (c.off 4) d.2.1) (c.off 5) (d.2.1.take c.X.length)) (c.off 6) c.T.length) (by omega) (by omega) (by omega) (λs=>rfl)]
 simp only[zG];rw[ML (ii:=6) (i:=6) h e rfl (by omega) (by rw[vp,A];exact aB _)];rfl
def Px (c:Cx)(W x:Zd):Zd:=E2 c (put W (c.off 3) (lossR c W x).1) (mh c.fk (lossR c W x).1 (fill c.Q [1]) (lossR c W x).2.1).2.1
theorem Gl (h:c.Ok)(b:Wd c W)(u:x.length=c.X.length):Wd c (put W (c.off 3) (lossR c W x).1)/\Wd c (Px c W x):=by
 have n:=h.num;obtain⟨v,e,g⟩:=DZ h b u;have C:=n.R;have B:=n.Q;have A:=n.xtQ;have E:=n.x;have D:=n.m;have y:=kc (c:=c) (i:=3) (j:=9) (by omega);have I:c.sz 3=c.Q.toNat:=rfl;have d:=b.put h (w:=(lossR c W x).1) (o:=c.off 3) (by omega);obtain⟨_,F,H⟩:=tW h.pk e (a:=fill c.Q [1]) (t:=(lossR c W x).2.1) (ia (by simp;omega)) (aD g.symm) (by omega);exact⟨d,(re h d (by omega) (by omega)).2.2⟩
theorem bz5 (h:c.Ok)(b:Wd c W)(g:x.length=c.X.length):
  om x c.fixed c.tp c.sl c.ns c.mode c.R c.Q c.len c.words L p q c0 c1 c2 c3 z c.X c.T c.l c.k c.P c.tk lv pk bd W=O (c.fixed,c.tp,c.sl,c.ns,c.mode,c.R,c.Q,c.len,c.words,L,p,q,c0,c1,zH zI (c2+1),zH zI (c3+1),rg (lossR c W x).1 0,Px c W x):=by
 have n:=h.num;obtain⟨u,d,v⟩:=DZ h b g;obtain⟨B,K⟩:=Gl h b g;have E:=n.R;have D:=n.Q;have C:=n.xtQ;have H:=n.x;have F:=n.m;unfold om;rw[h.of];simp only[zG];rw[Ub (by omega),ap8 h b n.Q (by simp;omega)];simp only[zG];rw[Ub (by omega),show bD ((c.fk.n:Int)).toNat (0:Int)=bp c.fk.n from rfl];obtain⟨A,I,J⟩:=wY h.pk u (t:=bp c.fk.n) (by rw[bz];exact aB _) (by rw[bz];omega);rw[A];simp only[zG];have e:uW c.fk (fill c.Q (x++(seg W 0 c.T.length++[]))) (bp c.fk.n)=lossR c W x:=rfl;rw[e];have i0:ix 0 (lossR c W x).1.length=O 0:=bi (k:=0) (by omega);have y:(lossR c W x).1[0]?=O (rg (lossR c W x).1 0):=db (k:=0) (by omega);rw[i0];simp only[zG];rw[y];simp only[zG];rw[put1 (ii:=3) (i:=3) h b rfl (by omega) (by rw[show c.sz 3=c.Q.toNat from rfl];exact aD d)];simp only[zG];rw[Ow n.Q (by simp;omega)]
 simp only[zG];rw[aZ2 h B d (ia (by simp;omega)) v];rfl
theorem bo9 (h:c.Ok)(b:Wd c W)(u:0<=lv)(y:lv<=pk)(g:lv+c.fk.n<=bd)(d:bd<=1048576):
  nJ i0 c.fixed c.tp c.sl c.ns c.mode c.R c.Q c.len c.words L p q c0 c1 c2 c3 z c.X c.T c.l c.k c.P c.tk lv pk bd W=O (c.fixed,c.tp,c.sl,c.ns,c.mode,c.R,c.Q,c.len,c.words,L,p,q,c0,c1,zH zI (c2+1),zH zI (c3+1),rg (lossR c W (seg W (c.off 1) c.X.length)).1 0,lv,max pk (lv+c.fk.n),bd,Px c W (seg W (c.off 1) c.X.length)):=by
 have n:=h.num;have e:=b.in' h (i:=1) (by omega);have v:(seg W (c.off 1) c.X.length).length=c.X.length:=cv e;unfold nJ;rw[h.of];simp only[zG];rw[tU (by omega) u g d];simp only[zG];rw[Uc (ii:=1) (i:=1) h b rfl (by omega)];simp only[zG];rw[show c.sz 1=c.X.length from rfl,bz5 h b v];simp only[zG];rw[zp (by omega) (by omega) (by omega) (by omega)];simp only[zG];rw[show lv+(c.fk.n:Int)-c.fk.n=lv by omega]
theorem bj2 (h:c.Ok)(b:Wd c W)(g:x.length=c.X.length):
  mS x c.fixed c.tp c.sl c.ns c.mode c.R c.Q c.len c.words L p q c0 c1 c2 c3 z c.X c.T c.l c.k c.P c.tk sb sn sx lv pk bd W=O (c.fixed,c.tp,c.sl,c.ns,c.mode,c.R,c.Q,c.len,c.words,L,p,q,c0,c1,zH zI (c2+1),zH zI (c3+1),rg (lossR c W x).1 0,Px c W x):=by
 have n:=h.num;obtain⟨u,d,v⟩:=DZ h b g;obtain⟨B,K⟩:=Gl h b g;have E:=n.R;have D:=n.Q;have C:=n.xtQ;have H:=n.x;have F:=n.m;unfold mS;rw[h.of];simp only[zG];rw[Ub (by omega),Xs h b n.Q (by simp;omega)];simp only[zG];rw[Ub (by omega),show bD ((c.fk.n:Int)).toNat (0:Int)=bp c.fk.n from rfl];obtain⟨A,I,J⟩:=wY h.pk u (t:=bp c.fk.n) (by rw[bz];exact aB _) (by rw[bz];omega);rw[A];simp only[zG];have e:uW c.fk (fill c.Q (x++(seg W 0 c.T.length++[]))) (bp c.fk.n)=lossR c W x:=rfl;rw[e];have i0:ix 0 (lossR c W x).1.length=O 0:=bi (k:=0) (by omega);have y:(lossR c W x).1[0]?=O (rg (lossR c W x).1 0):=db (k:=0) (by omega);rw[i0];simp only[zG];rw[y];simp only[zG];rw[ML (ii:=3) (i:=3) h b rfl (by omega) (by rw[show c.sz 3=c.Q.toNat from rfl];exact aD d)];simp only[zG];rw[Ow n.Q (by simp;omega)]
 simp only[zG];rw[aZ3 h B d (ia (by simp;omega)) v];rfl
theorem bp0 (h:c.Ok)(b:Wd c W)(u:0<=lv)(y:lv<=pk)(g:lv+c.fk.n<=bd)(d:bd<=1048576):
  mr i0 c.fixed c.tp c.sl c.ns c.mode c.R c.Q c.len c.words L p q c0 c1 c2 c3 z c.X c.T c.l c.k c.P c.tk sb sn sx lv pk bd W=O (c.fixed,c.tp,c.sl,c.ns,c.mode,c.R,c.Q,c.len,c.words,L,p,q,c0,c1,zH zI (c2+1),zH zI (c3+1),rg (lossR c W (seg W (c.off 1) c.X.length)).1 0,lv,max pk (lv+c.fk.n),bd,Px c W (seg W (c.off 1) c.X.length)):=by
 have n:=h.num;have e:=b.in' h (i:=1) (by omega);have v:(seg W (c.off 1) c.X.length).length=c.X.length:=cv e;unfold mr;rw[h.of];simp only[zG];rw[tU (by omega) u g d];simp only[zG];rw[PF (ii:=1) (i:=1) h b rfl (by omega)];simp only[zG];rw[show c.sz 1=c.X.length from rfl,bj2 h b v];simp only[zG];rw[zp (by omega) (by omega) (by omega) (by omega)];simp only[zG];rw[show lv+(c.fk.n:Int)-c.fk.n=lv by omega]
end
end
section
open Go.IntKind renaming wrap -> zH, i64 -> zI, u64 -> zJ
open List renaming length_take -> aB
open Nat renaming le_of_eq -> aD
section
variable {c:Cx}
def QH (c:Cx)(W r t:Zd):Zd:=E2 c W (mh c.fl r (fill c.R (seg W (c.off 5) c.X.length)) t).2.1
theorem LX (h:c.Ok)(b:Wd c W)(g:r.length=c.R.toNat)(u:t.length=c.fl.n):(fill c.R (seg W (c.off 5) c.X.length)).length=c.R.toNat/\Wd c (QH c W r t):=by
 have n:=h.num;have A:=n.R;have y:=n.xtR;have C:=n.x;have B:=n.n;have e:=b.in' h (i:=5) (by omega);have v:(seg W (c.off 5) c.X.length).length=c.X.length:=cv e;have d:(fill c.R (seg W (c.off 5) c.X.length)).length=c.R.toNat:=ia (by omega);obtain⟨_,D,E⟩:=tW h.pl g d (aD u.symm) (by omega);exact⟨d,(re h b (by omega) (by omega)).2.2⟩
theorem aV6 (h:c.Ok)(b:Wd c W)(d:r.length=c.R.toNat)(e:t.length=c.fl.n):
  mt c.fixed c.tp c.sl c.ns c.mode c.R c.Q c.len c.words L p q c0 c1 c2 c3 z r t c.X c.T c.l c.k c.P c.tk sb sn sx lv pk bd W=O (c.fixed,c.tp,c.sl,c.ns,c.mode,c.R,c.Q,c.len,c.words,L,p,q,c0,c1,c2,zH zI (c3+1),z,(mh c.fl r (fill c.R (seg W (c.off 5) c.X.length)) t).1,QH c W r t):=by
 have n:=h.num;have v:=n.R;have B:=n.xtR;obtain⟨g,y⟩:=LX h b d e;have u:=b.in' h (i:=5) (by omega);have A:(seg W (c.off 5) c.X.length).length=c.X.length:=cv u;unfold mt;rw[PF (ii:=5) (i:=5) h b rfl (by omega)];simp only[zG];rw[show c.sz 5=c.X.length from rfl,Ow v (by omega)];simp only[zG];rw[aZ4 h b d g e];rfl
def al1 (c:Cx)(W:Zd)(p:Int):Zd:=QH c (put W (c.off 2) (stepR c W p).1) (stepR c W p).1 (stepR c W p).2.1
theorem Ch (h:c.Ok)(b:Wd c W)(p:Int):Wd c (put W (c.off 2) (stepR c W p).1):=by
 obtain⟨_,d,_⟩:=mm h b p;have e:=kc (c:=c) (i:=2) (j:=9) (by omega);have g:c.sz 2=c.R.toNat:=rfl;exact b.put h (by omega)
theorem bA8 (h:c.Ok)(b:Wd c W)(v:0<=lv)(A:lv<=pk)(u:lv+c.fl.n<=bd)(d:bd<=1048576):
  mH i0 c.fixed c.tp c.sl c.ns c.mode c.R c.Q c.len c.words L p q c0 c1 c2 c3 z c.X c.T c.l c.k c.P c.tk sb sn sx lv pk bd W=O (c.fixed,c.tp,c.sl,c.ns,c.mode,c.R,c.Q,c.len,c.words,L,p,q,c0,zH zI (c1+1),c2,zH zI (c3+1),z,lv,max pk (lv+c.fl.n),bd,al1 c W p):=by
 obtain⟨y,e,g⟩:=mm h b p;unfold mH;rw[h.of];simp only[zG];rw[tU (by omega) v u d];simp only[zG];rw[aB3 h b];simp only[zG];rw[aV6 h (Ch h b p) e g];simp only[zG];rw[zp (by omega) (by omega) (by omega) (by omega)];simp only[zG];rw[show lv+(c.fl.n:Int)-c.fl.n=lv by omega];rfl
def RA (c:Cx)(W:Zd)(p:Int):Zd:=QH c (Px c (put W (c.off 2) (stepR c W p).1) ((stepR c W p).1.take c.X.length)) (stepR c W p).1 (stepR c W p).2.1
theorem bi0 (h:c.Ok)(b:Wd c W)(A:0<=lv)(C:lv<=pk)(y:lv+(c.fl.n+c.fk.n)<=bd)(d:bd<=1048576):
  oO i0 c.fixed c.tp c.sl c.ns c.mode c.R c.Q c.len c.words L p q c0 c1 c2 c3 z c.X c.T c.l c.k c.P c.tk sb sn sx lv pk bd W=O (c.fixed,c.tp,c.sl,c.ns,c.mode,c.R,c.Q,c.len,c.words,L,p,q,c0,zH zI (c1+1),zH zI (c2+1),zH zI (zH zI (c3+1)+1),rg (lossR c (put W (c.off 2) (stepR c W p).1) ((stepR c W p).1.take c.X.length)).1 0,lv,max pk (lv+(c.fl.n+c.fk.n)),bd,RA c W p):=by
 have n:=h.num;have E:=n.R;have D:=n.xtR;have H:=n.n;have F:=n.m;obtain⟨B,u,v⟩:=mm h b p;have g:=Ch h b p;have e:((stepR c W p).1.take c.X.length).length=c.X.length:=by rw[aB];omega
 unfold oO;rw[h.of];simp only[zG];rw[ad (n:=(c.fl.n:Int)+(c.fk.n:Int)) (by omega),tU (by omega) A y d];simp only[zG];rw[aB3 h b];simp only[zG];rw[Zk,bw,show((c.X.length:Int)).toNat-0=c.X.length by omega,List.drop_zero,bj2 h g e];simp only[zG];rw[aV6 h (Gl h g e).2 u v];simp only[zG];rw[zp (by omega) (by omega) (by omega) (by omega)];simp only[zG];rw[show lv+((c.fl.n:Int)+c.fk.n)-(c.fl.n+c.fk.n)=lv by omega];rfl
def NE (c:Cx)(W:Zd)(p:Int):Zd:=LK c.fl (fill c.R (seg W (c.off 1) c.X.length++(seg W 0 c.T.length++[zH zJ p])))
def adv1 (c:Cx)(W:Zd)(p:Int):Zd:=put (put W (c.off 2) (NE c W p)) (c.off 1) ((NE c W p).take c.X.length)
def advW (c:Cx)(W:Zd)(p:Int):Nat->Zd
 |0=>W
 |i+1=>adv1 c (advW c W p i) (p+i)
theorem ag7 {R:Int}(h:r.length=R.toNat):fill R r=r:=by
 unfold fill;rw[h,Nat.sub_self];simp
theorem IK (h:c.Ok)(d:Wd c W)(p:Int):sD c.R c.l (fill c.R (seg W (c.off 1) c.X.length++(seg W 0 c.T.length++[zH zJ p])))=O (0,NE c W p)/\(NE c W p).length=c.R.toNat:=by
 obtain⟨b,_,_⟩:=mm h d p;have:=VG h.pl (r:=fill c.R (seg W (c.off 1) c.X.length++(seg W 0 c.T.length++[zH zJ p]))) (aD b);rw[ag7 b]at this;exact this
theorem Tz (h:c.Ok)(b:Wd c W)(p:Int):Wd c (put W (c.off 2) (NE c W p))/\Wd c (adv1 c W p):=by
 have n:=h.num;have y:=n.R;have v:=n.xtR;obtain⟨_,e⟩:=IK h b p;have g:=kc (c:=c) (i:=1) (j:=9) (by omega);have u:=kc (c:=c) (i:=2) (j:=9) (by omega);have A:c.sz 1=c.X.length:=rfl;have B:c.sz 2=c.R.toNat:=rfl;have d:=b.put h (w:=NE c W p) (o:=c.off 2) (by omega);exact⟨d,d.put h (by rw[aB];omega)⟩
theorem Oe (h:c.Ok){W:Zd}(b:Wd c W)(p:Int): ∀i,Wd c (advW c W p i)
 |0=>b
 |i+1=>(Tz h (Oe h b p i) _).2
theorem ao6 (h:c.Ok)(u:Wd c W){m:Nat}(C:m<=65536)(D:0<=p/\p<=65536)(B:0<=c0/\c0<=4611686018427387904):
  mF (m:Int) c.fixed c.tp c.sl c.ns c.mode c.R c.Q c.len c.words L p q c0 c1 c2 c3 z c.X c.T c.l c.k c.P c.tk sb sn sx lv pk bd W=O (c.fixed,c.tp,c.sl,c.ns,c.mode,c.R,c.Q,c.len,c.words,L,p,q,c0+m,c1,c2,c3,z,advW c W p m):=by
 have n:=h.num;have y:=n.R;have E:=n.xtR;have F:=n.x;unfold mF
 have d:am (lh (m:Int) c.X c.T c.l c.k c.P c.tk sb sn sx lv pk bd) cj (0,c.fixed,c.tp,c.sl,c.ns,c.mode,c.R,c.Q,c.len,c.words,L,p,q,c0+((0:Nat):Int),c1,c2,c3,z,advW c W p 0)=O (c.fixed,c.tp,c.sl,c.ns,c.mode,c.R,c.Q,c.len,c.words,L,p,q,c0+m,c1,c2,c3,z,advW c W p m):=by
  refine cx (n:=m) (λi=>(c.fixed,c.tp,c.sl,c.ns,c.mode,c.R,c.Q,c.len,c.words,L,p,q,c0+(i:Int),c1,c2,c3,z,advW c W p i)) (by omega) (λi hi=> ?_) ?_
  .have b:=Oe h u p i;obtain⟨e,g⟩:=IK h b (p+i);obtain⟨A,H⟩:=Tz h b (p+i);have v:(seg (advW c W p i) (c.off 1) c.X.length).length=c.X.length:=cv (b.in' h (i:=1) (by omega));simp only[lh];rw[zB (show(i:Int)<(m:Int)by omega),zC,PF (ii:=1) (i:=1) h b rfl (by omega)];simp only[zG];rw[show c.sz 1=c.X.length from rfl,ad (n:=p+(i:Int)) (by omega),Xs h b y (by rw[v];simp;omega)];simp only[zG];rw[e];simp only[zG];rw[ML (ii:=2) (i:=2) h b rfl (by omega) (by rw[show c.sz 2=c.R.toNat from rfl];exact aD g)];simp only[zG];rw[Zk,bw,show((c.X.length:Int)).toNat-0=c.X.length by omega,List.drop_zero,ML (ii:=1) (i:=1) h A rfl (by omega) (by rw[aB,show c.sz 1=c.X.length from rfl];omega)];simp only[zG];rw[ad (n:=(i:Int)+1) (by omega),ad (n:=c0+(i:Int)+1) (by omega),show c0+(i:Int)+1=c0+((i+1:Nat):Int)by omega]
   rfl
  .simp only[lh];rw[Ze,zD]
 rw[show c0+((0:Nat):Int)=c0 by omega,show advW c W p 0=W from rfl]at d;rw[d];rfl
end
end
section
open List renaming range -> aB
def jd (a n:Int):Bool:=if a<1 then Zb else if 9<a then Zb else if a=1 then Zc (1<=n/\n<65536)else if a<=4 then Zc (0<=n/\n<1048576)else Zc (n=0)
theorem Tw (a n:Int):w7 a n=O (jd a n):=by
 unfold w7 jd w8;by_cases d:a<1
 .rw[zB d,zE d];rfl
 rw[zA d,zF d];by_cases e:9<a
 .rw[zB e,zE e];rfl
 rw[zA e,zF e];show cond (Zc (a=1)) _ _=_;by_cases g:a=1
 .rw[zB g,zE g];by_cases b:1<=n
  .rw[zB b];simp[b]
  .rw[zA b];simp[b]
 rw[zA g,zF g,zB (show 1<=a by omega)];by_cases b:a<=4
 .rw[zB b,zE b];by_cases h:0<=n
  .rw[zB h];simp[h]
  .rw[zA h];simp[h]
 .rw[zA b,zF b];rfl
section
variable {c:Cx}
def sp (c:Cx)(k:Nat):Nat:=c.off 8+k*(c.X.length+1)
def ge (c:Cx)(W:Zd)(k:Nat):Int:=rg W (sp c k:Int)
def mN (c:Cx)(W:Zd):Zd:=(aB c.ns.toNat).map λ(k:Nat)=>ge c W k-1
structure Dy where
 L:Int
 p:Int
 q:Int
 c0:Int
 c1:Int
 c2:Int
 c3:Int
 z:Int
 lv:Int
 pk:Int
 W:Zd
def jw (c:Cx)(W:Zd):Nat:=(aB c.ns.toNat).countP λ(k:Nat)=>Zc (0<ge c W k)
structure Inv (c:Cx)(s:Dy):Prop where
 w:Wd c s.W
 L:0<=s.L/\s.L<=65535
 p:0<=s.p/\s.p<=s.L
 q: -1<=s.q/\s.q<=s.L
 tag: ∀k,k<c.ns.toNat->0<=ge c s.W k/\ge c s.W k<=s.L+1
 lv:s.lv=c.fixed+c.sl*jw c s.W
 pk:s.lv<=s.pk/\s.pk<=c.words
theorem tn (h:c.Ok)(v:c.mode≠3)(u:k<c.ns.toNat):sp c k+(c.X.length+1)<=c.off 9/\c.ns.toNat*(c.X.length+1)+c.off 8=c.off 9/\c.ns.toNat<=524288:=by
 have n:=h.num;have b:=n.sl;rw[zF v]at b;have d:=h.ns
 have e:(c.sl*c.ns).toNat=c.ns.toNat*(c.X.length+1):=by
  have:c.sl*c.ns=((c.ns.toNat*(c.X.length+1):Nat):Int):=by
   rw[Int.natCast_mul,b,Int.toNat_of_nonneg d.1,Int.mul_comm]
   congr 1
  rw[this];rfl
 have C:c.off 9=c.off 8+c.ns.toNat*(c.X.length+1):=by rw[PZ,e]
 have g:(k+1)*(c.X.length+1)<=c.ns.toNat*(c.X.length+1):=Nat.mul_le_mul_right _ u;rw[Nat.succ_mul]at g;have y:=h.off9_le;have A:=n.words;have B:c.ns.toNat*2<=c.ns.toNat*(c.X.length+1):=Nat.mul_le_mul_left _ (by have:=n.x;omega);unfold sp;omega
theorem C8 (h:c.Ok)(g:c.mode≠3)(d:k<c.ns.toNat):cz (c.off 8:Int) c.ns (c.X.length:Int) (k:Int)=O (sp c k:Int):=by
 obtain⟨b,u,v⟩:=tn h g d;have y:=h.off9_le;have A:=h.num.words;have B:=h.num.x;unfold sp at b;unfold cz eu;simp only[zG];have e:(k:Int)*((c.X.length:Int)+1)=((k*(c.X.length+1):Nat):Int):=by rw[Int.natCast_mul];congr 1
 rw[ad (n:=(c.X.length:Int)+1) (by omega),e,ad (n:=((k*(c.X.length+1):Nat):Int)) (by omega),Zi];unfold sp
 congr 1
theorem LU (h:c.Ok)(u:c.mode≠3)(e:Wd c W)(g:k<c.ns.toNat):gu (sp c k:Int) c.tk W=O (ge c W k,0):=by
 obtain⟨v,_,_⟩:=tn h u g;obtain⟨b,d⟩:=e.tk h;exact ae8 (by omega) b d
theorem LV (h:c.Ok)(d:c.mode≠3)(e:Wd c W)(u: ∀k,k<c.ns.toNat->0<=ge c W k/\ge c W k<=65536):ku (c.off 8:Int) c.ns (c.X.length:Int) c.tk W=O (mN c W):=by
 unfold ku;have g:=h.ns
 have b:am (kv (c.off 8:Int) c.ns (c.X.length:Int) c.tk W) cj (0,(aB 0).map λ(k:Nat)=>ge c W k-1)=O (mN c W):=by
  refine cx (n:=c.ns.toNat) (λi=>(aB i).map λ(k:Nat)=>ge c W k-1) (by omega) (λi hi=> ?_) ?_
  .have v:=u i hi;unfold kv;simp only;rw[Zf,zC,C8 h d hi];simp only[zG];rw[LU h d e hi];simp only[zG];rw[ca (by simp;omega) (by omega),ad (n:=(i:Int)+1) (by omega),ad (n:=ge c W i) (by omega),ad (n:=ge c W i-1) (by omega),List.range_succ,List.map_append];rfl
  .unfold kv;simp only;rw[Ze,zD];rfl
 have b:am (kv (c.off 8:Int) c.ns (c.X.length:Int) c.tk W) cj (0,[])=_:=b;rw[b];rfl
theorem IM (b:k<c.ns.toNat):(mN c W)[k]?=O (ge c W k-1):=by
 unfold mN;rw[List.getElem?_map,List.getElem?_range b];rfl
theorem mz :(mN c W).length=c.ns.toNat:=by unfold mN;simp
theorem Rh {l:Zd}(d:l.length<1000000)(h: ∀t∈l,-1<=t/\t<=L):ij l L=O Zb:=by
 unfold ij nC
 have b:am (ik l L) cj 0=O (.inr ()):=by
  refine oi (n:=l.length) (by omega) (λi hi=> ?_) ?_
  .have:=h l[i] (List.getElem_mem hi);unfold ik qz;rw[Zf,zC,bh hi];simp only[zG];rw[Ze,zD];simp only[zG];rw[Ze,zD,Zi];rfl
  .unfold ik;rw[Ze,zD]
 rw[b];rfl
theorem Gs {l:Zd}(d:0<=L/\L<=65535)(e:0<=p/\p<=L)(g: -1<=q/\q<=L)(b:l.length<1000000)(h: ∀t∈l,-1<=t/\t<=L):nU L p q l=O (.inr (p,q,L,l)):=by
 unfold nU Ck qz;rw[zB (show 0<=L by omega),zB (show L<65536 by omega)];simp only[zC,zG,Bool.not_true,zD];rw[zA (show¬(1048576<(l.length:Int))by omega),zA (show¬p= -1 by omega),zA (show¬p< -1 by omega),zA (show¬L<p by omega),zA (show¬q< -1 by omega),zA (show¬L<q by omega)];simp only[zD,zG];rw[Rh b h];simp only[zG,zD];unfold lZ;rw[ca (by omega) (by omega)];rfl
end
end
section
open Bool renaming not_true -> aB
open Int renaming mul_le_mul_of_nonneg_left -> aD
open List renaming countP_le_length -> bB
variable {s:Dy}
section
variable {c:Cx}
def HF (c:Cx)(a n:Int)(s:Dy):Int×Dy:=
 if jd a n=Zb∨7<a then(2,s)
 else if(2<=a/\a<=4)/\c.ns<=n then(2,s)
 else if a=1 then(if s.L-s.p<n then(17,s)else(0,{s with p:=s.p+n,c0:=s.c0+n,W:=advW c s.W s.p n.toNat}))
 else if a=2 then(if 0<=ge c s.W n.toNat-1 then(15,s)else(0,{s with lv:=s.lv+c.sl,pk:=max s.pk (s.lv+c.sl),W:=put s.W (sp c n.toNat) (IntKind.u64.wrap (IntKind.i64.wrap (s.p+1))::seg s.W (c.off 1) c.X.length)}))
 else if a=3 then(if ge c s.W n.toNat-1<0 then(16,s)else(0,{s with p:=ge c s.W n.toNat-1,W:=put s.W (c.off 1) (seg s.W (sp c n.toNat+1) c.X.length)}))
 else if a=4 then(if ge c s.W n.toNat-1<0 then(16,s)else(0,{s with lv:=s.lv-c.sl,W:=put s.W (sp c n.toNat) (bp (c.X.length+1))}))
 else if a=5 then(if s.q≠ -1 then(18,s)else if s.p≠s.L then(17,s)else(0,{s with q:=s.p,c2:=s.c2+1,c3:=s.c3+1,z:=rg (lossR c s.W (seg s.W (c.off 1) c.X.length)).1 0,pk:=max s.pk (s.lv+c.fk.n),W:=Px c s.W (seg s.W (c.off 1) c.X.length)}))
 else if a=6 then(if s.q≠ -1 then(18,s)else if s.p≠s.L-1 then(17,s)else(0,{s with q:=s.p,c1:=s.c1+1,c2:=s.c2+1,c3:=s.c3+1+1,z:=rg (lossR c (put s.W (c.off 2) (stepR c s.W s.p).1) ((stepR c s.W s.p).1.take c.X.length)).1 0,pk:=max s.pk (s.lv+(c.fl.n+c.fk.n)),W:=RA c s.W s.p}))
 else(if s.q<=0 then(18,s)else if s.p≠s.q-1 then(17,s)else(0,{s with q:=s.p,c1:=s.c1+1,c3:=s.c3+1,pk:=max s.pk (s.lv+c.fl.n),W:=al1 c s.W s.p}))
def ba0 (c:Cx)(r:Int×Dy):Int×Int×Int×Int×Int×Int×Int×Int×Int×Int×Int×Int×Int×Int×Int×Int×Int×Int×Int×Int×Int×Zd:=
 (r.1,c.fixed,c.tp,c.sl,c.ns,c.mode,c.R,c.Q,c.len,c.words,r.2.L,r.2.p,r.2.q,r.2.c0,r.2.c1,r.2.c2,r.2.c3,r.2.z,r.2.lv,r.2.pk,c.words,r.2.W)
def DD (B:Int)(s:Dy):Prop:=(0<=s.c0/\s.c0<=B)/\(0<=s.c1/\s.c1<=B)/\(0<=s.c2/\s.c2<=B)/\(0<=s.c3/\s.c3<=B)
theorem ad0 (c:Cx)(W:Zd):jw c W<=c.ns.toNat:=by
 unfold jw;exact Nat.le_trans bB (by simp)
theorem DY (h:c.Ok)(hi:Inv c s):0<=s.lv/\s.lv+c.tp<=c.words/\c.words<=1048576/\0<=c.tp:=by
 have n:=h.num;have e:=hi.lv;have g:=ad0 c s.W;have u:=h.fit;have v:=n.fixed;have y:=h.ns;have d:=n.sl;have A:1<=c.sl:=by rw[d];have:=n.R;split<;>omega
 have B:c.sl*(jw c s.W:Int)<=c.sl*c.ns:=aD (by omega) (by omega);have C:0<=c.sl*(jw c s.W:Int):=Int.mul_nonneg (by omega) (by omega);have b:0<=c.tp:=by rw[n.tp];split<;>omega
 have:=n.R;have:=n.Q;have:=n.words;refine⟨by omega,by omega,by omega,b⟩
theorem RY (h:c.Ok)(hi:Inv c s)(A:jw c s.W<c.ns.toNat):s.lv+c.sl<=c.words:=by
 have n:=h.num;have g:=hi.lv;have u:=h.fit;have v:=h.ns;have d:=n.sl;have y:1<=c.sl:=by rw[d];have:=n.R;split<;>omega
 have e:c.sl*((jw c s.W:Int)+1)<=c.sl*c.ns:=aD (by omega) (by omega);have b:0<=c.tp:=by rw[n.tp];split<;>omega
 rw[Int.mul_add,Int.mul_one]at e;omega
theorem af8 {l:List Nat}{P:Nat->Bool}(d:k∈l)(b:P k=Zb):l.countP P<l.length:=by
 rcases Nat.lt_or_ge (l.countP P) l.length with h|h
 .exact h
 .have:=List.countP_eq_length.1 (Nat.le_antisymm bB h) k d;rw[b]at this;cases this
theorem RP (b:k<c.ns.toNat)(d:ge c W k<=0):jw c W<c.ns.toNat:=by
 have:=af8 (l:=List.range c.ns.toNat) (P:=λ(k:Nat)=>Zc (0<ge c W k)) (k:=k) (List.mem_range.2 b) (zA (by omega));rw[List.length_range]at this;exact this
theorem XU (b:k<c.ns.toNat):nu sb c.ns sx (k:Int)=O Za:=by
 unfold nu;rw[Zf,zC,Zf]
theorem be3 (h:c.Ok)(e:c.mode≠3)(hi:Inv c s)(b:k<c.ns.toNat)(A:ge c s.W k<=0):
  nP (k:Int) c.fixed c.tp c.sl c.ns c.mode c.R c.Q c.len c.words s.L s.p s.q s.c0 s.c1 s.c2 s.c3 s.z c.X c.T c.l c.k c.P c.tk (c.off 8:Int) c.ns (c.X.length:Int) s.lv s.pk c.words s.W=O (s.lv+c.sl,max s.pk (s.lv+c.sl),c.words,put s.W (sp c k) (IntKind.u64.wrap (IntKind.i64.wrap (s.p+1))::seg s.W (c.off 1) c.X.length)):=by
 have n:=h.num;have d:=hi.w;obtain⟨v,E,F⟩:=DY h hi;have y:=RY h hi (RP b A);have g:=n.sl;rw[zF e]at g;have J:=n.x;have I:=hi.p;have H:=hi.L;have B:=(hi.tag k b).1;obtain⟨K,M,N⟩:=tn h e b;obtain⟨C,D⟩:=d.tk h;have u:(seg s.W (c.off 1) c.X.length).length=c.X.length:=cv (d.in' h (i:=1) (by omega));unfold nP;rw[tU (by omega) v y (by omega)];simp only[zG];rw[PF (ii:=1) (i:=1) h d rfl (by omega)];simp only[zG];rw[show c.sz 1=c.X.length from rfl];unfold sM;rw[XU b];simp only[zG,aB,zD];rw[C8 h e b];simp only[zG];rw[LU h e d b];simp only[zG];rw[zA (show¬s.p<0 by omega),zD,zA (show¬65536<=s.p by omega)];simp only[zG,zD];rw[u,zA (λk=>k rfl),zD,zA (show¬(ge c s.W k≠0)by omega),zD,ca (by omega) (by omega)]
 unfold Cx.tk;rw[wN (by simp[u];omega) C D];rfl
theorem az4 (h:c.Ok)(e:c.mode≠3)(hi:Inv c s)(b:k<c.ns.toNat)(B:0<ge c s.W k):
  mG (k:Int) c.fixed c.tp c.sl c.ns c.mode c.R c.Q c.len c.words s.L s.p s.q s.c0 s.c1 s.c2 s.c3 s.z c.X c.T c.l c.k c.P c.tk (c.off 8:Int) c.ns (c.X.length:Int) s.lv s.pk c.words s.W=O (put s.W (c.off 1) (seg s.W (sp c k+1) c.X.length)):=by
 have n:=h.num;have d:=hi.w;have A:=hi.L;have g:=(hi.tag k b).2;obtain⟨C,D,E⟩:=tn h e b;obtain⟨v,y⟩:=d.tk h;have u:(seg s.W (sp c k+1) c.X.length).length=c.X.length:=cv (by omega);unfold mG qJ;rw[XU b];simp only[zG,aB,zD];rw[C8 h e b];simp only[zG];rw[LU h e d b];simp only[zG];rw[zA (show¬ge c s.W k=0 by omega),zD,ad (n:=(sp c k:Int)+1) (by omega),show(sp c k:Int)+1=((sp c k+1:Nat):Int)by omega];unfold Cx.tk;rw[CQ (by omega) v y];simp only[zG];rw[show((c.off 9:Nat):Int)=c.tk from rfl,ML (ii:=1) (i:=1) h d rfl (by omega) (by rw[u];exact Nat.le_refl _)];rfl
theorem bj9 (h:c.Ok)(d:c.mode≠3)(hi:Inv c s)(b:k<c.ns.toNat)(E:0<ge c s.W k)(e:c.sl<=s.lv):
  oP (k:Int) c.fixed c.tp c.sl c.ns c.mode c.R c.Q c.len c.words s.L s.p s.q s.c0 s.c1 s.c2 s.c3 s.z c.X c.T c.l c.k c.P c.tk (c.off 8:Int) c.ns (c.X.length:Int) s.lv s.pk c.words s.W=O (s.lv-c.sl,s.pk,c.words,put s.W (sp c k) (bp (c.X.length+1))):=by
 have n:=h.num;have v:=hi.w;have F:=n.x;have u:=n.sl;rw[zF d]at u;obtain⟨B,C,D⟩:=DY h hi;have g:=hi.pk;obtain⟨H,I,J⟩:=tn h d b;obtain⟨y,A⟩:=v.tk h;unfold oP tH;rw[XU b];simp only[zG,aB,zD];rw[C8 h d b];simp only[zG];rw[LU h d v b];simp only[zG];rw[zA (show¬ge c s.W k=0 by omega),zD];unfold eu;simp only[zG];rw[ad (n:=(c.X.length:Int)+1) (by omega),Ub (by omega),show List.replicate (((c.X.length:Int)+1).toNat) (0:Int)=bp (c.X.length+1)from rfl];unfold Cx.tk;rw[wN (by rw[bz];omega) y A];simp only[zG];rw[zp (by omega) e g.1 (by omega)];rfl
end
end
end Go.V
