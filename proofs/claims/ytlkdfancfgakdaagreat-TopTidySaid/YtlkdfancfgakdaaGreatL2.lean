/- A part of the proof. No condition. -/
import Derived.Test.YtlkdfancfgakdaaGreatL1
set_option linter.unusedVariables false
set_option linter.unusedSimpArgs false
set_option linter.unusedSectionVars false
namespace Go.V
open Go.Ab
open Option renaming some->O,none->Y
open Bool renaming true->Za,false->Zb
open Decidable renaming decide->Zc
variable {T W W' X a r t w x:Zd}{B L Q a0 a1 a10 a11 a12 a13 a14 a15 a16 a2 a3 a4 a5 a6 a7 a8 a9 b bd c0 c1 c2 c3 i0 ii lv m p pk q sb sn sx z:Int}{i j k o:Nat}{l:List bg}
set_option maxRecDepth 100000
section
open Go.IntKind renaming wrap -> zH, i64 -> zI, u64 -> zJ
open Int renaming toNat_natCast -> aB
open List renaming getElem?_eq_getElem -> aD
theorem AF (f:Nat->Int): ∀{j:Nat},j<8->List.getD [f 0,f 1,f 2,f 3,f 4,f 5,f 6,f 7] j 0=f j
 |0,_=>rfl
 |1,_=>rfl
 |2,_=>rfl
 |3,_=>rfl
 |4,_=>rfl
 |5,_=>rfl
 |6,_=>rfl
 |7,_=>rfl
 |n+8,h=>by omega
def app (o:bg)(x y:Int):Int:=
 if o.1=1 then zH zJ (x+y)else if o.1=2 then zH zJ (x-y)else if o.1=3 then zH zJ (x*y)else if o.1=4 then zH zJ (0-x)else if o.1=5 then o.2.2.2.2 else if o.1=6 then x else 0
theorem Jz (o:bg)(x y:Int):tO o.1 o.2.1 o.2.2.1 o.2.2.2.1 o.2.2.2.2 x y=O (app o x y):=by
 unfold tO app;simp only[ak]
 repeat' split
 all_goals rfl
def OB (R:Nat)(o:bg):Prop:=(0<=o.2.1/\o.2.1<R)/\(0<=o.2.2.1/\o.2.2.1<R)/\0<=o.2.2.2.1/\o.2.2.2.1<R
theorem vw {R:Nat}{o:bg}(h:OB R o): ∃d a b:Nat,o.2.1=d/\o.2.2.1=a/\o.2.2.2.1=b/\d<R/\a<R/\b<R:=by
 unfold OB at h;exact⟨o.2.1.toNat,o.2.2.1.toNat,o.2.2.2.1.toNat,by omega,by omega,by omega,by omega,by omega,by omega⟩
def rg (r:Zd)(k:Int):Int:=r.getD k.toNat 0
theorem lm (h:k<r.length):r[k]?=O (rg r (k:Int)):=by
 unfold rg;rw[aB,aD h,List.getD_eq_getElem?_getD,aD h];rfl
abbrev TS :=Zd×Zd×Nat
def vh (o:bg)(s:TS):TS:=(s.1.set o.2.1.toNat (app o (rg s.1 o.2.2.1) (rg s.1 o.2.2.2.1)),s.2.1.set s.2.2 (rg s.1 o.2.1),s.2.2+1)
def VdT (R N:Nat)(m:Nat)(s:TS):Prop:=s.1.length=R/\s.2.1.length=N/\s.2.2+m<=N
def stT (p d:Nat)(l:Nat->Int)(s:TS):Int×Int×Int×(Zd)×(Zd)×Int×Int×Int×Int×Int×Int×Int×Int:=
 ((p:Int),(s.2.2:Int),(d:Int),s.1,s.2.1,l 0,l 1,l 2,l 3,l 4,l 5,l 6,l 7)
theorem md {code:List xI}{p:Nat}{x:xI}(d:code.length<=8192)(h:code[p]?=O x):p<code.length/\ix (p:Int) code.length=O p:=by
 have:=(List.getElem?_eq_some_iff.1 h).1;exact⟨this,bm this⟩
theorem YN {code:List xI}(A:code.length<=8192){R N:Nat}(hN:N<=1000000):Runs (qg code) code stT vh (VdT R N) (OB R)where
 op:=by
  intro p d l s m o E h U y g C;obtain⟨D,u⟩:=md A h;obtain⟨I,F,H,J,K,M,g1,g2,g3⟩:=vw U;obtain⟨v1,v2,v3⟩:=C;refine⟨?_,by unfold vh;exact⟨by simp[v1],by simp[v2],by show s.2.2+1+m<=N;omega⟩⟩;unfold stT vh;simp only[qg];rw[Ze,zD,u];simp only[zG];rw[h];simp only[zG,ci];rw[Ze,zD,Ze,zD];simp only[Jz,zG];rw[J,K,M,bm (show I<s.1.length by omega)];simp only[zG];rw[lm (show I<s.1.length by omega)];simp only[zG];rw[bm (show s.2.2<s.2.1.length by omega)];simp only[zG];rw[lm (show s.2.2<s.2.1.length by omega)];simp only[zG];rw[bm (show F<s.1.length by omega)];simp only[zG];rw[lm (show F<s.1.length by omega)];simp only[zG];rw[bm (show H<s.1.length by omega)];simp only[zG];rw[lm (show H<s.1.length by omega)]
  simp only[zG];rw[ae (n:=(p:Int)+1) (by omega),ae (n:=(s.2.2:Int)+1) (by omega)];rfl
 rep:=by
  intro p d l s m o E h y g C;obtain⟨D,u⟩:=md A h;unfold stT;simp only[qg];rw[Ze,zD,u];simp only[zG];rw[h];simp only[zG,ci];rw[zB y,zC,bm g];simp only[zG];rw[ae (n:=(p:Int)+1) (by omega),ae (n:=(d:Int)+1) (by omega)];rfl
 nxt:=by
  intro p d l s m e E h y g V Z C;obtain⟨D,u⟩:=md A h;have v:=AF (upd l d (l d-1)) g;rw[rQ]at v;unfold upd at v;unfold stT;simp only[qg];rw[Ze,zD,u];simp only[zG];rw[h];simp only[zG,ci];rw[Ze,zD,zB y,zC,ae (n:=((d+1:Nat):Int)-1) (by omega),show((d+1:Nat):Int)-1=(d:Int)by omega,bm g];simp only[zG];rw[AF l g,Zj,v,Zf,zC];rfl
 out:=by
  intro p d l s m e E h y g V C;obtain⟨D,u⟩:=md A h;have v:=AF (upd l d (l d-1)) g;rw[rQ]at v;unfold upd at v;unfold stT;simp only[qg];rw[Ze,zD,u];simp only[zG];rw[h];simp only[zG,ci];rw[Ze,zD,zB y,zC,ae (n:=((d+1:Nat):Int)-1) (by omega),show((d+1:Nat):Int)-1=(d:Int)by omega,bm g];simp only[zG];rw[AF l g,Zj,v,Ze,zD,ae (n:=(p:Int)+1) (by omega)];rfl
abbrev FS :=Zd×Nat
def L7 (o:bg)(s:FS):FS:=(s.1.set o.2.1.toNat (app o (rg s.1 o.2.2.1) (rg s.1 o.2.2.2.1)),s.2+1)
def VdF (R M:Nat)(m:Nat)(s:FS):Prop:=s.1.length=R/\s.2+m<=M
def stF (p d:Nat)(l:Nat->Int)(s:FS):Int×Int×Int×(Zd)×Int×Int×Int×Int×Int×Int×Int×Int:=
 ((p:Int),(s.2:Int),(d:Int),s.1,l 0,l 1,l 2,l 3,l 4,l 5,l 6,l 7)
theorem an9 {code:List xI}(A:code.length<=8192){R M:Nat}(hM:M<=1000000):Runs (kw (-1) code) code stF L7 (VdF R M) (OB R)where
 op:=by
  intro p d l s m o E h U y g C;obtain⟨D,u⟩:=md A h;obtain⟨I,F,H,J,K,N,g1,g2,g3⟩:=vw U;obtain⟨v1,v2⟩:=C;refine⟨?_,by unfold L7;exact⟨by simp[v1],by show s.2+1+m<=M;omega⟩⟩;unfold stF L7;simp only[kw];rw[zA (show¬((p:Int)=(code.length:Int))by omega),zD,zA (show¬((s.2:Int)= -1)by omega),zD,u];simp only[zG];rw[h];simp only[zG,ci];rw[Ze,zD,Ze,zD];simp only[Jz,zY,zG];rw[J,K,N,bm (show F<s.1.length by omega)];simp only[zG];rw[lm (show F<s.1.length by omega)];simp only[zG];rw[bm (show H<s.1.length by omega)];simp only[zG];rw[lm (show H<s.1.length by omega)];simp only[zG];rw[bm (show I<s.1.length by omega)];simp only[zG];rw[lm (show I<s.1.length by omega)];simp only[zG]
  rw[ae (n:=(p:Int)+1) (by omega),ae (n:=(s.2:Int)+1) (by omega)];rfl
 rep:=by
  intro p d l s m o E h y g C;obtain⟨D,u⟩:=md A h;unfold stF;simp only[kw];rw[zA (show¬((p:Int)=(code.length:Int))by omega),zD,zA (show¬((s.2:Int)= -1)by omega),zD,u];simp only[zG];rw[h];simp only[zG,ci];rw[zB y,zC,bm g];simp only[zG];rw[ae (n:=(p:Int)+1) (by omega),ae (n:=(d:Int)+1) (by omega)];rfl
 nxt:=by
  intro p d l s m e E h y g V Z C;obtain⟨D,u⟩:=md A h;have v:=AF (upd l d (l d-1)) g;rw[rQ]at v;unfold upd at v;unfold stF;simp only[kw];rw[zA (show¬((p:Int)=(code.length:Int))by omega),zD,zA (show¬((s.2:Int)= -1)by omega),zD,u];simp only[zG];rw[h];simp only[zG,ci];rw[Ze,zD,zB y,zC,ae (n:=((d+1:Nat):Int)-1) (by omega),show((d+1:Nat):Int)-1=(d:Int)by omega,bm g];simp only[zG];rw[AF l g,Zj,v,Zf,zC];rfl
 out:=by
  intro p d l s m e E h y g V C;obtain⟨D,u⟩:=md A h;have v:=AF (upd l d (l d-1)) g;rw[rQ]at v;unfold upd at v;unfold stF;simp only[kw];rw[zA (show¬((p:Int)=(code.length:Int))by omega),zD,zA (show¬((s.2:Int)= -1)by omega),zD,u];simp only[zG];rw[h];simp only[zG,ci];rw[Ze,zD,zB y,zC,ae (n:=((d+1:Nat):Int)-1) (by omega),show((d+1:Nat):Int)-1=(d:Int)by omega,bm g];simp only[zG];rw[AF l g,Zj,v,Ze,zD,ae (n:=(p:Int)+1) (by omega)];rfl
def YD (o:bg)(x y:Int):Int×Int:=
 if o.1=1 then(1,1)else if o.1=2 then(1,18446744073709551615)else if o.1=3 then(y,x)else if o.1=4 then(18446744073709551615,0)else if o.1=6 then(1,0)else(0,0)
theorem Fw (o:bg)(x y:Int):og o.1 o.2.1 o.2.2.1 o.2.2.2.1 o.2.2.2.2 x y=O (YD o x y):=by
 unfold og YD;simp only[ak]
 repeat' split
 all_goals rfl
def GJ (o:bg)(r a:Zd)(t:Int):Zd×Zd:=
 let g:=rg a o.2.1
 let d:=r.set o.2.1.toNat t
 let a1:=a.set o.2.1.toNat 0
 let q:=YD o (rg d o.2.2.1) (rg d o.2.2.2.1)
 let a2:=a1.set o.2.2.1.toNat (zH zJ (rg a1 o.2.2.1+zH zJ (q.1*g)))
 (d,a2.set o.2.2.2.1.toNat (zH zJ (rg a2 o.2.2.2.1+zH zJ (q.2*g))))
theorem Wb {o:bg}{n:Nat}(H:OB r.length o)(M:a.length=r.length)(v:n<t.length):
  sF o.1 o.2.1 o.2.2.1 o.2.2.2.1 o.2.2.2.2 (n:Int) r a t=O (GJ o r a (rg t (n:Int))):=by
 obtain⟨d,g,h,y,A,C,u,I,J⟩:=vw H;unfold sF;simp only[Fw,zG];unfold GJ;simp only[y,A,C,aB];rw[bm (show d<a.length by omega)];simp only[zG];rw[lm (show d<a.length by omega)];simp only[zG];rw[bm v];simp only[zG];rw[lm v];simp only[zG];rw[bm u];simp only[zG];rw[lm u];simp only[zG];have e: ∀x:Int,(r.set d x).length=r.length:=by simp
 have F:(a.set d 0).length=a.length:=by simp
 rw[bm (show g<(r.set d (rg t (n:Int))).length by rw[e];omega)];simp only[zG];rw[lm (show g<(r.set d (rg t (n:Int))).length by rw[e];omega)];simp only[zG];rw[bm (show h<(r.set d (rg t (n:Int))).length by rw[e];omega)];simp only[zG];rw[lm (show h<(r.set d (rg t (n:Int))).length by rw[e];omega)];simp only[zG];rw[bm (show g<(a.set d 0).length by omega)];simp only[zG];rw[lm (show g<(a.set d 0).length by omega)];simp only[zG];generalize K:YD o _ _=P;generalize D:(a.set d 0).set g _=A2;have E:A2.length=a.length:=by rw[<-D];simp
 rw[bm (show h<A2.length by omega)];simp only[zG];rw[lm (show h<A2.length by omega)];simp only[zG]
abbrev BS :=Zd×Zd×Nat
def tx (t:Zd)(o:bg)(s:BS):BS:=((GJ o s.1 s.2.1 (rg t ((s.2.2-1:Nat):Int))).1,(GJ o s.1 s.2.1 (rg t ((s.2.2-1:Nat):Int))).2,s.2.2-1)
def VdB (R N:Nat)(m:Nat)(s:BS):Prop:=s.1.length=R/\s.2.1.length=R/\m<=s.2.2/\s.2.2<=N
def stB (p d:Nat)(l:Nat->Int)(s:BS):Int×Int×Int×(Zd)×(Zd)×Int×Int×Int×Int×Int×Int×Int×Int:=
 ((p:Int)-1,(d:Int),(s.2.2:Int),s.1,s.2.1,l 0,l 1,l 2,l 3,l 4,l 5,l 6,l 7)
theorem JG (o:bg)(r a:Zd)(t:Int):(GJ o r a t).1.length=r.length/\(GJ o r a t).2.length=a.length:=by
 unfold GJ;simp
theorem aV6 {code:List xI}(C:code.length<=8192){R:Nat}(hN:t.length<=1000000):Backs (gx t code) code stB (tx t) (VdB R t.length) (OB R)where
 op:=by
  intro p d l s m o A h J y g D;obtain⟨E,u⟩:=md C h;obtain⟨H,Z,v3,v4⟩:=D;obtain⟨U,V⟩:=JG o s.1 s.2.1 (rg t ((s.2.2-1:Nat):Int));refine⟨?_,by unfold tx;exact⟨by simp[H,U],by simp[Z,V],by show m<=s.2.2-1;omega,by show s.2.2-1<=_;omega⟩⟩;unfold stB tx;simp only[gx];rw[show((p+1:Nat):Int)-1=(p:Int)by omega,Ze,zD,u];simp only[zG];rw[h];simp only[zG,ci];rw[Ze,zD,Ze,zD,ae (n:=(s.2.2:Int)-1) (by omega),show(s.2.2:Int)-1=((s.2.2-1:Nat):Int)by omega,Wb (by rw[H];exact J) (by omega) (by omega)];simp only[zG];rw[ae (n:=(p:Int)-1) (by omega)]
 rep:=by
  intro p q d l s m o e A h y F g D;obtain⟨E,u⟩:=md C h;obtain⟨h3,I⟩:=md C F;unfold stB;simp only[gx];rw[show((p+1:Nat):Int)-1=(p:Int)by omega,Ze,zD,u];simp only[zG];rw[h];simp only[zG,ci];rw[zB y,zC,ae (n:=((q+1:Nat):Int)-1) (by omega),show((q+1:Nat):Int)-1=(q:Int)by omega,I];simp only[zG];rw[F];simp only[zG,ci];rw[bm g];simp only[zG];rw[ae (n:=(p:Int)-1) (by omega),ae (n:=(d:Int)+1) (by omega)];rfl
 nxt:=by
  intro p d l s m o A h N y g K M D;obtain⟨E,u⟩:=md C h;have v:=AF (upd l d (l d-1)) g;rw[rQ]at v;unfold upd at v;unfold stB;simp only[gx];rw[show((p+1:Nat):Int)-1=(p:Int)by omega,Ze,zD,u];simp only[zG];rw[h];simp only[zG,ci];rw[Ze,zD,zB y,zC,ae (n:=((d+1:Nat):Int)-1) (by omega),show((d+1:Nat):Int)-1=(d:Int)by omega,bm g];simp only[zG];rw[AF l g,Zj,v,Zf,zC];rw[ae (n:=((A+1:Nat):Int)-2) (by omega),show((A+1:Nat):Int)-2=(A:Int)-1 by omega];rfl
 out:=by
  intro p d l s m o A h y g K D;obtain⟨E,u⟩:=md C h;have v:=AF (upd l d (l d-1)) g;rw[rQ]at v;unfold upd at v;unfold stB;simp only[gx];rw[show((p+1:Nat):Int)-1=(p:Int)by omega,Ze,zD,u];simp only[zG];rw[h];simp only[zG,ci];rw[Ze,zD,zB y,zC,ae (n:=((d+1:Nat):Int)-1) (by omega),show((d+1:Nat):Int)-1=(d:Int)by omega,bm g];simp only[zG];rw[AF l g,Zj,v,Ze,zD,ae (n:=(p:Int)-1) (by omega)];rfl
end
section
open Bool renaming and_eq_true -> cB, not_eq_true' -> cD
open List renaming getElem?_append_right -> bB, append_assoc -> bD, length_append -> dB
open Nat renaming le_refl -> aB, sub_self -> aD
theorem aH6 {w v c:Int}{n:Nat}(h:zw w v=O c)(e:0<=v)(g:w=(n:Int)):c=((n*v.toNat:Nat):Int):=by
 have d:((v.toNat:Nat):Int)=v:=Int.toNat_of_nonneg e;rw[Int.natCast_mul,d,<-g];unfold zw at h;split at h
 .rename_i u;injection h with h
  rw[u,Int.zero_mul,h]
 split at h
 .cases h
 split at h
 .cases h
 .injection h with h
  exact h.symm
def Wn (l:List bg)(m S:Zd):Prop:=m.length=l.length/\S.length=l.length/\∀(A B:List bg) (o e:bg) (b:Fo),l=A++o::(b.src++e::B)->b.Ok->o.1=7->e.1=0->
 m[A.length]?=O ((A.length+1+b.len:Nat):Int)/\S[A.length]?=O ((b.n*tz o:Nat):Int)
theorem aI2 {m S R:Zd}(H:MOK l m)(V:S.length=l.length)(J: ∀o∈l,NR o)(h: ∀j,j<l.length->∃a b,S[j]?=O a/\R[j]?=O b/\aK0 l j a b):Wn l m S:=by
 refine⟨H.len,V,λA B o e b u y I E=> ?_⟩;have F:l.length=A.length+1+(b.len+(B.length+1)):=by rw[u];simp[Fo.src_len];omega
 have g:A.length<l.length:=by omega
 have d:l[A.length]=o:=by
  have:l[A.length]?=O o:=by rw[u,bB (aB _),aD];rfl
  rw[List.getElem?_eq_getElem g]at this;injection this
 have D:l.drop (A.length+1)=b.src++e::B:=by rw[u,List.drop_append,List.drop_of_length_le (by omega),show A.length+1-A.length=1 by omega];rfl
 refine⟨?_, ?_⟩
 .have:=H.at' A.length g (by rw[d];exact I) b.src e B D E (Fo.scan0 y);rw[Fo.src_len]at this;exact this
 .obtain⟨a,c,M,h2,N⟩:=h A.length g;obtain⟨U,C⟩:=(N g).1 (by rw[d];exact I) b.src e B D E (Fo.scan0 y);have v: ∀x∈b.src,0<=x.2.2.2.2:=λx Z=>(J x (by rw[u];simp[Z])).1
  have K:=Fo.Q9_n b y v U;rw[d]at C;rw[M,aH6 C (J o (by rw[u];simp)).1 K];rfl
section
variable {l:List bg} {m S:Zd} {em es:Int}
theorem aX0 {op:Zd}{out:List xI}(h:l.length<=8192)(u:out.length<=8192){x:bg}(e:l[i]?=O x)(g:0<x.1/\x.1<7):
  gq l (em,m) (es,S) ((i:Int),op,out)=O (.inl (((i+1:Nat):Int),op,out++[ci x 0])):=by
 obtain⟨hi,d⟩:=List.getElem?_eq_some_iff.1 e;simp only[gq];rw[zB (show(i:Int)<(l.length:Int)by omega),zC,dn hi,d];simp only[zG];rw[zA (show¬x.1=7 by omega),zA (show¬x.1=0 by omega)];simp only[zD,zG,cv];rw[de (by omega) (by omega),Zi];rfl
theorem aw5 {op:Zd}{out:List xI}(C:l.length<=8192){x:bg}(y:l[i]?=O x)(v:x.1=7)(h:S[i]?=O 0)(g:m[i]?=O (j:Int))(A:j<=8192):
  gq l (em,m) (es,S) ((i:Int),op,out)=O (.inl (((j+1:Nat):Int),op,out)):=by
 obtain⟨hi,u⟩:=List.getElem?_eq_some_iff.1 y;obtain⟨d,_⟩:=List.getElem?_eq_some_iff.1 h;obtain⟨e,_⟩:=List.getElem?_eq_some_iff.1 g;simp only[gq];rw[zB (show(i:Int)<(l.length:Int)by omega),zC,dn hi,u];simp only[zG];rw[zB v];simp only[zC];rw[bm d];simp only[zG];rw[h];simp only[zG,qx];rw[decide_true,zC,bm e];simp only[zG];rw[g];simp only[zG,qx];rw[Zi];rfl
theorem aw4 {n:Int}{op:Zd}{out:List xI}(y:l.length<=8192)(A:out.length<=8192)(C:op.length<=8192){x:bg}(v:l[i]?=O x)(h:x.1=7)(e:S[i]?=O n)(u:n≠0):
  gq l (em,m) (es,S) ((i:Int),op,out)=O (.inl (((i+1:Nat):Int),op++[(out.length:Int)],out++[ci x 0])):=by
 obtain⟨hi,g⟩:=List.getElem?_eq_some_iff.1 v;obtain⟨d,_⟩:=List.getElem?_eq_some_iff.1 e;simp only[gq];rw[zB (show(i:Int)<(l.length:Int)by omega),zC,dn hi,g];simp only[zG];rw[zB h];simp only[zC];rw[bm d];simp only[zG];rw[e];simp only[zG,qx];rw[zA u,zD,de (by omega) (by omega)];simp only[zG,qx,cv];rw[de (by omega) (by omega),Zi];rfl
theorem ae3 {q:Nat}{op:Zd}{out:List xI}{o:bg}{t:Nat}(A:l.length<=8192)(C:out.length<=8192)(D:op.length<=8192){x:bg}(y:l[i]?=O x)(v:x.1=0)(h:out[q]?=O (ci o t)):
  gq l (em,m) (es,S) ((i:Int),op++[(q:Int)],out)=O (.inl (((i+1:Nat):Int),op,out.set q (ci o (out.length+1))++[ci x (q+1)])):=by
 obtain⟨hi,u⟩:=List.getElem?_eq_some_iff.1 y;obtain⟨d,_⟩:=List.getElem?_eq_some_iff.1 h;have g:(op++[(q:Int)]).length=op.length+1:=by simp
 simp only[gq];rw[zB (show(i:Int)<(l.length:Int)by omega),zC,dn hi,u];simp only[zG];rw[zA (show¬x.1=7 by omega),zB v];simp only[zD,zC,zG,cv];rw[ae (n:=((op++[(q:Int)]).length:Int)-1) (by omega),show((op++[(q:Int)]).length:Int)-1=(op.length:Int)by omega,bm (show op.length<(op++[(q:Int)]).length by omega)];simp only[zG];rw[bB (aB _),aD];simp only[List.getElem?_cons_zero,zG];rw[Zk,dh,bm d];simp only[zG];rw[h];simp only[zG];rw[de (by simp;omega) (by omega)];simp only[zG,qx,cv]
 have e:(op++[(q:Int)]).take ((op.length:Int).toNat-0)=op:=by
  rw[show(op.length:Int).toNat-0=op.length by omega,List.take_left'];rfl
 rw[e,ae (n:=(i:Int)+1) (by omega),ae (n:=(out.length:Int)+1) (by omega),ae (n:=(q:Int)+1) (by omega)];rfl
theorem Nn (g:l.length<=8192)(C:Wn l m S): ∀(f:Fo) (A B:List bg) (op:Zd) (out:List xI),l=A++f.src++B->f.Ok->op.length<=A.length->out.length<=A.length->
  ∃k,k<=f.len/\Reach (gq l (em,m) (es,S)) k ((A.length:Int),op,out) (((A.length+f.len:Nat):Int),op,out++f.bare.code out.length)
 | .nil,A,B,op,out,d,_,_,_=>by
  refine⟨0,aB _, ?_⟩;simp only[Fo.bare,Fo.code,Fo.len,List.append_nil,Nat.add_zero];exact Reach.refl
 | .op o r,A,B,op,out,d,F,hp,ho=>by
  have K:(A++[o]).length=A.length+1:=by simp
  have V:l.length=A.length+(r.len+1)+B.length:=by rw[d];simp[Fo.src,Fo.src_len];omega
  have H:l[A.length]?=O o:=by rw[d,bD,bB (aB _),aD];rfl
  obtain⟨k,I,E⟩:=Nn g C r (A++[o]) B op (out++[ci o 0]) (by rw[d];simp[Fo.src]) F.2 (by omega) (by simp;omega);refine⟨1+k,by simp only[Fo.len];omega, ?_⟩;have h:=(Reach.one (aX0 (em:=em) (es:=es) (op:=op) (out:=out) g (by omega) H F.1)).trans (show Reach _ k _ _ from by rw[K]at E;exact E);simp only[Fo.bare,Fo.code,Fo.len];rw[show A.length+(r.len+1)=A.length+1+r.len by omega];rw[bD,dB]at h;exact h
 | .rep o b e r,A,B,op,out,d,F,hp,ho=>by
  obtain⟨⟨I,E⟩,k3,k4⟩:=F;have V:l.length=A.length+(b.len+r.len+2)+B.length:=by rw[d];simp[Fo.src,Fo.src_len];omega
  have H:l[A.length]?=O o:=by rw[d,bD,bB (aB _),aD];rfl
  obtain⟨hm,N⟩:=C.2.2 A (r.src++B) o e b (by rw[d];simp[Fo.src]) k3 I E;have M:(A++o::b.src).length=A.length+1+b.len:=by simp[Fo.src_len];omega
  have Z:l[A.length+1+b.len]?=O e:=by
   rw[show l=(A++o::b.src)++(e::(r.src++B))by rw[d];simp[Fo.src],<-M,bB (aB _),aD];rfl
  have u:(A++o::(b.src++[e])).length=A.length+1+b.len+1:=by simp[Fo.src_len];omega
  simp only[Fo.bare,Fo.len];by_cases hz:b.n*tz o=0
  .rw[zE hz];rw[hz]at N;obtain⟨k,g1,y⟩:=Nn g C r (A++o::(b.src++[e])) B op out (by rw[d];simp[Fo.src]) k4 (by omega) (by omega);refine⟨1+k,by omega, ?_⟩;have h:=(Reach.one (aw5 (em:=em) (es:=es) (op:=op) (out:=out) g H I N hm (by omega))).trans (show Reach _ k _ _ from by rw[u]at y;exact y);rw[show A.length+(b.len+r.len+2)=A.length+1+b.len+1+r.len by omega];exact h
  .rw[zF hz];have K:(A++[o]).length=A.length+1:=by simp
   obtain⟨kb,b1,b2⟩:=Nn g C b (A++[o]) (e::(r.src++B)) (op++[(out.length:Int)]) (out++[ci o 0]) (by rw[d];simp[Fo.src]) k3 (by simp;omega) (by simp;omega);rw[K]at b2;have hbl:=b.bare_len;have hrl:=r.bare_len;have v:(out++[ci o 0]++b.bare.code (out++[ci o 0]).length).length=out.length+1+b.bare.len:=by simp[Fo.code_len];omega
   have hq:(out++[ci o 0]++b.bare.code (out++[ci o 0]).length)[out.length]?=O (ci o 0):=by
    rw[bD,bB (aB _),aD];rfl
   have J:=ae3 (em:=em) (es:=es) (m:=m) (S:=S) (op:=op) g (by omega) (by omega) Z E hq;rw[v]at J
   have D:(out++[ci o 0]++b.bare.code (out++[ci o 0]).length).set out.length (ci o (out.length+1+b.bare.len+1))=out++ci o (out.length+1+b.bare.len+1)::b.bare.code (out.length+1):=by
    rw[bD,List.set_append_right _ _ (aB _),aD,dB];rfl
   rw[D]at J;obtain⟨k,g1,y⟩:=Nn g C r (A++o::(b.src++[e])) B op (out++ci o (out.length+1+b.bare.len+1)::b.bare.code (out.length+1)++[ci e (out.length+1)]) (by rw[d];simp[Fo.src]) k4 (by omega) (by rw[u];simp[Fo.code_len];omega);rw[u]at y;refine⟨1+kb+1+k,by omega, ?_⟩;have h:=(((Reach.one (aw4 (em:=em) (es:=es) (m:=m) (op:=op) (out:=out) g (by omega) (by omega) H I N (by omega))).trans b2).trans (Reach.one J)).trans y;rw[show A.length+(b.len+r.len+2)=A.length+1+b.len+1+r.len by omega]
   have e1:out++ci o (out.length+1+b.bare.len+1)::b.bare.code (out.length+1)++[ci e (out.length+1)]++r.bare.code (out++ci o (out.length+1+b.bare.len+1)::b.bare.code (out.length+1)++[ci e (out.length+1)]).length=out++(Fo.rep o b.bare e r.bare).code out.length:=by
    have U:(out++ci o (out.length+1+b.bare.len+1)::b.bare.code (out.length+1)++[ci e (out.length+1)]).length=out.length+b.bare.len+2:=by simp[Fo.code_len];omega
    rw[U];simp only[Fo.code];rw[show out.length+1+b.bare.len+1=out.length+b.bare.len+2 by omega];simp
   rw[e1]at h;exact h
end
theorem Ia :AM l=(qe l).bind λr=>O (r.2.1,r.2.2.1):=rfl
theorem Pw {R:Int}(h:yx R l=0):Ls l=0/\J1 R l=0/\J2 l=0/\LX l=0:=by
 unfold yx at h;split at h
 .omega
 split at h
 .omega
 split at h
 .omega
 .omega
structure Prg (R:Int)(l:List bg)(f:Fo):Prop where
 ops:OpsOk l
 ok:f.Ok
 src:f.src=l
 z:yx R l=0
 R1:1<=R/\R<=64
 deep:f.hi<=8
 n:f.n<=65536
 w:db l=((f.n:Int),0)
 regs: ∀o∈l,0<o.1/\o.1<7->OB R.toNat o
theorem al8 {R:Int}(h:OpsOk l)(N:yx R l=0): ∃f,Prg R l f:=by
 obtain⟨J,K,A,u⟩:=Pw N
 have e:DH l=Za:=by
  unfold Ls at J;split at J
  .assumption
  .omega
 have g:CG R l=Za:=by
  unfold J1 at K;split at K
  .assumption
  .omega
 unfold DH at e;rw[cB,decide_eq_true_eq,cD]at e;obtain⟨D,hr⟩:=e;unfold CG at g;rw[cB,decide_eq_true_eq,cD]at g;obtain⟨Z,ho⟩:=g;obtain⟨f,E,y⟩:=Fo.parse _ l (aB _) D
 have C: ∃t,Q9 l=O t/\t<=65536:=by
  unfold LX db at u;rw[zE D]at u;cases C:Q9 l with
  |none=>rw[C]at u;cases u
  |some t=>
   rw[C]at u;refine⟨t,rfl, ?_⟩;by_cases c:65536<t
   .simp only[zE c]at u;cases u
   .omega
 obtain⟨t,U,hle⟩:=C;have hn:t=(f.n:Int):=Fo.Q9_n f E (λx hx=>(h.v x (y▸hx)).1) (by rw[y];exact U);refine⟨f,h,E,y,N,Z, ?_,by omega, ?_,λo M I=> ?_⟩
 .have V:=Fo.hi_le E;rw[y]at V;unfold J2 H5 at A;rw[zE D]at A;by_cases c:(8:Int)<((hmax l 0 0:Nat):Int)
  .simp only[zE c]at A;cases A
  .omega
 .unfold db;rw[zE D,U];show(if 65536<t then((0:Int),(9:Int))else(t,0))=_;rw[Zh,hn]
 .have F:=List.any_eq_false.1 hr o M;have H:=List.any_eq_false.1 ho o M;have F:yz o=Za:=by simpa using F
  have H:Rv R o=Zb:=by simpa using H
  obtain⟨k,d,a,b,v⟩:=o;have I:k=1∨k=2∨k=3∨k=4∨k=5∨k=6:=by simp only at I;omega
  unfold OB
  rcases I with rfl|rfl|rfl|rfl|rfl|rfl<;>
   .simp[yz,FM,cf]at F;simp[Rv,cf]at H;simp only;omega
theorem DG {R:Int}{f:Fo}(d:Prg R l f):qL R l=O (0,f.bare.code 0):=by
 unfold qL;rw[H1 d.ops];simp only[zG];rw[d.z,zA (by simp),zD];have M:=d.ops.len;have F:bw l 0=O 0:=by rw[<-d.src];exact Fo.scan0 d.ok
 obtain⟨m,C,A⟩:=Ao (l:=l) (by omega) F;obtain⟨r,E,U,V,g⟩:=JO (l:=l) (by omega) d.ops.v;rw[C,Ia,E];simp only[zG];have H:=d.w;rcases g with⟨g,_⟩|⟨_,_,J,Z,K⟩
 .rw[H]at g;exact(g rfl).elim
 have y:=aI2 A J (λo D=>d.ops.v o D) K;obtain⟨k,N,I⟩:=Nn (em:=0) (es:=r.2.1) (by omega) y f [] [] [] [] (by simp[d.src]) d.ok (by simp) (by simp);have h:f.len=l.length:=by rw[<-Fo.src_len,d.src]
 have u:=I (18446744073709551616-k);rw[show 18446744073709551616-k+k=gv by unfold gv;omega,show 18446744073709551616-k=(18446744073709551615-k)+1 by omega]at u
 have e:aw (gq l (0,m) (r.2.1,r.2.2.1)) gv ((0:Int),([]:Zd),([]:List xI))=O (f.bare.code 0):=by
  refine u.trans ?_;rw[da];simp only[gq];rw[zA (by rw[h];simp),zD];rfl
 rw[e];rfl
end
section
open List renaming replicate -> aB, length_replicate -> aD
theorem uD {α γ:Type}{g:α->Option (α⊕γ)}{s e:α}{c:γ}(h:Reach g k s e)(v:k<=1000000000)(u:g e=O (.inr c)):aw g gv s=O c:=by
 have d:=h (18446744073709551616-k);rw[show 18446744073709551616-k+k=gv by unfold gv;omega,show 18446744073709551616-k=(18446744073709551615-k)+1 by omega]at d;refine d.trans ?_;rw[da,u];rfl
section
variable {R:Int} {l:List bg} {f:Fo}
theorem Prg.len (h:Prg R l f):f.len<=4096:=by
 have:=h.ops.len;rw[<-Fo.src_len,h.src];exact this
theorem Prg.clen (h:Prg R l f):(f.bare.code 0).length<=8192:=by
 have d:=h.len;have e:=f.bare_len;rw[Fo.code_len];omega
theorem Prg.steps (h:Prg R l f):f.bare.steps<=1000000000:=by
 have d:=Fo.steps_le f.bare f.bare_pos;rw[Fo.bare_n]at d;have g:=h.len;have u:=f.bare_len;have e:=h.n;have v:(2*f.bare.len+1)*f.n<=8193*65536:=Nat.mul_le_mul (by omega) e;omega
theorem Prg.good (h:Prg R l f): ∀o∈f.bare.src,(0<o.1/\o.1<7->OB R.toNat o)/\NR o:=λo d=>by
 have:=Fo.bare_mem f d;rw[h.src]at this;exact⟨h.regs o this,h.ops.v o this⟩
theorem Prg.hi (h:Prg R l f):0+f.bare.hi<=8:=by
 have d:=h.deep;have e:=f.bare_hi;omega
theorem Prg.writes (h:Prg R l f):ip l=O ((f.n:Int),0):=by
 rw[zR (by have:=h.ops.len;omega) h.ops.v,h.w]
def aH8 (R:Nat)(o:bg):Prop:=0<o.1/\o.1<7->OB R o
theorem Qa {Z γ S:Type}{g:Z->Option (Z⊕γ)}{code:List xI}{st:Nat->Nat->(Nat->Int)->S->Z}{d:bg->S->S}{Vd:Nat->S->Prop}{R:Nat}(h:Runs g code st d Vd (OB R)):Runs g code st d Vd (aH8 R):=
 ⟨λu v e y A=>h.op u (v e) e y A,h.rep,h.nxt,h.out⟩
theorem M0 {Z γ S:Type}{g:Z->Option (Z⊕γ)}{code:List xI}{st:Nat->Nat->(Nat->Int)->S->Z}{d:bg->S->S}{Vd:Nat->S->Prop}{R:Nat}(h:Backs g code st d Vd (OB R)):Backs g code st d Vd (aH8 R):=
 ⟨λu v e y A=>h.op u (v e) e y A,h.rep,h.nxt,h.out⟩
def wl (f:Fo)(r t:Zd):TS:=FJ vh f.unroll (r,t,0)
theorem YW (h:Prg R l f)(C:r.length=R.toNat)(D:f.n<=t.length)(v:t.length<=1000000):
  Co (f.bare.code 0) r t=O (((wl f r t).2.2:Int),(wl f r t).1,(wl f r t).2.1)/\(wl f r t).1.length=R.toNat/\(wl f r t).2.1.length=t.length:=by
 obtain⟨g,_,y,u⟩:=KQ (m:=0) (l:=λ_=>0) (s:=((r,t,0):TS)) (d:=0) (p:=0) (A:=[]) (B:=[]) (Qa (YN (R:=R.toNat) (N:=t.length) h.clen v)) f.bare (by simp) rfl (Fo.bare_ok f h.ok) f.bare_pos h.hi h.good ⟨C,rfl,by rw[Fo.bare_n];show 0+(f.n+0)<=_;omega⟩;rw[Fo.bare_unroll]at y u;refine⟨?_,u.1,u.2.1⟩;unfold Co
 have:=uD y h.steps (c:=(((wl f r t).2.2:Int),(wl f r t).1,(wl f r t).2.1,g 0,g 1,g 2,g 3,g 4,g 5,g 6,g 7)) (by
  unfold stT;simp only[qg];rw[zB (by rw[Fo.code_len];omega),zC]
  rfl)
 have e:stT 0 0 (λ_=>0) ((r,t,0):TS)=(0,0,0,r,t,0,0,0,0,0,0,0,0):=rfl;rw[e]at this;rw[this];rfl
theorem wj (h:Prg R l f)(v:r.length=R.toNat)(y:f.n<=t.length)(d:t.length<=1000000):
  rh R l r t=O (((wl f r t).2.2:Int),0,(wl f r t).1,(wl f r t).2.1)/\(wl f r t).1.length=R.toNat/\(wl f r t).2.1.length=t.length:=by
 obtain⟨e,g,u⟩:=YW h v y d;refine⟨?_,g,u⟩;unfold rh D9;rw[DG h,h.writes];have A:=h.R1;simp only[zG];rw[zA (show¬((0:Int)≠0)by simp),zD,zA (show¬((r.length:Int)≠R)by omega),zD,zA (show¬((t.length:Int)<(f.n:Int))by omega),zD];simp only[zG];rw[zA (show¬((0:Int)≠0)by simp),zD,e];rfl
def GN (f:Fo)(r:Zd):Zd:=(FJ L7 f.unroll (r,0)).1
theorem Rg (h:Prg R l f)(y:r.length=R.toNat):wC (-1) (f.bare.code 0) r=O (GN f r)/\(GN f r).length=R.toNat:=by
 obtain⟨g,_,u,v⟩:=KQ (m:=0) (l:=λ_=>0) (s:=((r,0):FS)) (d:=0) (p:=0) (A:=[]) (B:=[]) (Qa (an9 (R:=R.toNat) (M:=65536) h.clen (by omega))) f.bare (by simp) rfl (Fo.bare_ok f h.ok) f.bare_pos h.hi h.good ⟨y,by rw[Fo.bare_n];show 0+(f.n+0)<=_;have:=h.n;omega⟩;rw[Fo.bare_unroll]at u v;refine⟨?_,v.1⟩;unfold wC
 have:=uD u h.steps (c:=(GN f r,g 0,g 1,g 2,g 3,g 4,g 5,g 6,g 7)) (by
  unfold stF;simp only[kw];rw[zB (by rw[Fo.code_len];omega),zC]
  rfl)
 have e:stF 0 0 (λ_=>0) ((r,0):FS)=(0,0,0,r,0,0,0,0,0,0,0,0):=rfl;rw[e]at this;rw[this];rfl
def fill (R:Int)(r:Zd):Zd:=r++aB (R.toNat-r.length) 0
theorem ja {R:Int}(h:r.length<=R.toNat):(fill R r).length=R.toNat:=by
 unfold fill;rw[List.length_append,aD];omega
theorem XQ {R:Int}(h:r.length<=R.toNat):Jc (aB R.toNat (0:Int)) 0 (aB R.toNat (0:Int)).length r=fill R r:=by
 unfold Jc fill;rw[aD,List.take_zero,List.nil_append,Nat.zero_add,Nat.min_eq_right h,List.take_of_length_le h,List.drop_replicate]
theorem SX (h:Prg R l f)(d:r.length<=R.toNat):tb R l r=O (0,GN f (fill R r))/\(GN f (fill R r)).length=R.toNat:=by
 obtain⟨e,g⟩:=Rg h (ja d);refine⟨?_,g⟩;have u:=h.R1;unfold tb zZ;rw[DG h];simp only[zG];rw[zA (show¬((0:Int)≠0)by simp),zD,zA (show¬(R<(r.length:Int))by omega),zD,zB (show 0<=R by omega),zB (show R<=R by omega),zB (show 8*R<=140737488355328 by omega),XQ d];show((gd Za _).bind _)=_;rw[dh];simp only[zG];rw[zA (show¬((0:Int)≠0)by simp),zD,e];rfl
def ny (f:Fo)(r a t:Zd):BS:=EH (tx t) f.unroll (r,a,f.n)
theorem Wa (h:Prg R l f)(E:r.length=R.toNat)(C:a.length=R.toNat)(F:f.n<=t.length)(v:t.length<=1000000):
  sE (f.n:Int) r a t (f.bare.code 0)=O ((ny f r a t).1,(ny f r a t).2.1)/\(ny f r a t).1.length=R.toNat/\(ny f r a t).2.1.length=R.toNat:=by
 obtain⟨g,_,y,u⟩:=Jb (m:=0) (l:=λ_=>0) (s:=((r,a,f.n):BS)) (d:=0) (p:=0) (A:=[]) (B:=[]) (M0 (aV6 (R:=R.toNat) (t:=t) h.clen v)) f.bare (by simp) rfl (Fo.bare_ok f h.ok) f.bare_pos h.hi h.good ⟨E,C,by rw[Fo.bare_n];exact Nat.le_refl _,F⟩;rw[Fo.bare_unroll]at y u;refine⟨?_,u.1,u.2.1⟩;unfold sE;have D:=h.clen;rw[Fo.code_len]at D
 have:=uD y h.steps (c:=((ny f r a t).1,(ny f r a t).2.1,g 0,g 1,g 2,g 3,g 4,g 5,g 6,g 7)) (by
  unfold stB;simp only[gx];rw[Zf,zC]
  rfl)
 have e:stB (0+f.bare.len) 0 (λ_=>0) ((r,a,f.n):BS)=(IntKind.i64.wrap (((f.bare.code 0).length:Int)-1),0,(f.n:Int),r,a,0,0,0,0,0,0,0,0):=by
  unfold stB;rw[Fo.code_len,Zi,Nat.zero_add];rfl
 rw[e]at this;rw[this];rfl
theorem uk (h:Prg R l f)(y:r.length=R.toNat)(v:a.length=R.toNat)(A:f.n<=t.length)(d:t.length<=1000000):
  sD R l r a t=O (0,(ny f r a t).1,(ny f r a t).2.1)/\(ny f r a t).1.length=R.toNat/\(ny f r a t).2.1.length=R.toNat:=by
 obtain⟨e,g,u⟩:=Wa h y v A d;refine⟨?_,g,u⟩;have C:=h.R1;unfold sD;rw[DG h,h.writes];simp only[zG];rw[zA (show¬((0:Int)≠0)by simp),zD,zA (show¬((r.length:Int)≠R)by omega),zD,zA (show¬((a.length:Int)≠R)by omega),zD,zA (show¬((t.length:Int)<(f.n:Int))by omega),zD,e];rfl
end
end
section
open List renaming length_take -> aB, take_length -> aD, getElem?_take -> bB, length_append -> bD, ext_getElem? -> cB, getElem?_drop -> cD, getElem?_append_left -> dB, getElem?_append_right -> dD, getElem_mem -> eD, length_drop -> fB
def seg (W:Zd)(o n:Nat):Zd:=(W.drop o).take n
def put (W:Zd)(o:Nat)(w:Zd):Zd:=W.take o++(w++W.drop (o+w.length))
theorem CI (W:Zd)(o n i:Nat):(seg W o n)[i]?=if i<n then W[o+i]? else Y:=by
 unfold seg;rw[bB];split
 .rw[cD]
 .rfl
theorem JH (h:o+w.length<=W.length)(i:Nat):(put W o w)[i]?=if o<=i/\i<o+w.length then w[i-o]? else W[i]?:=by
 unfold put;have g:(W.take o).length=o:=by rw[aB];omega
 by_cases d:i<o
 .rw[dB (by omega),bB,zE d,Zh]
 .rw[dD (by omega),g];by_cases e:i<o+w.length
  .rw[dB (by omega),zE ⟨by omega,e⟩]
  .rw[dD (by omega),cD,Zh]
   congr 1
   omega
theorem dw {n:Nat}(h:o+n<=W.length):(seg W o n).length=n:=by
 unfold seg;rw[aB,fB];omega
theorem aD3 (h:o+w.length<=W.length):(put W o w).length=W.length:=by
 unfold put;rw[bD,bD,aB,fB];omega
theorem II {n:Nat}(h:o+w.length<=W.length)(d:n<=w.length):seg (put W o w) o n=w.take n:=by
 apply cB;intro i;rw[CI,bB,JH h];split
 .rw[Zg]
  congr 1
  omega
 .rfl
theorem xF (h:o+w.length<=W.length):seg (put W o w) o w.length=w:=by
 rw[II h (Nat.le_refl _),aD]
theorem sR {d n:Nat}(h:o+w.length<=W.length)(e:d+n<=o∨o+w.length<=d):seg (put W o w) d n=seg W d n:=by
 apply cB;intro i;rw[CI,CI];split
 .rw[JH h,Zh]
 .rfl
theorem am1 (h:o+w.length<=W.length)(d:i<o∨o+w.length<=i):(put W o w)[i]?=W[i]?:=by
 rw[JH h,Zh]
theorem ac3 (h:o+w.length<=W.length):Jc W o w.length w=put W o w:=by
 unfold Jc put;rw[aD,Nat.min_self]
theorem EE {n tk:Nat}(h:o+n<=tk)(d:tk<=W.length)(e:W.length<=1048576):gc (o:Int) (n:Int) (tk:Int) W=O (0,seg W o n):=by
 unfold gc;rw[Ze,zD,Ze,zD,Ze,zD,ae (n:=(tk:Int)-o) (by omega),Ze,zD,ae (n:=(o:Int)+n) (by omega),Zk,dh];unfold bk;rw[show((o:Int)+n).toNat-(o:Int).toNat=n by omega,show(o:Int).toNat=o by omega,de (by rw[aB];omega) (by omega)];rfl
theorem XI {tk:Nat}(h:o<tk)(e:tk<=W.length)(g:W.length<=1048576):jf (o:Int) (tk:Int) W=O (rg W (o:Int),0):=by
 unfold jf;rw[Ze,zD,Ze,zD,ae (n:=(tk:Int)-o) (by omega),Ze,zD,ae (n:=(o:Int)+1) (by omega),Zk,dh];unfold bk;rw[show((o:Int)+1).toNat-(o:Int).toNat=1 by omega,show(o:Int).toNat=o by omega,de (by rw[aB];omega) (by omega)]
 have d:(W.drop o).take 1=[rg W (o:Int)]:=by
  apply cB;intro i;rw[bB,cD];rcases Nat.eq_zero_or_pos i with rfl|hi
  .rw[Zg,Nat.add_zero,lm (by omega)];rfl
  .rw[Zh,List.getElem?_eq_none (by simp;omega)]
 rw[d];rfl
theorem vT {tk:Nat}(h:o+w.length<=tk)(d:tk<=W.length)(e:W.length<=1048576):du (o:Int) w (tk:Int) W=O (0,put W o w):=by
 unfold du;rw[Ze,zD,Ze,zD,Ze,zD,ae (n:=(tk:Int)-o) (by omega),Ze,zD,ae (n:=(o:Int)+w.length) (by omega),Zk,dh,show((o:Int)+w.length).toNat-(o:Int).toNat=w.length by omega,show(o:Int).toNat=o by omega,ac3 (by omega)]
theorem ug {n:Int}(h:0<=n)(g:0<=lv)(e:lv+n<=bd)(d:bd<=1048576):co n lv pk bd=O (0,lv+n,max pk (lv+n),bd):=by
 unfold co sq pf;rw[Ze,zD];simp only[zG];rw[ae (n:=bd-lv) (by omega),Zf,ae (n:=lv+n) (by omega)];rfl
theorem yu {n:Int}(h:0<=n)(e:n<=lv)(g:lv<=pk)(d:lv<=1048576):be n lv pk bd=O (0,lv-n,pk,bd):=by
 unfold be pf;rw[Ze,zD,Ze,zD];simp only[zG];rw[ae (n:=0-n) (by omega),Zi,show lv+(0-n)=lv-n by omega,Int.max_eq_left (by omega)]
theorem X7 (ls:List (Zd))(h: ∀l∈ls,l.length<=100000):ls.flatten.length<=100000*ls.length:=by
 induction ls with
 |nil=>simp
 |cons a r e=>
  have g:=h a (by simp);have u:=e λl d=>h l (by simp[d])
  rw[List.flatten_cons,bD,List.length_cons];omega
theorem Qg {ls:List (Zd)}(h:i<ls.length):(ls.take (i+1)).flatten=(ls.take i).flatten++ls[i]:=by
 rw[List.take_succ_eq_append_getElem h,List.flatten_append];simp
theorem YV (ls:List (Zd))(h: ∀l∈ls,l.length<=100000)(d:ls.length<=1000)(i:Nat):(ls.take i).flatten.length<=100000000:=by
 have e:=X7 (ls.take i) λl d=>h l (List.mem_of_mem_take d)
 rw[aB]at e;omega
theorem Po {ls:List (Zd)}(h: ∀l∈ls,l.length<=100000)(y:ls.length<=1000):fy ls=O ls.flatten:=by
 have d:=YV ls h y
 have C:aw (ia ls) gv (0,0)=O (((ls.take ls.length).flatten.length:Nat):Int):=by
  refine pi (n:=ls.length) (λi=>(((ls.take i).flatten.length:Nat):Int)) (by omega) (λi hi=> ?_) ?_
  .unfold ia;have e:=d i;have v:=h ls[i] (eD hi);simp only;rw[zB (show(i:Int)<(ls.length:Int)by omega),zC,dn hi];simp only[zG];rw[ae (n:=(((ls.take i).flatten.length:Nat):Int)+((ls[i].length:Nat):Int)) (by omega),Ze,zD,ae (n:=(i:Int)+1) (by omega),Qg hi,bD];rfl
  .unfold ia;simp only;rw[Ze,zD]
 have u: ∀(f:Int×Zd->Option ((Int×Zd)⊕Zd)),(∀s,f s=cond (Zc (s.1<((ls.length:Nat):Int))) ((rd ls s.1).bind λx=>gd (lz (s.2.length+x.length) 8) (O (.inl (IntKind.i64.wrap (s.1+1),s.2++x)))) (O (.inr s.2)))->
   aw f gv (0,[])=O (ls.take ls.length).flatten:=by
  intro f g;refine pi (n:=ls.length) (λi=>(ls.take i).flatten) (by omega) (λi hi=> ?_) ?_
  .rw[g];have e:=d i;have v:=h ls[i] (eD hi);rw[zB (show(i:Int)<(ls.length:Int)by omega),zC,dn hi];simp only[zG];rw[de (by omega) (by omega),ae (n:=(i:Int)+1) (by omega),Qg hi];rfl
  .rw[g];rw[Ze,zD]
 unfold fy;rw[C];rw[aD];simp only[zG];have e:=d ls.length;rw[aD]at e;rw[Ze,zD,ae (n:=((ls.flatten.length:Nat):Int)-0) (by omega),ak];split
 .rw[Int.sub_zero]
  have A:qZ 8 ((ls.flatten.length:Nat):Int)=Za:=by
   generalize ls.flatten.length=N at e⊢;unfold qZ;rw[Zf,Zf,Zf];rfl
  rw[A,dh,de (by rw[List.length_replicate];omega) (by omega),Zk,dh,List.take_zero,u (qQ ls) λs=>rfl,aD];rfl
 .rw[u (qR ls) λs=>rfl,aD];rfl
end
section
open List renaming length_append -> aB, length_replicate -> aD, not_mem_nil -> bB
structure Cx where
 mode:Int
 R:Int
 Q:Int
 len:Int
 words:Int
 X:Zd
 T:Zd
 l:List bg
 k:List bg
 fl:Fo
 fk:Fo
 fixed:Int
 tp:Int
 sl:Int
 ns:Int
namespace Cx
def sz (c:Cx):Nat->Nat
 |0=>c.T.length
 |1=>c.X.length
 |2=>c.R.toNat
 |3=>c.Q.toNat
 |4=>max c.R.toNat c.Q.toNat
 |5=>c.X.length
 |6=>c.T.length
 |7=>c.tp.toNat
 |8=>(c.sl*c.ns).toNat
 |_=>0
def off (c:Cx):Nat->Nat
 |0=>0
 |i+1=>c.off i+c.sz i
def P (c:Cx):Zd:=(List.range 10).map λi=>(c.off i:Int)
def tk (c:Cx):Int:=(c.off 9:Int)
structure Ok (c:Cx):Prop where
 hl:OpsOk c.l
 hk:OpsOk c.k
 hc:Cf c.mode c.X.length c.T.length c.R c.l c.Q c.k c.len c.words=0
 pl:Prg c.R c.l c.fl
 pk:Prg c.Q c.k c.fk
 fixed:c.fixed=xM c.X.length c.T.length c.R c.Q
 tp:c.tp=tK c.mode c.l c.k
 sl:c.sl=rY c.mode c.X.length c.R c.l
 ns:0<=c.ns/\c.ns<=1048576
 fit:c.fixed+c.tp+c.sl*c.ns<=c.words
 base:c.mode=3->c.ns=c.len
end Cx
structure Num (c:Cx):Prop where
 mode:1<=c.mode/\c.mode<=3
 R:1<=c.R/\c.R<=64
 Q:1<=c.Q/\c.Q<=64
 x:1<=c.X.length/\c.X.length<=64
 t:c.T.length<=64
 xtR:(c.X.length:Int)+c.T.length+1<=c.R
 xtQ:(c.X.length:Int)+c.T.length<=c.Q
 len:0<=c.len/\c.len<=65535
 words:0<=c.words/\c.words<=1048576
 n:c.fl.n<=65536
 m:c.fk.n<=65536
 tp:c.tp=(if c.mode=3 then(c.fk.n:Int)else c.fl.n+c.fk.n)
 sl:c.sl=(if c.mode=3 then(c.fl.n:Int)+c.R else c.X.length+1)
 fixed:c.fixed=2*c.T.length+2*c.X.length+c.R+c.Q+max c.R c.Q
 mul:0<=c.sl*c.ns
theorem Ho {x t:Nat}{R:Int}{k:List bg}{n:Int}(h:Cf m x t R l Q k n b=0):sP R l Q k=0/\Cz R Q x t=0:=by
 unfold Cf at h;split at h
 .rename_i c;exact(c h).elim
 split at h
 .rename_i c;exact(c h).elim
 split at h
 .rename_i c;exact(c h).elim
 rename_i c1 c2 c3;exact⟨by omega,by omega⟩
theorem YC {R:Int}{k:List bg}(h:sP R l Q k=0):yx R l=0/\yx Q k=0:=by
 unfold sP at h
 repeat' split at h
 all_goals first|(exact absurd h (by assumption))|skip
 unfold yx;constructor
 .repeat' split
  all_goals first|(rename_i c;exact(by omega))|omega
 .repeat' split
  all_goals first|(rename_i c;exact(by omega))|omega
theorem Ps {R:Int}{x t:Nat}(e:x<=64)(d:t<=64)(h:Cz R Q x t=0):(x:Int)+t+1<=R/\(x:Int)+t<=Q:=by
 unfold Cz at h;rw[ae (n:=(x:Int)+t) (by omega),ae (n:=(x:Int)+t+1) (by omega)]at h
 repeat' split at h
 all_goals omega
theorem Cx.Ok.num {c:Cx}(h:c.Ok):Num c:=by
 have f:=KA h.hl h.hk h.hc;obtain⟨y,e⟩:=Ho h.hc;obtain⟨g,u⟩:=Ps f.xs.2 f.ts e;have d:=h.pl.w;have v:=h.pk.w;have s:=RL h.hl h.hk h.hc;refine⟨f.mode,f.regs,f.regs',f.xs,f.ts,g,u,f.len,f.bud,h.pl.n,h.pk.n, ?_, ?_, ?_, ?_⟩
 .rw[h.tp];unfold tK;rw[d,v]
 .rw[h.sl];unfold rY;rw[d]
 .rw[h.fixed];unfold xM;rfl
 .rw[h.sl];exact(ah9 (by have:=s.sl;omega) h.ns).1
section
variable {c:Cx}
theorem bj3 :c.off 1=c.T.length:=Nat.zero_add _
theorem bj4 :c.off 2=c.T.length+c.X.length:=by show c.off 1+_=_;rw[bj3];rfl
theorem bj5 :c.off 3=c.T.length+c.X.length+c.R.toNat:=by show c.off 2+_=_;rw[bj4];rfl
theorem bj6 :c.off 4=c.T.length+c.X.length+c.R.toNat+c.Q.toNat:=by show c.off 3+_=_;rw[bj5];rfl
theorem bj7 :c.off 5=c.T.length+c.X.length+c.R.toNat+c.Q.toNat+max c.R.toNat c.Q.toNat:=by show c.off 4+_=_;rw[bj6];rfl
theorem bj8 :c.off 6=c.T.length+c.X.length+c.R.toNat+c.Q.toNat+max c.R.toNat c.Q.toNat+c.X.length:=by show c.off 5+_=_;rw[bj7];rfl
theorem aY5 :c.off 7=c.T.length+c.X.length+c.R.toNat+c.Q.toNat+max c.R.toNat c.Q.toNat+c.X.length+c.T.length:=by show c.off 6+_=_;rw[bj8];rfl
theorem bj9 :c.off 8=c.off 7+c.tp.toNat:=rfl
theorem Tt :c.off 9=c.off 8+(c.sl*c.ns).toNat:=rfl
theorem ai9 (h:i<=j):c.off i<=c.off j:=by
 induction j with
 |zero=>rw[Nat.le_zero.1 h];exact Nat.le_refl _
 |succ j d=>
  rcases Nat.lt_or_ge i (j+1)with h1|h1
  .exact Nat.le_trans (d (by omega)) (Nat.le_add_right _ _)
  .rw[Nat.le_antisymm h h1];exact Nat.le_refl _
theorem i7 (h:i<j):c.off i+c.sz i<=c.off j:=ai9 (c:=c) (i:=i+1) h
theorem Cx.Ok.off9_le (h:c.Ok):(c.off 9:Int)<=c.words:=by
 have n:=h.num;have g:=n.R;have u:=n.Q;have v:=n.fixed;have d:=n.tp;have y:=n.mul;have A:=h.fit;have e:0<=c.tp:=by rw[d];split<;>omega
 rw[Tt,bj9,aY5];omega
theorem Cx.P_get (h:i<10):c.P[i]?=O (c.off i:Int):=by
 unfold Cx.P;rw[List.getElem?_map,List.getElem?_range h];rfl
theorem Cx.P_len :c.P.length=10:=by unfold Cx.P;simp
def Wd (c:Cx)(W:Zd):Prop:=W.length=c.words.toNat
theorem Wd.tk (h:c.Ok)(d:Wd c W):c.off 9<=W.length/\W.length<=1048576:=by
 have:=h.off9_le;have:=h.num.words;unfold Wd at d;omega
theorem Wd.put (h:c.Ok)(d:Wd c W)(e:o+w.length<=c.off 9):Wd c (put W o w):=by
 have:=d.tk h;unfold Wd at d⊢;rw[aD3 (by omega),d]
theorem S9 {k:List bg}(h:c.Ok)(v:Wd c W)(hi:ii=(i:Int))(d:i<9):
  bj ii a0 a1 a2 a3 a4 a5 a6 a7 a8 a9 a10 a11 a12 a13 a14 a15 a16 X T l k c.P c.tk lv pk bd W=O (seg W (c.off i) (c.sz i)):=by
 subst hi;have g:=v.tk h;have u:=i7 (c:=c) (i:=i) (j:=9) d;unfold bj;rw[bm (show i<c.P.length by rw[Cx.P_len];omega)];simp only[zG];rw[Cx.P_get (show i<10 by omega)];simp only[zG];rw[ae (n:=(i:Int)+1) (by omega),show(i:Int)+1=((i+1:Nat):Int)by omega,bm (show i+1<c.P.length by rw[Cx.P_len];omega)];simp only[zG];rw[Cx.P_get (show i+1<10 by omega)];simp only[zG]
 have e:IntKind.i64.wrap ((c.off (i+1):Int)-(c.off i:Int))=(c.sz i:Int):=by
  have:c.off (i+1)=c.off i+c.sz i:=rfl;rw[Zi];omega
 rw[e];unfold Cx.tk;rw[EE u g.1 g.2];rfl
theorem put1 {k:List bg}(h:c.Ok)(g:Wd c W)(hi:ii=(i:Int))(d:i<9)(v:w.length<=c.sz i):
  aj ii w a0 a1 a2 a3 a4 a5 a6 a7 a8 a9 a10 a11 a12 a13 a14 a15 a16 X T l k c.P c.tk lv pk bd W=O (put W (c.off i) w):=by
 subst hi;have e:=g.tk h;have u:=i7 (c:=c) (i:=i) (j:=9) d;unfold aj;rw[bm (show i<c.P.length by rw[Cx.P_len];omega)];simp only[zG];rw[Cx.P_get (show i<10 by omega)];simp only[zG];unfold Cx.tk;rw[vT (by omega) e.1 e.2];rfl
theorem O8 {k:List bg}(h:c.Ok)(v:Wd c W)(hi:ii=(i:Int))(d:i<9):
  bc ii a0 a1 a2 a3 a4 a5 a6 a7 a8 a9 a10 a11 a12 a13 a14 a15 a16 X T l k c.P c.tk sb sn sx lv pk bd W=O (seg W (c.off i) (c.sz i)):=by
 subst hi;have g:=v.tk h;have u:=i7 (c:=c) (i:=i) (j:=9) d;unfold bc;rw[bm (show i<c.P.length by rw[Cx.P_len];omega)];simp only[zG];rw[Cx.P_get (show i<10 by omega)];simp only[zG];rw[ae (n:=(i:Int)+1) (by omega),show(i:Int)+1=((i+1:Nat):Int)by omega,bm (show i+1<c.P.length by rw[Cx.P_len];omega)];simp only[zG];rw[Cx.P_get (show i+1<10 by omega)];simp only[zG]
 have e:IntKind.i64.wrap ((c.off (i+1):Int)-(c.off i:Int))=(c.sz i:Int):=by
  have:c.off (i+1)=c.off i+c.sz i:=rfl;rw[Zi];omega
 rw[e];unfold Cx.tk;rw[EE u g.1 g.2];rfl
theorem KK {k:List bg}(h:c.Ok)(g:Wd c W)(hi:ii=(i:Int))(d:i<9)(v:w.length<=c.sz i):
  ai ii w a0 a1 a2 a3 a4 a5 a6 a7 a8 a9 a10 a11 a12 a13 a14 a15 a16 X T l k c.P c.tk sb sn sx lv pk bd W=O (put W (c.off i) w):=by
 subst hi;have e:=g.tk h;have u:=i7 (c:=c) (i:=i) (j:=9) d;unfold ai;rw[bm (show i<c.P.length by rw[Cx.P_len];omega)];simp only[zG];rw[Cx.P_get (show i<10 by omega)];simp only[zG];unfold Cx.tk;rw[vT (by omega) e.1 e.2];rfl
theorem My {R:Int}(e:1<=R/\R<=64)(g:(a.length:Int)<=R):pq R l a=O (fill R a):=by
 unfold pq bk;rw[de (by omega) (by omega)];simp only[zG];rw[ae (n:=R-(a.length:Int)) (by omega)]
 have d:qZ 8 (R-(a.length:Int))=Za:=by
  unfold qZ;rw[Zf,Zf,Zf];rfl
 rw[d,dh,de (by rw[aD];omega) (by omega),show(R-(a.length:Int)).toNat=R.toNat-a.length by omega];rfl
theorem ab7 {R:Int}{g:List bg}{more:Zd}{k:List bg}(h:c.Ok)(u:Wd c W)(D:1<=R/\R<=64)(H:(x.length:Int)+c.T.length+more.length<=R):
  ju R g x more a0 a1 a2 a3 a4 a5 a6 a7 a8 a9 a10 a11 a12 a13 a14 a15 a16 X T l k c.P c.tk lv pk bd W=O (fill R (x++(seg W 0 c.T.length++more))):=by
 have E:=u.tk h;have C:=i7 (c:=c) (i:=0) (j:=9) (by omega);have y:(seg W 0 c.T.length).length=c.T.length:=dw (by have:c.off 0+c.sz 0=0+c.T.length:=rfl;omega);unfold ju;rw[S9 (ii:=0) (i:=0) h u rfl (by omega)];simp only[zG];have d:seg W (c.off 0) (c.sz 0)=seg W 0 c.T.length:=rfl
 rw[d,Po (λa v=>by
  simp only[List.mem_cons,bB,or_false]at v
  rcases v with rfl|rfl|rfl<;>omega) (by simp)]
 simp only[zG];have e:[x,seg W 0 c.T.length,more].flatten=x++(seg W 0 c.T.length++more):=by simp
 have F:(x++(seg W 0 c.T.length++more)).length=x.length+c.T.length+more.length:=by rw[aB,aB,y];omega
 rw[e];generalize x++(seg W 0 c.T.length++more)=a at*;rw[ae (n:=R-(a.length:Int)) (by omega)]
 have A:qZ 8 (R-(a.length:Int))=Za:=by
  unfold qZ;rw[Zf,Zf,Zf];rfl
 rw[A,dh,de (by rw[aD];omega) (by omega),show(R-(a.length:Int)).toNat=R.toNat-a.length by omega];rfl
theorem UY {R:Int}{g:List bg}{more:Zd}{k:List bg}(h:c.Ok)(u:Wd c W)(D:1<=R/\R<=64)(H:(x.length:Int)+c.T.length+more.length<=R):
  iu R g x more a0 a1 a2 a3 a4 a5 a6 a7 a8 a9 a10 a11 a12 a13 a14 a15 a16 X T l k c.P c.tk sb sn sx lv pk bd W=O (fill R (x++(seg W 0 c.T.length++more))):=by
 have E:=u.tk h;have C:=i7 (c:=c) (i:=0) (j:=9) (by omega);have y:(seg W 0 c.T.length).length=c.T.length:=dw (by have:c.off 0+c.sz 0=0+c.T.length:=rfl;omega);unfold iu;rw[O8 (ii:=0) (i:=0) h u rfl (by omega)];simp only[zG];have d:seg W (c.off 0) (c.sz 0)=seg W 0 c.T.length:=rfl
 rw[d,Po (λa v=>by
  simp only[List.mem_cons,bB,or_false]at v
  rcases v with rfl|rfl|rfl<;>omega) (by simp)]
 simp only[zG];have e:[x,seg W 0 c.T.length,more].flatten=x++(seg W 0 c.T.length++more):=by simp
 have F:(x++(seg W 0 c.T.length++more)).length=x.length+c.T.length+more.length:=by rw[aB,aB,y];omega
 rw[e];generalize x++(seg W 0 c.T.length++more)=a at*;rw[ae (n:=R-(a.length:Int)) (by omega)]
 have A:qZ 8 (R-(a.length:Int))=Za:=by
  unfold qZ;rw[Zf,Zf,Zf];rfl
 rw[A,dh,de (by rw[aD];omega) (by omega),show(R-(a.length:Int)).toNat=R.toNat-a.length by omega];rfl
end
end
section
open Go.IntKind renaming wrap -> zH, i64 -> zI, u64 -> zJ
open List renaming range -> bB, replicate -> bD, getElem?_eq_none -> cB, length_append -> cD, length_take -> dB, drop_zero -> dD, ext_getElem? -> eD
open Nat renaming le_refl -> aB, le_of_eq -> aD
theorem Yb {β:Type}{n:Int}{y:Option β}(h:0<=n/\n<=1048576):gd (Nat.beq 1 (Sh.w (.int .u64))&&Zc (0<=n)&&Zc (n<=n)&&Zc ((8:Int)*n<=140737488355328)&&Nat.ble 1 8) y=y:=by
 rw[zB h.1,zB (Int.le_refl n),Zf];rfl
section
variable {c:Cx}
theorem Cx.Ok.of (h:c.Ok):mt c.mode c.X c.T c.R c.l c.Q c.k c.len c.words=O ((c.fl.n:Int),(c.fk.n:Int)):=by
 rw[Xa h.hl h.hk,zF (λk=>k h.hc),h.pl.w,h.pk.w]
def cq (n:Nat):Zd:=bD n 0
def stepR (c:Cx)(W:Zd)(p:Int):TS:=wl c.fl (fill c.R (seg W (c.off 1) c.X.length++(seg W 0 c.T.length++[zH zJ p]))) (cq c.fl.n)
def lossR (c:Cx)(W x:Zd):TS:=wl c.fk (fill c.Q (x++(seg W 0 c.T.length++[]))) (cq c.fk.n)
def BJ (x:Nat)(g a:Zd):Zd:=(bB g.length).map λ(i:Nat)=>IntKind.u64.wrap (rg g (i:Int)+rg a ((x+i:Nat):Int))
def BK (c:Cx)(W a:Zd):Zd:=
 put (put (put W (c.off 4) a) (c.off 5) (a.take c.X.length)) (c.off 6) (BJ c.X.length (seg (put (put W (c.off 4) a) (c.off 5) (a.take c.X.length)) (c.off 6) c.T.length) a)
theorem xp (x:Nat)(g a:Zd):(BJ x g a).length=g.length:=by unfold BJ;simp
theorem Wd.in' (h:c.Ok)(d:Wd c W)(hi:i<9):c.off i+c.sz i<=W.length:=by
 have:=d.tk h;have:=i7 (c:=c) (i:=i) (j:=9) hi;omega
theorem I7 {g:Zd}{f:Int×Zd->Option ((Int×Zd)⊕Zd)}(M:g.length<=64)(J:X.length<=64)(K:X.length+g.length<=a.length)(C: ∀s,f s=cond (Zc (s.1<(((g.length:Nat):Int))))
   ((ix s.1 (s.2.length)).bind λj=>(s.2[j]?).bind λy=>(ix (zH zI (((X.length:Nat):Int)+s.1)) a.length).bind λF=>(a[F]?).bind λH=>(ix s.1 (s.2.length)).bind λu=>(s.2[u]?).bind λI=>O (.inl (zH zI (s.1+1),s.2.set u (zH zJ (y+H)))))
   (O (.inr s.2))):aw f gv (0,g)=O (BJ X.length g a):=by
 have A: ∀i,((bB g.length).map λ(j:Nat)=>if j<i then zH zJ (rg g (j:Int)+rg a ((X.length+j:Nat):Int))else rg g (j:Int)).length=g.length:=λi=>by simp
 have d: ∀i j,j<g.length->((bB g.length).map λ(j:Nat)=>if j<i then zH zJ (rg g (j:Int)+rg a ((X.length+j:Nat):Int))else rg g (j:Int))[j]?=O (if j<i then zH zJ (rg g (j:Int)+rg a ((X.length+j:Nat):Int))else rg g (j:Int)):=λi j e=>by
  rw[List.getElem?_map,List.getElem?_range e];rfl
 have D:g=(bB g.length).map λ(j:Nat)=>if j<0 then zH zJ (rg g (j:Int)+rg a ((X.length+j:Nat):Int))else rg g (j:Int):=by
  apply eD;intro j;by_cases e:j<g.length
  .rw[d 0 j e,Zh,lm e]
  .rw[cB (by omega),cB (by simp;omega)]
 have E:BJ X.length g a=(bB g.length).map λ(j:Nat)=>if j<g.length then zH zJ (rg g (j:Int)+rg a ((X.length+j:Nat):Int))else rg g (j:Int):=by
  unfold BJ;apply List.map_congr_left;intro j e;rw[zE (List.mem_range.1 e)]
 rw[E];refine Eq.trans (congrArg (λy=>aw f gv (0,y)) D) ?_;refine pi (n:=g.length) (λi=>(bB g.length).map λ(j:Nat)=>if j<i then zH zJ (rg g (j:Int)+rg a ((X.length+j:Nat):Int))else rg g (j:Int)) (by omega) (λi hi=> ?_) ?_
 .rw[C];rw[zB (show(i:Int)<((g.length:Nat):Int)by omega),zC,bm (by rw[A];exact hi)];simp only[zG];rw[d i i hi];simp only[zG];rw[zF (Nat.lt_irrefl i),ae (n:=((X.length:Nat):Int)+(i:Int)) (by omega),show((X.length:Nat):Int)+(i:Int)=((X.length+i:Nat):Int)by omega,bm (show X.length+i<a.length by omega)];simp only[zG];rw[lm (show X.length+i<a.length by omega)];simp only[zG];rw[ae (n:=(i:Int)+1) (by omega)]
  congr 3
  apply eD;intro j;by_cases e:j<g.length
  .rw[d (i+1) j e];by_cases h:i=j
   .subst h;rw[List.getElem?_set_self (by rw[A];exact hi),zE (Nat.lt_succ_self i)]
   .rw[List.getElem?_set_ne h,d i j e]
    congr 1
    by_cases v:j<i
    .rw[zE v,Zg]
    .rw[zF v,Zh]
  .rw[cB (by simp;omega),cB (by simp;omega)]
 .rw[C];rw[Ze,zD]
theorem cg (n:Nat):(cq n).length=n:=List.length_replicate
theorem ly (h:c.Ok)(e:Wd c W)(p:Int):(fill c.R (seg W (c.off 1) c.X.length++(seg W 0 c.T.length++[zH zJ p]))).length=c.R.toNat/\(stepR c W p).1.length=c.R.toNat/\(stepR c W p).2.1.length=c.fl.n:=by
 have n:=h.num;have v:=e.in' h (i:=1) (by omega);have u:=e.in' h (i:=0) (by omega);have C:(seg W (c.off 1) c.X.length).length=c.X.length:=dw v;have A:(seg W 0 c.T.length).length=c.T.length:=dw u
 have g:(fill c.R (seg W (c.off 1) c.X.length++(seg W 0 c.T.length++[zH zJ p]))).length=c.R.toNat:=by
  apply ja;rw[cD,cD,C,A];have:=n.xtR;simp;omega
 obtain⟨_,y,d⟩:=wj h.pl g (t:=cq c.fl.n) (by rw[cg];exact aB _) (by rw[cg];have:=n.n;omega);rw[cg]at d;exact⟨g,y,d⟩
theorem CC (h:c.Ok)(v:Wd c W)(y:x.length=c.X.length):(fill c.Q (x++(seg W 0 c.T.length++[]))).length=c.Q.toNat/\(lossR c W x).1.length=c.Q.toNat/\(lossR c W x).2.1.length=c.fk.n:=by
 have n:=h.num;have g:=v.in' h (i:=0) (by omega);have A:(seg W 0 c.T.length).length=c.T.length:=dw g
 have e:(fill c.Q (x++(seg W 0 c.T.length++[]))).length=c.Q.toNat:=by
  apply ja;rw[cD,cD,A,y];have:=n.xtQ;simp;omega
 obtain⟨_,u,d⟩:=wj h.pk e (t:=cq c.fk.n) (by rw[cg];exact aB _) (by rw[cg];have:=n.m;omega);rw[cg]at d;exact⟨e,u,d⟩
theorem rW (h:c.Ok)(g:Wd c W)(C:c.X.length+c.T.length<=a.length)(u:a.length<=max c.R.toNat c.Q.toNat):
  Wd c (put W (c.off 4) a)/\Wd c (put (put W (c.off 4) a) (c.off 5) (a.take c.X.length))/\Wd c (BK c W a):=by
 have v:=i7 (c:=c) (i:=4) (j:=9) (by omega);have y:=i7 (c:=c) (i:=5) (j:=9) (by omega);have A:=i7 (c:=c) (i:=6) (j:=9) (by omega);have D:c.sz 4=max c.R.toNat c.Q.toNat:=rfl;have E:c.sz 5=c.X.length:=rfl;have F:c.sz 6=c.T.length:=rfl;have e:=g.put h (w:=a) (o:=c.off 4) (by omega);have d:=e.put h (w:=a.take c.X.length) (o:=c.off 5) (by rw[dB];omega);refine⟨e,d, ?_⟩;unfold BK;refine d.put h ?_;rw[xp,dw (n:=c.T.length) (d.in' h (i:=6) (by omega))];omega
theorem aR3 (h:c.Ok)(d:Wd c W):
  jv c.fixed c.tp c.sl c.ns c.mode c.R c.Q c.len c.words L p q c0 c1 c2 c3 z c.X c.T c.l c.k c.P c.tk lv pk bd W=O (c.fixed,c.tp,c.sl,c.ns,c.mode,c.R,c.Q,c.len,c.words,L,p,q,c0,zH zI (c1+1),c2,c3,z,put W (c.off 2) (stepR c W p).1,(stepR c W p).1,(stepR c W p).2.1):=by
 have n:=h.num;obtain⟨e,A,C⟩:=ly h d p;have g:=d.in' h (i:=1) (by omega);have u:(seg W (c.off 1) c.X.length).length=c.X.length:=dw g;unfold jv;rw[h.of];simp only[zG];have D:=n.n;rw[Yb (by omega),S9 (ii:=1) (i:=1) h d rfl (by omega)];simp only[zG];rw[Yb (by omega),ab7 h d n.R (by rw[show c.sz 1=c.X.length from rfl,u];have:=n.xtR;simp;omega)];simp only[zG];rw[Yb (by omega),show c.sz 1=c.X.length from rfl,show bD ((c.fl.n:Int)).toNat (0:Int)=cq c.fl.n from rfl];obtain⟨v,y,E⟩:=wj h.pl e (t:=cq c.fl.n) (by rw[cg];exact aB _) (by rw[cg];omega);rw[v];simp only[zG];rw[put1 (ii:=2) (i:=2) h d rfl (by omega) (by rw[show c.sz 2=c.R.toNat from rfl];exact aD y)];rfl
theorem ap6 (h:c.Ok)(d:Wd c W):
  iv c.fixed c.tp c.sl c.ns c.mode c.R c.Q c.len c.words L p q c0 c1 c2 c3 z c.X c.T c.l c.k c.P c.tk sb sn sx lv pk bd W=O (c.fixed,c.tp,c.sl,c.ns,c.mode,c.R,c.Q,c.len,c.words,L,p,q,c0,zH zI (c1+1),c2,c3,z,put W (c.off 2) (stepR c W p).1,(stepR c W p).1,(stepR c W p).2.1):=by
 have n:=h.num;obtain⟨e,A,C⟩:=ly h d p;have g:=d.in' h (i:=1) (by omega);have u:(seg W (c.off 1) c.X.length).length=c.X.length:=dw g;unfold iv;rw[h.of];simp only[zG];have D:=n.n;rw[Yb (by omega),O8 (ii:=1) (i:=1) h d rfl (by omega)];simp only[zG];rw[Yb (by omega),UY h d n.R (by rw[show c.sz 1=c.X.length from rfl,u];have:=n.xtR;simp;omega)];simp only[zG];rw[Yb (by omega),show c.sz 1=c.X.length from rfl,show bD ((c.fl.n:Int)).toNat (0:Int)=cq c.fl.n from rfl];obtain⟨v,y,E⟩:=wj h.pl e (t:=cq c.fl.n) (by rw[cg];exact aB _) (by rw[cg];omega);rw[v];simp only[zG];rw[KK (ii:=2) (i:=2) h d rfl (by omega) (by rw[show c.sz 2=c.R.toNat from rfl];exact aD y)];rfl
theorem aK6 (h:c.Ok)(u:Wd c W)(C:r.length=c.Q.toNat)(y:a.length=c.Q.toNat)(D:t.length=c.fk.n):
  rn c.Q c.fixed c.tp c.sl c.ns c.mode c.R c.Q c.len c.words L p q c0 c1 c2 c3 z c.k r a t c.X c.T c.l c.P c.tk lv pk bd W=O (c.fixed,c.tp,c.sl,c.ns,c.mode,c.R,c.Q,c.len,c.words,L,p,q,c0,c1,c2,zH zI (c3+1),z,(ny c.fk r a t).1,(ny c.fk r a t).2.1,BK c W (ny c.fk r a t).2.1):=by
 have n:=h.num;obtain⟨E,U,V⟩:=uk h.pk C y (aD D.symm) (by have:=n.n;have:=n.m;omega);have K:=n.R;have J:=n.Q;have H:=n.xtR;have I:=n.xtQ;have N:=n.x;have M:=n.t;unfold rn;rw[E];simp only[zG];generalize ny c.fk r a t=d at*;have b:=rW h (a:=d.2.1) u (by omega) (by omega);obtain⟨v,e,F⟩:=b;rw[put1 (ii:=4) (i:=4) h u rfl (by omega) (by rw[show c.sz 4=max c.R.toNat c.Q.toNat from rfl];omega)];simp only[zG];rw[Zk,dh,show((c.X.length:Int)).toNat-0=c.X.length by omega,dD,put1 (ii:=5) (i:=5) h v rfl (by omega) (by rw[dB,show c.sz 5=c.X.length from rfl];omega)];simp only[zG];rw[S9 (ii:=6) (i:=6) h e rfl (by omega)];simp only[zG];rw[show c.sz 6=c.T.length from rfl];have A:(seg (put (put W (c.off 4) d.2.1) (c.off 5) (d.2.1.take c.X.length)) (c.off 6) c.T.length).length=c.T.length:=dw (e.in' h (i:=6) (by omega));rw[I7 (f:=wv c.X (0,d.1,d.2.1) _) (X:=c.X) (a:=d.2.1) (g:=seg (put (put W (c.off 4) d.2.1) (c.off 5) (d.2.1.take c.X.length)) (c.off 6) c.T.length) (by omega) (by omega) (by omega) (λs=>rfl)]
 simp only[zG];rw[put1 (ii:=6) (i:=6) h e rfl (by omega) (by rw[xp,A];exact aB _)];rfl
theorem aK7 (h:c.Ok)(u:Wd c W)(C:r.length=c.Q.toNat)(y:a.length=c.Q.toNat)(D:t.length=c.fk.n):
  qt c.Q c.fixed c.tp c.sl c.ns c.mode c.R c.Q c.len c.words L p q c0 c1 c2 c3 z c.k r a t c.X c.T c.l c.P c.tk sb sn sx lv pk bd W=O (c.fixed,c.tp,c.sl,c.ns,c.mode,c.R,c.Q,c.len,c.words,L,p,q,c0,c1,c2,zH zI (c3+1),z,(ny c.fk r a t).1,(ny c.fk r a t).2.1,BK c W (ny c.fk r a t).2.1):=by
 have n:=h.num;obtain⟨E,U,V⟩:=uk h.pk C y (aD D.symm) (by have:=n.n;have:=n.m;omega);have K:=n.R;have J:=n.Q;have H:=n.xtR;have I:=n.xtQ;have N:=n.x;have M:=n.t;unfold qt;rw[E];simp only[zG];generalize ny c.fk r a t=d at*;have b:=rW h (a:=d.2.1) u (by omega) (by omega);obtain⟨v,e,F⟩:=b;rw[KK (ii:=4) (i:=4) h u rfl (by omega) (by rw[show c.sz 4=max c.R.toNat c.Q.toNat from rfl];omega)];simp only[zG];rw[Zk,dh,show((c.X.length:Int)).toNat-0=c.X.length by omega,dD,KK (ii:=5) (i:=5) h v rfl (by omega) (by rw[dB,show c.sz 5=c.X.length from rfl];omega)];simp only[zG];rw[O8 (ii:=6) (i:=6) h e rfl (by omega)];simp only[zG];rw[show c.sz 6=c.T.length from rfl];have A:(seg (put (put W (c.off 4) d.2.1) (c.off 5) (d.2.1.take c.X.length)) (c.off 6) c.T.length).length=c.T.length:=dw (e.in' h (i:=6) (by omega));rw[I7 (f:=uT c.X (0,d.1,d.2.1) _) (X:=c.X) (a:=d.2.1) (g:=seg (put (put W (c.off 4) d.2.1) (c.off 5) (d.2.1.take c.X.length)) (c.off 6) c.T.length) (by omega) (by omega) (by omega) (λs=>rfl)]
 simp only[zG];rw[KK (ii:=6) (i:=6) h e rfl (by omega) (by rw[xp,A];exact aB _)];rfl
theorem aK8 (h:c.Ok)(u:Wd c W)(C:r.length=c.R.toNat)(y:a.length=c.R.toNat)(D:t.length=c.fl.n):
  qu c.R c.fixed c.tp c.sl c.ns c.mode c.R c.Q c.len c.words L p q c0 c1 c2 c3 z c.l r a t c.X c.T c.k c.P c.tk sb sn sx lv pk bd W=O (c.fixed,c.tp,c.sl,c.ns,c.mode,c.R,c.Q,c.len,c.words,L,p,q,c0,c1,c2,zH zI (c3+1),z,(ny c.fl r a t).1,(ny c.fl r a t).2.1,BK c W (ny c.fl r a t).2.1):=by
 have n:=h.num;obtain⟨E,U,V⟩:=uk h.pl C y (aD D.symm) (by have:=n.n;have:=n.m;omega);have K:=n.R;have J:=n.Q;have H:=n.xtR;have I:=n.xtQ;have N:=n.x;have M:=n.t;unfold qu;rw[E];simp only[zG];generalize ny c.fl r a t=d at*;have b:=rW h (a:=d.2.1) u (by omega) (by omega);obtain⟨v,e,F⟩:=b;rw[KK (ii:=4) (i:=4) h u rfl (by omega) (by rw[show c.sz 4=max c.R.toNat c.Q.toNat from rfl];omega)];simp only[zG];rw[Zk,dh,show((c.X.length:Int)).toNat-0=c.X.length by omega,dD,KK (ii:=5) (i:=5) h v rfl (by omega) (by rw[dB,show c.sz 5=c.X.length from rfl];omega)];simp only[zG];rw[O8 (ii:=6) (i:=6) h e rfl (by omega)];simp only[zG];rw[show c.sz 6=c.T.length from rfl];have A:(seg (put (put W (c.off 4) d.2.1) (c.off 5) (d.2.1.take c.X.length)) (c.off 6) c.T.length).length=c.T.length:=dw (e.in' h (i:=6) (by omega));rw[I7 (f:=uV c.X (0,d.1,d.2.1) _) (X:=c.X) (a:=d.2.1) (g:=seg (put (put W (c.off 4) d.2.1) (c.off 5) (d.2.1.take c.X.length)) (c.off 6) c.T.length) (by omega) (by omega) (by omega) (λs=>rfl)]
 simp only[zG];rw[KK (ii:=6) (i:=6) h e rfl (by omega) (by rw[xp,A];exact aB _)];rfl
def Kp (c:Cx)(W x:Zd):Zd:=BK c (put W (c.off 3) (lossR c W x).1) (ny c.fk (lossR c W x).1 (fill c.Q [1]) (lossR c W x).2.1).2.1
theorem EM (h:c.Ok)(d:Wd c W)(v:x.length=c.X.length):Wd c (put W (c.off 3) (lossR c W x).1)/\Wd c (Kp c W x):=by
 have n:=h.num;obtain⟨y,g,u⟩:=CC h d v;have E:=n.R;have D:=n.Q;have C:=n.xtQ;have H:=n.x;have F:=n.m;have A:=i7 (c:=c) (i:=3) (j:=9) (by omega);have K:c.sz 3=c.Q.toNat:=rfl;have e:=d.put h (w:=(lossR c W x).1) (o:=c.off 3) (by omega);obtain⟨_,I,J⟩:=uk h.pk g (a:=fill c.Q [1]) (t:=(lossR c W x).2.1) (ja (by simp;omega)) (aD u.symm) (by omega);exact⟨e,(rW h e (by omega) (by omega)).2.2⟩
theorem bi6 (h:c.Ok)(d:Wd c W)(u:x.length=c.X.length):
  qc x c.fixed c.tp c.sl c.ns c.mode c.R c.Q c.len c.words L p q c0 c1 c2 c3 z c.X c.T c.l c.k c.P c.tk lv pk bd W=O (c.fixed,c.tp,c.sl,c.ns,c.mode,c.R,c.Q,c.len,c.words,L,p,q,c0,c1,zH zI (c2+1),zH zI (c3+1),rg (lossR c W x).1 0,Kp c W x):=by
 have n:=h.num;obtain⟨v,g,y⟩:=CC h d u;obtain⟨D,N⟩:=EM h d u;have H:=n.R;have F:=n.Q;have E:=n.xtQ;have J:=n.x;have I:=n.m;unfold qc;rw[h.of];simp only[zG];rw[Yb (by omega),ab7 h d n.Q (by simp;omega)];simp only[zG];rw[Yb (by omega),show bD ((c.fk.n:Int)).toNat (0:Int)=cq c.fk.n from rfl];obtain⟨C,K,M⟩:=wj h.pk v (t:=cq c.fk.n) (by rw[cg];exact aB _) (by rw[cg];omega);rw[C];simp only[zG];have e:wl c.fk (fill c.Q (x++(seg W 0 c.T.length++[]))) (cq c.fk.n)=lossR c W x:=rfl;rw[e];have i0:ix 0 (lossR c W x).1.length=O 0:=bm (k:=0) (by omega);have A:(lossR c W x).1[0]?=O (rg (lossR c W x).1 0):=lm (k:=0) (by omega);rw[i0];simp only[zG];rw[A];simp only[zG];rw[put1 (ii:=3) (i:=3) h d rfl (by omega) (by rw[show c.sz 3=c.Q.toNat from rfl];exact aD g)];simp only[zG];rw[My n.Q (by simp;omega)]
 simp only[zG];rw[aK6 h D g (ja (by simp;omega)) y];rfl
theorem aZ0 (h:c.Ok)(d:Wd c W)(v:0<=lv)(A:lv<=pk)(u:lv+c.fk.n<=bd)(e:bd<=1048576):
  pe i0 c.fixed c.tp c.sl c.ns c.mode c.R c.Q c.len c.words L p q c0 c1 c2 c3 z c.X c.T c.l c.k c.P c.tk lv pk bd W=O (c.fixed,c.tp,c.sl,c.ns,c.mode,c.R,c.Q,c.len,c.words,L,p,q,c0,c1,zH zI (c2+1),zH zI (c3+1),rg (lossR c W (seg W (c.off 1) c.X.length)).1 0,lv,max pk (lv+c.fk.n),bd,Kp c W (seg W (c.off 1) c.X.length)):=by
 have n:=h.num;have g:=d.in' h (i:=1) (by omega);have y:(seg W (c.off 1) c.X.length).length=c.X.length:=dw g;unfold pe;rw[h.of];simp only[zG];rw[ug (by omega) v u e];simp only[zG];rw[S9 (ii:=1) (i:=1) h d rfl (by omega)];simp only[zG];rw[show c.sz 1=c.X.length from rfl,bi6 h d y];simp only[zG];rw[yu (by omega) (by omega) (by omega) (by omega)];simp only[zG];rw[show lv+(c.fk.n:Int)-c.fk.n=lv by omega]
theorem aW1 (h:c.Ok)(d:Wd c W)(u:x.length=c.X.length):
  np x c.fixed c.tp c.sl c.ns c.mode c.R c.Q c.len c.words L p q c0 c1 c2 c3 z c.X c.T c.l c.k c.P c.tk sb sn sx lv pk bd W=O (c.fixed,c.tp,c.sl,c.ns,c.mode,c.R,c.Q,c.len,c.words,L,p,q,c0,c1,zH zI (c2+1),zH zI (c3+1),rg (lossR c W x).1 0,Kp c W x):=by
 have n:=h.num;obtain⟨v,g,y⟩:=CC h d u;obtain⟨D,N⟩:=EM h d u;have H:=n.R;have F:=n.Q;have E:=n.xtQ;have J:=n.x;have I:=n.m;unfold np;rw[h.of];simp only[zG];rw[Yb (by omega),UY h d n.Q (by simp;omega)];simp only[zG];rw[Yb (by omega),show bD ((c.fk.n:Int)).toNat (0:Int)=cq c.fk.n from rfl];obtain⟨C,K,M⟩:=wj h.pk v (t:=cq c.fk.n) (by rw[cg];exact aB _) (by rw[cg];omega);rw[C];simp only[zG];have e:wl c.fk (fill c.Q (x++(seg W 0 c.T.length++[]))) (cq c.fk.n)=lossR c W x:=rfl;rw[e];have i0:ix 0 (lossR c W x).1.length=O 0:=bm (k:=0) (by omega);have A:(lossR c W x).1[0]?=O (rg (lossR c W x).1 0):=lm (k:=0) (by omega);rw[i0];simp only[zG];rw[A];simp only[zG];rw[KK (ii:=3) (i:=3) h d rfl (by omega) (by rw[show c.sz 3=c.Q.toNat from rfl];exact aD g)];simp only[zG];rw[My n.Q (by simp;omega)]
 simp only[zG];rw[aK7 h D g (ja (by simp;omega)) y];rfl
theorem aZ1 (h:c.Ok)(d:Wd c W)(v:0<=lv)(A:lv<=pk)(u:lv+c.fk.n<=bd)(e:bd<=1048576):
  mg i0 c.fixed c.tp c.sl c.ns c.mode c.R c.Q c.len c.words L p q c0 c1 c2 c3 z c.X c.T c.l c.k c.P c.tk sb sn sx lv pk bd W=O (c.fixed,c.tp,c.sl,c.ns,c.mode,c.R,c.Q,c.len,c.words,L,p,q,c0,c1,zH zI (c2+1),zH zI (c3+1),rg (lossR c W (seg W (c.off 1) c.X.length)).1 0,lv,max pk (lv+c.fk.n),bd,Kp c W (seg W (c.off 1) c.X.length)):=by
 have n:=h.num;have g:=d.in' h (i:=1) (by omega);have y:(seg W (c.off 1) c.X.length).length=c.X.length:=dw g;unfold mg;rw[h.of];simp only[zG];rw[ug (by omega) v u e];simp only[zG];rw[O8 (ii:=1) (i:=1) h d rfl (by omega)];simp only[zG];rw[show c.sz 1=c.X.length from rfl,aW1 h d y];simp only[zG];rw[yu (by omega) (by omega) (by omega) (by omega)];simp only[zG];rw[show lv+(c.fk.n:Int)-c.fk.n=lv by omega]
end
end
section
open Go.IntKind renaming wrap -> zH, i64 -> zI, u64 -> zJ
open List renaming length_take -> aB
open Nat renaming le_of_eq -> aD
section
variable {c:Cx}
def Ou (c:Cx)(W r t:Zd):Zd:=BK c W (ny c.fl r (fill c.R (seg W (c.off 5) c.X.length)) t).2.1
theorem JU (h:c.Ok)(d:Wd c W)(u:r.length=c.R.toNat)(v:t.length=c.fl.n):(fill c.R (seg W (c.off 5) c.X.length)).length=c.R.toNat/\Wd c (Ou c W r t):=by
 have n:=h.num;have C:=n.R;have A:=n.xtR;have E:=n.x;have D:=n.n;have g:=d.in' h (i:=5) (by omega);have y:(seg W (c.off 5) c.X.length).length=c.X.length:=dw g;have e:(fill c.R (seg W (c.off 5) c.X.length)).length=c.R.toNat:=ja (by omega);obtain⟨_,F,H⟩:=uk h.pl u e (aD v.symm) (by omega);exact⟨e,(rW h d (by omega) (by omega)).2.2⟩
theorem aJ0 (h:c.Ok)(d:Wd c W)(e:r.length=c.R.toNat)(g:t.length=c.fl.n):
  mh c.fixed c.tp c.sl c.ns c.mode c.R c.Q c.len c.words L p q c0 c1 c2 c3 z r t c.X c.T c.l c.k c.P c.tk sb sn sx lv pk bd W=O (c.fixed,c.tp,c.sl,c.ns,c.mode,c.R,c.Q,c.len,c.words,L,p,q,c0,c1,c2,zH zI (c3+1),z,(ny c.fl r (fill c.R (seg W (c.off 5) c.X.length)) t).1,Ou c W r t):=by
 have n:=h.num;have y:=n.R;have D:=n.xtR;obtain⟨u,A⟩:=JU h d e g;have v:=d.in' h (i:=5) (by omega);have C:(seg W (c.off 5) c.X.length).length=c.X.length:=dw v;unfold mh;rw[O8 (ii:=5) (i:=5) h d rfl (by omega)];simp only[zG];rw[show c.sz 5=c.X.length from rfl,My y (by omega)];simp only[zG];rw[aK8 h d e u g];rfl
def YL (c:Cx)(W:Zd)(p:Int):Zd:=Ou c (put W (c.off 2) (stepR c W p).1) (stepR c W p).1 (stepR c W p).2.1
theorem Bj (h:c.Ok)(d:Wd c W)(p:Int):Wd c (put W (c.off 2) (stepR c W p).1):=by
 obtain⟨_,e,_⟩:=ly h d p;have g:=i7 (c:=c) (i:=2) (j:=9) (by omega);have u:c.sz 2=c.R.toNat:=rfl;exact d.put h (by omega)
theorem bk0 (h:c.Ok)(d:Wd c W)(y:0<=lv)(C:lv<=pk)(v:lv+c.fl.n<=bd)(e:bd<=1048576):
  na i0 c.fixed c.tp c.sl c.ns c.mode c.R c.Q c.len c.words L p q c0 c1 c2 c3 z c.X c.T c.l c.k c.P c.tk sb sn sx lv pk bd W=O (c.fixed,c.tp,c.sl,c.ns,c.mode,c.R,c.Q,c.len,c.words,L,p,q,c0,zH zI (c1+1),c2,zH zI (c3+1),z,lv,max pk (lv+c.fl.n),bd,YL c W p):=by
 obtain⟨A,g,u⟩:=ly h d p;unfold na;rw[h.of];simp only[zG];rw[ug (by omega) y v e];simp only[zG];rw[ap6 h d];simp only[zG];rw[aJ0 h (Bj h d p) g u];simp only[zG];rw[yu (by omega) (by omega) (by omega) (by omega)];simp only[zG];rw[show lv+(c.fl.n:Int)-c.fl.n=lv by omega];rfl
def Pk (c:Cx)(W:Zd)(p:Int):Zd:=Ou c (Kp c (put W (c.off 2) (stepR c W p).1) ((stepR c W p).1.take c.X.length)) (stepR c W p).1 (stepR c W p).2.1
theorem aV7 (h:c.Ok)(d:Wd c W)(C:0<=lv)(E:lv<=pk)(A:lv+(c.fl.n+c.fk.n)<=bd)(e:bd<=1048576):
  qv i0 c.fixed c.tp c.sl c.ns c.mode c.R c.Q c.len c.words L p q c0 c1 c2 c3 z c.X c.T c.l c.k c.P c.tk sb sn sx lv pk bd W=O (c.fixed,c.tp,c.sl,c.ns,c.mode,c.R,c.Q,c.len,c.words,L,p,q,c0,zH zI (c1+1),zH zI (c2+1),zH zI (zH zI (c3+1)+1),rg (lossR c (put W (c.off 2) (stepR c W p).1) ((stepR c W p).1.take c.X.length)).1 0,lv,max pk (lv+(c.fl.n+c.fk.n)),bd,Pk c W p):=by
 have n:=h.num;have H:=n.R;have F:=n.xtR;have J:=n.n;have I:=n.m;obtain⟨D,v,y⟩:=ly h d p;have u:=Bj h d p;have g:((stepR c W p).1.take c.X.length).length=c.X.length:=by rw[aB];omega
 unfold qv;rw[h.of];simp only[zG];rw[ae (n:=(c.fl.n:Int)+(c.fk.n:Int)) (by omega),ug (by omega) C A e];simp only[zG];rw[ap6 h d];simp only[zG];rw[Zk,dh,show((c.X.length:Int)).toNat-0=c.X.length by omega,List.drop_zero,aW1 h u g];simp only[zG];rw[aJ0 h (EM h u g).2 v y];simp only[zG];rw[yu (by omega) (by omega) (by omega) (by omega)];simp only[zG];rw[show lv+((c.fl.n:Int)+c.fk.n)-(c.fl.n+c.fk.n)=lv by omega];rfl
def LA (c:Cx)(W:Zd)(p:Int):Zd:=GN c.fl (fill c.R (seg W (c.off 1) c.X.length++(seg W 0 c.T.length++[zH zJ p])))
def adv1 (c:Cx)(W:Zd)(p:Int):Zd:=put (put W (c.off 2) (LA c W p)) (c.off 1) ((LA c W p).take c.X.length)
def advW (c:Cx)(W:Zd)(p:Int):Nat->Zd
 |0=>W
 |i+1=>adv1 c (advW c W p i) (p+i)
theorem X6 {R:Int}(h:r.length=R.toNat):fill R r=r:=by
 unfold fill;rw[h,Nat.sub_self];simp
theorem GW (h:c.Ok)(e:Wd c W)(p:Int):tb c.R c.l (fill c.R (seg W (c.off 1) c.X.length++(seg W 0 c.T.length++[zH zJ p])))=O (0,LA c W p)/\(LA c W p).length=c.R.toNat:=by
 obtain⟨d,_,_⟩:=ly h e p;have:=SX h.pl (r:=fill c.R (seg W (c.off 1) c.X.length++(seg W 0 c.T.length++[zH zJ p]))) (aD d);rw[X6 d]at this;exact this
theorem QM (h:c.Ok)(d:Wd c W)(p:Int):Wd c (put W (c.off 2) (LA c W p))/\Wd c (adv1 c W p):=by
 have n:=h.num;have A:=n.R;have y:=n.xtR;obtain⟨_,g⟩:=GW h d p;have u:=i7 (c:=c) (i:=1) (j:=9) (by omega);have v:=i7 (c:=c) (i:=2) (j:=9) (by omega);have C:c.sz 1=c.X.length:=rfl;have D:c.sz 2=c.R.toNat:=rfl;have e:=d.put h (w:=LA c W p) (o:=c.off 2) (by omega);exact⟨e,e.put h (by rw[aB];omega)⟩
theorem Md (h:c.Ok){W:Zd}(d:Wd c W)(p:Int): ∀i,Wd c (advW c W p i)
 |0=>d
 |i+1=>(QM h (Md h d p i) _).2
theorem aa7 (h:c.Ok)(v:Wd c W){m:Nat}(E:m<=65536)(F:0<=p/\p<=65536)(D:0<=c0/\c0<=4611686018427387904):
  my (m:Int) c.fixed c.tp c.sl c.ns c.mode c.R c.Q c.len c.words L p q c0 c1 c2 c3 z c.X c.T c.l c.k c.P c.tk sb sn sx lv pk bd W=O (c.fixed,c.tp,c.sl,c.ns,c.mode,c.R,c.Q,c.len,c.words,L,p,q,c0+m,c1,c2,c3,z,advW c W p m):=by
 have n:=h.num;have A:=n.R;have H:=n.xtR;have I:=n.x;unfold my
 have e:aw (kl (m:Int) c.X c.T c.l c.k c.P c.tk sb sn sx lv pk bd) gv (0,c.fixed,c.tp,c.sl,c.ns,c.mode,c.R,c.Q,c.len,c.words,L,p,q,c0+((0:Nat):Int),c1,c2,c3,z,advW c W p 0)=O (c.fixed,c.tp,c.sl,c.ns,c.mode,c.R,c.Q,c.len,c.words,L,p,q,c0+m,c1,c2,c3,z,advW c W p m):=by
  refine pi (n:=m) (λi=>(c.fixed,c.tp,c.sl,c.ns,c.mode,c.R,c.Q,c.len,c.words,L,p,q,c0+(i:Int),c1,c2,c3,z,advW c W p i)) (by omega) (λi hi=> ?_) ?_
  .have d:=Md h v p i;obtain⟨g,u⟩:=GW h d (p+i);obtain⟨C,J⟩:=QM h d (p+i);have y:(seg (advW c W p i) (c.off 1) c.X.length).length=c.X.length:=dw (d.in' h (i:=1) (by omega));simp only[kl];rw[zB (show(i:Int)<(m:Int)by omega),zC,O8 (ii:=1) (i:=1) h d rfl (by omega)];simp only[zG];rw[show c.sz 1=c.X.length from rfl,ae (n:=p+(i:Int)) (by omega),UY h d A (by rw[y];simp;omega)];simp only[zG];rw[g];simp only[zG];rw[KK (ii:=2) (i:=2) h d rfl (by omega) (by rw[show c.sz 2=c.R.toNat from rfl];exact aD u)];simp only[zG];rw[Zk,dh,show((c.X.length:Int)).toNat-0=c.X.length by omega,List.drop_zero,KK (ii:=1) (i:=1) h C rfl (by omega) (by rw[aB,show c.sz 1=c.X.length from rfl];omega)];simp only[zG];rw[ae (n:=(i:Int)+1) (by omega),ae (n:=c0+(i:Int)+1) (by omega),show c0+(i:Int)+1=c0+((i+1:Nat):Int)by omega]
   rfl
  .simp only[kl];rw[Ze,zD]
 rw[show c0+((0:Nat):Int)=c0 by omega,show advW c W p 0=W from rfl]at e;rw[e];rfl
end
end
section
open List renaming range -> aB
def px (a n:Int):Bool:=if a<1 then Zb else if 9<a then Zb else if a=1 then Zc (1<=n/\n<65536)else if a<=4 then Zc (0<=n/\n<1048576)else Zc (n=0)
theorem QK (a n:Int):wm a n=O (px a n):=by
 unfold wm px wo;by_cases e:a<1
 .rw[zB e,zE e];rfl
 rw[zA e,zF e];by_cases g:9<a
 .rw[zB g,zE g];rfl
 rw[zA g,zF g];show cond (Zc (a=1)) _ _=_;by_cases h:a=1
 .rw[zB h,zE h];by_cases d:1<=n
  .rw[zB d];simp[d]
  .rw[zA d];simp[d]
 rw[zA h,zF h,zB (show 1<=a by omega)];by_cases d:a<=4
 .rw[zB d,zE d];by_cases u:0<=n
  .rw[zB u];simp[u]
  .rw[zA u];simp[u]
 .rw[zA d,zF d];rfl
section
variable {c:Cx}
def sp (c:Cx)(k:Nat):Nat:=c.off 8+k*(c.X.length+1)
def mb (c:Cx)(W:Zd)(k:Nat):Int:=rg W (sp c k:Int)
def rm (c:Cx)(W:Zd):Zd:=(aB c.ns.toNat).map λ(k:Nat)=>mb c W k-1
structure Dy where
 L:Int
 p:Int
 q:Int
 c0:Int
 c1:Int
 c2:Int
 c3:Int
 z:Int
 lv:Int
 pk:Int
 W:Zd
def qY (c:Cx)(W:Zd):Nat:=(aB c.ns.toNat).countP λ(k:Nat)=>Zc (0<mb c W k)
structure Inv (c:Cx)(s:Dy):Prop where
 w:Wd c s.W
 L:0<=s.L/\s.L<=65535
 p:0<=s.p/\s.p<=s.L
 q: -1<=s.q/\s.q<=s.L
 tag: ∀k,k<c.ns.toNat->0<=mb c s.W k/\mb c s.W k<=s.L+1
 lv:s.lv=c.fixed+c.sl*qY c s.W
 pk:s.lv<=s.pk/\s.pk<=c.words
theorem we (h:c.Ok)(y:c.mode≠3)(v:k<c.ns.toNat):sp c k+(c.X.length+1)<=c.off 9/\c.ns.toNat*(c.X.length+1)+c.off 8=c.off 9/\c.ns.toNat<=524288:=by
 have n:=h.num;have d:=n.sl;rw[zF y]at d;have g:=h.ns
 have e:(c.sl*c.ns).toNat=c.ns.toNat*(c.X.length+1):=by
  have:c.sl*c.ns=((c.ns.toNat*(c.X.length+1):Nat):Int):=by
   rw[Int.natCast_mul,d,Int.toNat_of_nonneg g.1,Int.mul_comm]
   congr 1
  rw[this];rfl
 have E:c.off 9=c.off 8+c.ns.toNat*(c.X.length+1):=by rw[Tt,e]
 have u:(k+1)*(c.X.length+1)<=c.ns.toNat*(c.X.length+1):=Nat.mul_le_mul_right _ v;rw[Nat.succ_mul]at u;have A:=h.off9_le;have C:=n.words;have D:c.ns.toNat*2<=c.ns.toNat*(c.X.length+1):=Nat.mul_le_mul_left _ (by have:=n.x;omega);unfold sp;omega
theorem EV (h:c.Ok)(u:c.mode≠3)(g:k<c.ns.toNat):eo (c.off 8:Int) c.ns (c.X.length:Int) (k:Int)=O (sp c k:Int):=by
 obtain⟨d,v,y⟩:=we h u g;have A:=h.off9_le;have C:=h.num.words;have D:=h.num.x;unfold sp at d;unfold eo il;simp only[zG];have e:(k:Int)*((c.X.length:Int)+1)=((k*(c.X.length+1):Nat):Int):=by rw[Int.natCast_mul];congr 1
 rw[ae (n:=(c.X.length:Int)+1) (by omega),e,ae (n:=((k*(c.X.length+1):Nat):Int)) (by omega),Zi];unfold sp
 congr 1
theorem Mt (h:c.Ok)(v:c.mode≠3)(g:Wd c W)(u:k<c.ns.toNat):jf (sp c k:Int) c.tk W=O (mb c W k,0):=by
 obtain⟨y,_,_⟩:=we h v u;obtain⟨d,e⟩:=g.tk h;exact XI (by omega) d e
theorem RN (h:c.Ok)(e:c.mode≠3)(g:Wd c W)(v: ∀k,k<c.ns.toNat->0<=mb c W k/\mb c W k<=65536):qS (c.off 8:Int) c.ns (c.X.length:Int) c.tk W=O (rm c W):=by
 unfold qS;have u:=h.ns
 have d:aw (kf (c.off 8:Int) c.ns (c.X.length:Int) c.tk W) gv (0,(aB 0).map λ(k:Nat)=>mb c W k-1)=O (rm c W):=by
  refine pi (n:=c.ns.toNat) (λi=>(aB i).map λ(k:Nat)=>mb c W k-1) (by omega) (λi hi=> ?_) ?_
  .have y:=v i hi;unfold kf;simp only;rw[Zf,zC,EV h e hi];simp only[zG];rw[Mt h e g hi];simp only[zG];rw[de (by simp;omega) (by omega),ae (n:=(i:Int)+1) (by omega),ae (n:=mb c W i) (by omega),ae (n:=mb c W i-1) (by omega),List.range_succ,List.map_append];rfl
  .unfold kf;simp only;rw[Ze,zD];rfl
 have d:aw (kf (c.off 8:Int) c.ns (c.X.length:Int) c.tk W) gv (0,[])=_:=d;rw[d];rfl
theorem GZ (d:k<c.ns.toNat):(rm c W)[k]?=O (mb c W k-1):=by
 unfold rm;rw[List.getElem?_map,List.getElem?_range d];rfl
theorem ul :(rm c W).length=c.ns.toNat:=by unfold rm;simp
theorem O3 {l:Zd}(e:l.length<1000000)(h: ∀t∈l,-1<=t/\t<=L):ic l L=O Zb:=by
 unfold ic oq
 have d:aw (ig l L) gv 0=O (.inr ()):=by
  refine yr (n:=l.length) (by omega) (λi hi=> ?_) ?_
  .have:=h l[i] (List.getElem_mem hi);unfold ig ru;rw[Zf,zC,dn hi];simp only[zG];rw[Ze,zD];simp only[zG];rw[Ze,zD,Zi];rfl
  .unfold ig;rw[Ze,zD]
 rw[d];rfl
theorem Iu {l:Zd}(e:0<=L/\L<=65535)(g:0<=p/\p<=L)(u: -1<=q/\q<=L)(d:l.length<1000000)(h: ∀t∈l,-1<=t/\t<=L):sg L p q l=O (.inr (p,q,L,l)):=by
 unfold sg Bm ru;rw[zB (show 0<=L by omega),zB (show L<65536 by omega)];simp only[zC,zG,Bool.not_true,zD];rw[zA (show¬(1048576<(l.length:Int))by omega),zA (show¬p= -1 by omega),zA (show¬p< -1 by omega),zA (show¬L<p by omega),zA (show¬q< -1 by omega),zA (show¬L<q by omega)];simp only[zD,zG];rw[O3 d h];simp only[zG,zD];unfold lg;rw[de (by omega) (by omega)];rfl
end
end
variable {s:Dy}
section
open Bool renaming not_true -> aB
open Int renaming mul_le_mul_of_nonneg_left -> aD
open List renaming countP_le_length -> bB
section
variable {c:Cx}
def Fp (c:Cx)(a n:Int)(s:Dy):Int×Dy:=
 if px a n=Zb∨7<a then(2,s)
 else if(2<=a/\a<=4)/\c.ns<=n then(2,s)
 else if a=1 then(if s.L-s.p<n then(17,s)else(0,{s with p:=s.p+n,c0:=s.c0+n,W:=advW c s.W s.p n.toNat}))
 else if a=2 then(if 0<=mb c s.W n.toNat-1 then(15,s)else(0,{s with lv:=s.lv+c.sl,pk:=max s.pk (s.lv+c.sl),W:=put s.W (sp c n.toNat) (IntKind.u64.wrap (IntKind.i64.wrap (s.p+1))::seg s.W (c.off 1) c.X.length)}))
 else if a=3 then(if mb c s.W n.toNat-1<0 then(16,s)else(0,{s with p:=mb c s.W n.toNat-1,W:=put s.W (c.off 1) (seg s.W (sp c n.toNat+1) c.X.length)}))
 else if a=4 then(if mb c s.W n.toNat-1<0 then(16,s)else(0,{s with lv:=s.lv-c.sl,W:=put s.W (sp c n.toNat) (cq (c.X.length+1))}))
 else if a=5 then(if s.q≠ -1 then(18,s)else if s.p≠s.L then(17,s)else(0,{s with q:=s.p,c2:=s.c2+1,c3:=s.c3+1,z:=rg (lossR c s.W (seg s.W (c.off 1) c.X.length)).1 0,pk:=max s.pk (s.lv+c.fk.n),W:=Kp c s.W (seg s.W (c.off 1) c.X.length)}))
 else if a=6 then(if s.q≠ -1 then(18,s)else if s.p≠s.L-1 then(17,s)else(0,{s with q:=s.p,c1:=s.c1+1,c2:=s.c2+1,c3:=s.c3+1+1,z:=rg (lossR c (put s.W (c.off 2) (stepR c s.W s.p).1) ((stepR c s.W s.p).1.take c.X.length)).1 0,pk:=max s.pk (s.lv+(c.fl.n+c.fk.n)),W:=Pk c s.W s.p}))
 else(if s.q<=0 then(18,s)else if s.p≠s.q-1 then(17,s)else(0,{s with q:=s.p,c1:=s.c1+1,c3:=s.c3+1,pk:=max s.pk (s.lv+c.fl.n),W:=YL c s.W s.p}))
def aL8 (c:Cx)(r:Int×Dy):Int×Int×Int×Int×Int×Int×Int×Int×Int×Int×Int×Int×Int×Int×Int×Int×Int×Int×Int×Int×Int×Zd:=
 (r.1,c.fixed,c.tp,c.sl,c.ns,c.mode,c.R,c.Q,c.len,c.words,r.2.L,r.2.p,r.2.q,r.2.c0,r.2.c1,r.2.c2,r.2.c3,r.2.z,r.2.lv,r.2.pk,c.words,r.2.W)
def IS (B:Int)(s:Dy):Prop:=(0<=s.c0/\s.c0<=B)/\(0<=s.c1/\s.c1<=B)/\(0<=s.c2/\s.c2<=B)/\(0<=s.c3/\s.c3<=B)
theorem aF8 (c:Cx)(W:Zd):qY c W<=c.ns.toNat:=by
 unfold qY;exact Nat.le_trans bB (by simp)
theorem Mm (h:c.Ok)(hi:Inv c s):0<=s.lv/\s.lv+c.tp<=c.words/\c.words<=1048576/\0<=c.tp:=by
 have n:=h.num;have g:=hi.lv;have u:=aF8 c s.W;have v:=h.fit;have y:=n.fixed;have A:=h.ns;have e:=n.sl;have C:1<=c.sl:=by rw[e];have:=n.R;split<;>omega
 have D:c.sl*(qY c s.W:Int)<=c.sl*c.ns:=aD (by omega) (by omega);have E:0<=c.sl*(qY c s.W:Int):=Int.mul_nonneg (by omega) (by omega);have d:0<=c.tp:=by rw[n.tp];split<;>omega
 have:=n.R;have:=n.Q;have:=n.words;refine⟨by omega,by omega,by omega,d⟩
theorem PK (h:c.Ok)(hi:Inv c s)(C:qY c s.W<c.ns.toNat):s.lv+c.sl<=c.words:=by
 have n:=h.num;have u:=hi.lv;have v:=h.fit;have y:=h.ns;have e:=n.sl;have A:1<=c.sl:=by rw[e];have:=n.R;split<;>omega
 have g:c.sl*((qY c s.W:Int)+1)<=c.sl*c.ns:=aD (by omega) (by omega);have d:0<=c.tp:=by rw[n.tp];split<;>omega
 rw[Int.mul_add,Int.mul_one]at g;omega
theorem XZ {l:List Nat}{P:Nat->Bool}(e:k∈l)(d:P k=Zb):l.countP P<l.length:=by
 rcases Nat.lt_or_ge (l.countP P) l.length with h|h
 .exact h
 .have:=List.countP_eq_length.1 (Nat.le_antisymm bB h) k e;rw[d]at this;cases this
theorem PA (d:k<c.ns.toNat)(e:mb c W k<=0):qY c W<c.ns.toNat:=by
 have:=XZ (l:=List.range c.ns.toNat) (P:=λ(k:Nat)=>Zc (0<mb c W k)) (k:=k) (List.mem_range.2 d) (zA (by omega));rw[List.length_range]at this;exact this
theorem Vj (d:k<c.ns.toNat):ol sb c.ns sx (k:Int)=O Za:=by
 unfold ol;rw[Zf,zC,Zf]
theorem aR0 (h:c.Ok)(g:c.mode≠3)(hi:Inv c s)(d:k<c.ns.toNat)(C:mb c s.W k<=0):
  pp (k:Int) c.fixed c.tp c.sl c.ns c.mode c.R c.Q c.len c.words s.L s.p s.q s.c0 s.c1 s.c2 s.c3 s.z c.X c.T c.l c.k c.P c.tk (c.off 8:Int) c.ns (c.X.length:Int) s.lv s.pk c.words s.W=O (s.lv+c.sl,max s.pk (s.lv+c.sl),c.words,put s.W (sp c k) (IntKind.u64.wrap (IntKind.i64.wrap (s.p+1))::seg s.W (c.off 1) c.X.length)):=by
 have n:=h.num;have e:=hi.w;obtain⟨y,H,I⟩:=Mm h hi;have A:=PK h hi (PA d C);have u:=n.sl;rw[zF g]at u;have M:=n.x;have K:=hi.p;have J:=hi.L;have D:=(hi.tag k d).1;obtain⟨N,U,V⟩:=we h g d;obtain⟨E,F⟩:=e.tk h;have v:(seg s.W (c.off 1) c.X.length).length=c.X.length:=dw (e.in' h (i:=1) (by omega));unfold pp;rw[ug (by omega) y A (by omega)];simp only[zG];rw[O8 (ii:=1) (i:=1) h e rfl (by omega)];simp only[zG];rw[show c.sz 1=c.X.length from rfl];unfold ti;rw[Vj d];simp only[zG,aB,zD];rw[EV h g d];simp only[zG];rw[Mt h g e d];simp only[zG];rw[zA (show¬s.p<0 by omega),zD,zA (show¬65536<=s.p by omega)];simp only[zG,zD];rw[v,zA (λk=>k rfl),zD,zA (show¬(mb c s.W k≠0)by omega),zD,de (by omega) (by omega)]
 unfold Cx.tk;rw[vT (by simp[v];omega) E F];rfl
theorem an2 (h:c.Ok)(g:c.mode≠3)(hi:Inv c s)(d:k<c.ns.toNat)(D:0<mb c s.W k):
  mz (k:Int) c.fixed c.tp c.sl c.ns c.mode c.R c.Q c.len c.words s.L s.p s.q s.c0 s.c1 s.c2 s.c3 s.z c.X c.T c.l c.k c.P c.tk (c.off 8:Int) c.ns (c.X.length:Int) s.lv s.pk c.words s.W=O (put s.W (c.off 1) (seg s.W (sp c k+1) c.X.length)):=by
 have n:=h.num;have e:=hi.w;have C:=hi.L;have u:=(hi.tag k d).2;obtain⟨E,F,H⟩:=we h g d;obtain⟨y,A⟩:=e.tk h;have v:(seg s.W (sp c k+1) c.X.length).length=c.X.length:=dw (by omega);unfold mz rG;rw[Vj d];simp only[zG,aB,zD];rw[EV h g d];simp only[zG];rw[Mt h g e d];simp only[zG];rw[zA (show¬mb c s.W k=0 by omega),zD,ae (n:=(sp c k:Int)+1) (by omega),show(sp c k:Int)+1=((sp c k+1:Nat):Int)by omega];unfold Cx.tk;rw[EE (by omega) y A];simp only[zG];rw[show((c.off 9:Nat):Int)=c.tk from rfl,KK (ii:=1) (i:=1) h e rfl (by omega) (by rw[v];exact Nat.le_refl _)];rfl
theorem aX3 (h:c.Ok)(e:c.mode≠3)(hi:Inv c s)(d:k<c.ns.toNat)(H:0<mb c s.W k)(g:c.sl<=s.lv):
  qw (k:Int) c.fixed c.tp c.sl c.ns c.mode c.R c.Q c.len c.words s.L s.p s.q s.c0 s.c1 s.c2 s.c3 s.z c.X c.T c.l c.k c.P c.tk (c.off 8:Int) c.ns (c.X.length:Int) s.lv s.pk c.words s.W=O (s.lv-c.sl,s.pk,c.words,put s.W (sp c k) (cq (c.X.length+1))):=by
 have n:=h.num;have y:=hi.w;have I:=n.x;have v:=n.sl;rw[zF e]at v;obtain⟨D,E,F⟩:=Mm h hi;have u:=hi.pk;obtain⟨J,K,M⟩:=we h e d;obtain⟨A,C⟩:=y.tk h;unfold qw tS;rw[Vj d];simp only[zG,aB,zD];rw[EV h e d];simp only[zG];rw[Mt h e y d];simp only[zG];rw[zA (show¬mb c s.W k=0 by omega),zD];unfold il;simp only[zG];rw[ae (n:=(c.X.length:Int)+1) (by omega),Yb (by omega),show List.replicate (((c.X.length:Int)+1).toNat) (0:Int)=cq (c.X.length+1)from rfl];unfold Cx.tk;rw[vT (by rw[cg];omega) A C];simp only[zG];rw[yu (by omega) g u.1 (by omega)];rfl
end
end
section
open Int renaming reduceEq -> aD, toNat_of_nonneg -> bB
open Nat renaming reduceSub -> aB
def aO3 (a n p q L d:Int)(l:Zd):Int×Int×Int×Int×Int×Zd:=
 if px a n=Zb∨7<a then(2,p,q,L,d,l)
 else if(2<=a/\a<=4)/\(l.length:Int)<=n then(2,p,q,L,d,l)
 else if a=1 then(if L-p<n then(17,p,q,L,d,l)else(0,p+n,q,L,d+n,l))
 else if a=2 then(if 0<=rg l n then(15,p,q,L,d,l)else(0,p,q,L,d,l.set n.toNat p))
 else if a=3 then(if rg l n<0 then(16,p,q,L,d,l)else(0,rg l n,q,L,d,l))
 else if a=4 then(if rg l n<0 then(16,p,q,L,d,l)else(0,p,q,L,d,l.set n.toNat (-1)))
 else if a=5 then(if q≠ -1 then(18,p,q,L,d,l)else if p≠L then(17,p,q,L,d,l)else(0,p,p,L,d,l))
 else if a=6 then(if q≠ -1 then(18,p,q,L,d,l)else if p≠L-1 then(17,p,q,L,d,l)else(0,p,p,L,d,l))
 else(if q<=0 then(18,p,q,L,d,l)else if p≠q-1 then(17,p,q,L,d,l)else(0,p,p,L,d,l))
theorem WZ :Nat.beq 0 0=Za:=rfl
theorem WY (n:Nat):Nat.beq (n+1) 0=Zb:=rfl
theorem EY {a n:Int}(h: ¬(px a n=Zb∨7<a)):px a n=Za/\(a=1∨a=2∨a=3∨a=4∨a=5∨a=6∨a=7):=by
 have d:px a n=Za:=by
  cases g:px a n with
  |true=>rfl
  |false=>exact(h (.inl g)).elim
 refine⟨d, ?_⟩;have u: ¬a<1:=λe=>by unfold px at d;rw[zE e]at d;cases d
 omega
theorem EZ {a n:Int}(h:px a n=Za)(e:1<=a/\a<=4):0<=n/\n<1048576/\(a=1->1<=n/\n<65536):=by
 unfold px at h;rw[Zh,Zh]at h;by_cases d:a=1
 .rw[zE d]at h;have:=of_decide_eq_true h;omega
 .rw[zF d,Zg]at h;have:=of_decide_eq_true h;omega
theorem Vo {a n v:Int}{l:Zd}(V:0<=L/\L<=65535)(Z:0<=p/\p<=L)(hq: -1<=q/\q<=L)(ht:0<=v/\v<=1000000000000):nv a n p q L v l=O (aO3 a n p q L v l):=by
 unfold nv aO3;rw[QK];simp only[zG];by_cases h1:px a n=Zb∨7<a
 .rw[zE h1]
  have e:(cond (!px a n) (O Za) (O (Zc (7<a))))=O Za:=by
   rcases h1 with h1|h1
   .rw[h1];rfl
   .rw[zB h1];cases px a n<;>rfl
  rw[e];rfl
 rw[zF h1];obtain⟨E,U⟩:=EY h1;have N: ¬7<a:=λh=>h1 (.inr h)
 rw[E,zA N];simp only[Bool.not_true,zD,zG];by_cases y:(2<=a/\a<=4)/\(l.length:Int)<=n
 .rw[zE y,zB y.1.1,zB y.1.2,zB y.2];rfl
 rw[zF y]
 have e:(cond (Zc (2<=a)) (cond (Zc (a<=4)) (cond (Zc ((l.length:Int)<=n)) (O (Sum.inl ())) (O (Sum.inr ()))) (O (Sum.inr ()))) (O (Sum.inr ())):Option (Unit⊕Unit))=O (.inr ()):=by
  by_cases d:2<=a
  .rw[zB d];by_cases g:a<=4
   .rw[zB g,zA (λF=>y ⟨⟨d,g⟩,F⟩)];rfl
   .rw[zA g];rfl
  .rw[zA d];rfl
 rw[e];simp only[zG,cv,rz]
 have u:(2<=a/\a<=4)->0<=n/\n.toNat<l.length/\ix n l.length=O n.toNat/\l[n.toNat]?=O (rg l n):=λJ=>by
  have I:=EZ E ⟨by omega,J.2⟩
  have A:n.toNat<l.length:=by
   have: ¬(l.length:Int)<=n:=λF=>y ⟨J,F⟩
   omega
  have H:n=((n.toNat:Nat):Int):=by omega
  refine⟨I.1,A, ?_, ?_⟩
  .conv=>lhs;rw[H]
   exact bm A
  .have:=lm A;rw[<-H]at this;exact this
 rcases U with rfl|rfl|rfl|rfl|rfl|rfl|rfl
 .have I:=EZ E (by omega);rw[show ix 1 8=O 1 from rfl];simp only[zG,aB,WZ,WY,zC,zD];rw[zE trivial];unfold qz;rw[ae (n:=L-p) (by omega),ak];by_cases d:L-p<n
  .rw[zE d,zE d];rfl
  .rw[zF d,zF d,ae (n:=p+n) (by omega),ae (n:=v+n) (by omega)];rfl
 .obtain⟨K,M,C,D⟩:=u (by omega);rw[show ix 2 8=O 2 from rfl];simp only[zG,aB,WZ,WY,zC,zD];rw[zF (by decide),zE trivial];unfold rA;rw[C];simp only[zG];rw[D];simp only[zG,ak];by_cases d:0<=rg l n
  .rw[zE d,zE d];rfl
  .rw[zF d,zF d];rfl
 .obtain⟨K,M,C,D⟩:=u (by omega);rw[show ix 3 8=O 3 from rfl];simp only[zG,aB,WZ,WY,zC,zD];rw[zF (by decide),zF (by decide),zE trivial];unfold qA;rw[C];simp only[zG];rw[D];simp only[zG,ak];by_cases d:rg l n<0
  .rw[zE d,zE d];rfl
  .rw[zF d,zF d];rfl
 .obtain⟨K,M,C,D⟩:=u (by omega);rw[show ix 4 8=O 4 from rfl];simp only[zG,aB,WZ,WY,zC,zD];rw[zF (by decide),zF (by decide),zF (by decide),zE trivial];unfold sj;rw[C];simp only[zG];rw[D];simp only[zG,ak];by_cases d:rg l n<0
  .rw[zE d,zE d];rfl
  .rw[zF d,zF d];rfl
 .rw[show ix 5 8=O 5 from rfl];simp only[zG,aB,WZ,WY,zC,zD];rw[zF (by decide),zF (by decide),zF (by decide),zF (by decide),zE trivial];unfold sm ke;rw[ae (n:=L-0) (by omega),ak];by_cases d:q≠ -1
  .rw[zE d,zE d];rfl
  .rw[zF d,zF d,zB (show q= -1 by omega),Bool.and_true,Int.sub_zero];by_cases g:p=L
   .rw[zB g,zF (λk=>k g)];rfl
   .rw[zA g,zE g];rfl
 .rw[show ix 6 8=O 6 from rfl];simp only[zG,aB,WZ,WY,zC,zD];rw[zF (by decide),zF (by decide),zF (by decide),zF (by decide),zF (by decide),zE trivial];unfold si ke;rw[ae (n:=L-1) (by omega),ak];by_cases d:q≠ -1
  .rw[zE d,zE d];rfl
  .rw[zF d,zF d,zB (show q= -1 by omega),Bool.and_true];by_cases g:p=L-1
   .rw[zB g,zF (λk=>k g)];rfl
   .rw[zA g,zE g];rfl
 .rw[show ix 7 8=O 7 from rfl];simp only[zG,aB,WZ,WY,zC,zD];rw[zF (by decide),zF (by decide),zF (by decide),zF (by decide),zF (by decide),zF (by decide)];unfold qB;rw[ak];by_cases d:q<=0
  .rw[zE d,zE d];rfl
  .rw[zF d,zF d,ae (n:=q-1) (by omega),ak];by_cases g:p≠q-1
   .rw[zE g,zE g];rfl
   .rw[zF g,zF g];rfl
section
variable {c:Cx}
theorem Om (g: ∀k,k<c.ns.toNat->0<=mb c W k/\mb c W k<=L+1): ∀t∈rm c W,-1<=t/\t<=L:=λt d=>by
 unfold rm at d;obtain⟨k,e,rfl⟩:=List.mem_map.1 d;have:=g k (List.mem_range.1 e);omega
theorem aD7 {n:Int}(h:0<=n)(e:n.toNat<c.ns.toNat):rg (rm c W) n=mb c W n.toNat-1:=by
 have g:=GZ (c:=c) (W:=W) e;have d:=lm (r:=rm c W) (k:=n.toNat) (by rw[ul];exact e);rw[g,bB h]at d;injection d with d
 exact d.symm
theorem IS.in' (h:IS B s)(d:B<=2305843009213693952):(0<=s.c0/\s.c0<=2305843009213693952)/\(0<=s.c1/\s.c1<=2305843009213693952)/\(0<=s.c2/\s.c2<=2305843009213693952)/\(0<=s.c3/\s.c3<=2305843009213693952):=by
 unfold IS at h;omega
theorem aq7 (d:k<c.ns.toNat)(e:0<mb c W k):0<qY c W:=by
 unfold qY;exact List.countP_pos_iff.2 ⟨k,List.mem_range.2 d,zB e⟩
theorem ag7 (h:c.Ok)(hi:Inv c s)(y:0<qY c s.W):c.sl<=s.lv:=by
 have n:=h.num;have e:=hi.lv;have g:=n.fixed;have d:=n.sl;have u:1<=c.sl:=by rw[d];have:=n.R;split<;>omega
 have v:c.sl*1<=c.sl*(qY c s.W:Int):=Int.mul_le_mul_of_nonneg_left (by omega) (by omega);have:=n.R;have:=n.Q;omega
theorem do2 (h:c.Ok)(E:c.mode≠3)(hi:Inv c s)(hc:IS B s)(hB:B<=2305843009213693952){a n:Int}:
  pc a n c.fixed c.tp c.sl c.ns c.mode c.R c.Q c.len c.words s.L s.p s.q s.c0 s.c1 s.c2 s.c3 s.z c.X c.T c.l c.k c.P c.tk (c.off 8:Int) c.ns (c.X.length:Int) s.lv s.pk c.words s.W=O (aL8 c (Fp c a n s)):=by
 have nm:=h.num;have J:=hi.w;have hL:=hi.L;have hp:=hi.p;have hq:=hi.q;have F:=hi.pk;have V:=h.ns;obtain⟨k0,k1,k2,k3⟩:=hc.in' hB;obtain⟨M,g2,N,g4⟩:=Mm h hi;have Z:=nm.tp;rw[zF E]at Z
 have g:(rm c s.W).length<1000000:=by
  rw[ul];rcases Nat.eq_zero_or_pos c.ns.toNat with h0|h0
  .omega
  .have:=(we h E h0).2.2;omega
 unfold pc qy;simp only[zG];rw[zA E,zD];unfold dp;rw[RN h E J (λk U=>by have:=hi.tag k U;omega)];simp only[zG];rw[Iu hL hp hq g (Om hi.tag)];simp only[zG,cv];rw[Vo hL hp hq (by omega)];simp only[zG];unfold aO3 Fp;by_cases H:px a n=Zb∨7<a
 .rw[zE H,zE H,zB (by simp),zC];rfl
 rw[zF H,zF H];obtain⟨h2,U⟩:=EY H;rw[ul,bB V.1];by_cases I:(2<=a/\a<=4)/\c.ns<=n
 .rw[zE I,zE I,zB (by simp),zC];rfl
 rw[zF I,zF I]
 have A:(2<=a/\a<=4)->n=((n.toNat:Nat):Int)/\n.toNat<c.ns.toNat/\rg (rm c s.W) n=mb c s.W n.toNat-1:=λhs=>by
  have hn:=EZ h2 ⟨by omega,hs.2⟩
  have u:n.toNat<c.ns.toNat:=by
   have: ¬c.ns<=n:=λh7=>I ⟨hs,h7⟩
   omega
  exact⟨by omega,u,aD7 hn.1 u⟩
 simp only[se,bh,lg,zG];have e: ∀l:Zd,l.length<1000000->gd (lz (0+l.length) 8) (O l)=O l:=λl hl=>de (by omega) (by omega)
 have C: ∀(i:Nat) (x:Int),((rm c s.W).set i x).length<1000000:=λi x=>by simp only[List.length_set];exact g
 rcases U with rfl|rfl|rfl|rfl|rfl|rfl|rfl
 .have hn:=EZ h2 (by omega);simp only[aD,reduceIte];by_cases d:s.L-s.p<n
  .rw[zE d,zE d,zB (by simp),zC];rfl
  rw[zF d,zF d,zA (by simp),zD,show ix 1 8=O 1 from rfl];simp only[zG,aB,WZ,WY,zC,zD];have D:n=((n.toNat:Nat):Int):=by omega
  have y:=aa7 h J (m:=n.toNat) (L:=s.L) (p:=s.p) (q:=s.q) (c0:=s.c0) (c1:=s.c1) (c2:=s.c2) (c3:=s.c3) (z:=s.z) (sb:=(c.off 8:Int)) (sn:=c.ns) (sx:=(c.X.length:Int)) (lv:=s.lv) (pk:=s.pk) (bd:=c.words) (by omega) (by omega) (by omega);rw[<-D]at y;rw[y];simp only[zG];rw[e _ g];rfl
 .obtain⟨D,u,K⟩:=A (by omega);simp only[aD,reduceIte];rw[K];by_cases d:0<=mb c s.W n.toNat-1
  .rw[zE d,zE d,zB (by simp),zC];rfl
  rw[zF d,zF d,zA (by simp),zD,show ix 2 8=O 2 from rfl];simp only[zG,aB,WZ,WY,zC,zD];have y:=aR0 h E hi u (by omega);rw[<-D]at y;rw[y];simp only[zG];rw[e _ (C _ _)];rfl
 .obtain⟨D,u,K⟩:=A (by omega);simp only[aD,reduceIte];rw[K];by_cases d:mb c s.W n.toNat-1<0
  .rw[zE d,zE d,zB (by simp),zC];rfl
  rw[zF d,zF d,zA (by simp),zD,show ix 3 8=O 3 from rfl];simp only[zG,aB,WZ,WY,zC,zD];have y:=an2 h E hi u (by omega);rw[<-D]at y;rw[y];simp only[zG];rw[e _ g];rfl
 .obtain⟨D,u,K⟩:=A (by omega);simp only[aD,reduceIte];rw[K];by_cases d:mb c s.W n.toNat-1<0
  .rw[zE d,zE d,zB (by simp),zC];rfl
  rw[zF d,zF d,zA (by simp),zD,show ix 4 8=O 4 from rfl];simp only[zG,aB,WZ,WY,zC,zD];have y:=aX3 h E hi u (by omega) (ag7 h hi (aq7 u (by omega)));rw[<-D]at y;rw[y];simp only[zG];rw[e _ (C _ _)];rfl
 .simp only[aD,reduceIte];by_cases d:s.q≠ -1
  .rw[zE d,zE d,zB (by simp),zC];rfl
  rw[zF d,zF d];by_cases v:s.p≠s.L
  .rw[zE v,zE v,zB (by simp),zC];rfl
  rw[zF v,zF v,zA (by simp),zD,show ix 5 8=O 5 from rfl];simp only[zG,aB,WZ,WY,zC,zD];rw[aZ1 h J M F.1 (by omega) N];simp only[zG];rw[e _ g,ae (n:=s.c2+1) (by omega),ae (n:=s.c3+1) (by omega)];rfl
 .simp only[aD,reduceIte];by_cases d:s.q≠ -1
  .rw[zE d,zE d,zB (by simp),zC];rfl
  rw[zF d,zF d];by_cases v:s.p≠s.L-1
  .rw[zE v,zE v,zB (by simp),zC];rfl
  rw[zF v,zF v,zA (by simp),zD,show ix 6 8=O 6 from rfl];simp only[zG,aB,WZ,WY,zC,zD];rw[aV7 h J M F.1 (by omega) N];simp only[zG];rw[e _ g,ae (n:=s.c1+1) (by omega),ae (n:=s.c2+1) (by omega),ae (n:=s.c3+1) (by omega),ae (n:=s.c3+1+1) (by omega)];rfl
 .simp only[aD,reduceIte];by_cases d:s.q<=0
  .rw[zE d,zE d,zB (by simp),zC];rfl
  rw[zF d,zF d];by_cases v:s.p≠s.q-1
  .rw[zE v,zE v,zB (by simp),zC];rfl
  rw[zF v,zF v,zA (by simp),zD,show ix 7 8=O 7 from rfl];simp only[zG,aB,WZ,WY,zC,zD];rw[bk0 h J M F.1 (by omega) N];simp only[zG];rw[e _ g,ae (n:=s.c1+1) (by omega),ae (n:=s.c3+1) (by omega)];rfl
end
end
section
open Go.IntKind renaming wrap -> zH, i64 -> zI, u64 -> zJ
open Int renaming reduceEq -> aB, le_max_left -> cB, toNat_natCast -> cD
open List renaming getD_eq_getElem?_getD -> aD, range -> bD, length_take -> dB, countP_append -> eD
open Nat renaming le_of_eq -> bB, le_refl -> dD
section
variable {c:Cx}
def dz (c:Cx)(W W':Zd):Prop:= ∀i,c.off 8<=i->W'[i]?=W[i]?
theorem dz.refl (W:Zd):dz c W W:=λ_ _=>rfl
theorem dz.trans {W'':Zd}(h:dz c W W')(d:dz c W' W''):dz c W W'':=λi hi=>(d i hi).trans (h i hi)
theorem dz.put (h:c.Ok)(d:dz c W W')(e:Wd c W')(hi:i<8)(y:w.length<=c.sz i):dz c W (put W' (c.off i) w):=λj g=>by
 have u:=i7 (c:=c) (i:=i) (j:=8) hi;have v:=e.in' h (i:=i) (by omega);rw[am1 (by omega) (.inr (by omega))];exact d j g
theorem dz.rg (h:dz c W W')(hi:c.off 8<=i):rg W' (i:Int)=rg W (i:Int):=by
 unfold Go.V.rg;rw[cD,aD,aD,h i hi]
theorem dz.tag (h:dz c W W')(k:Nat):mb c W' k=mb c W k:=h.rg (by unfold sp;omega)
theorem dz.used (h:dz c W W'):qY c W'=qY c W:=by
 unfold qY
 congr 1
 funext k
 rw[h.tag k]
theorem dz.seg (h:dz c W W'){n:Nat}(d:c.off 8<=o):seg W' o n=seg W o n:=by
 apply List.ext_getElem?;intro i;rw[CI,CI];split
 .exact h _ (by omega)
 .rfl
theorem NB (h:c.Ok)(e:Wd c W)(u:c.X.length+c.T.length<=a.length)(d:a.length<=max c.R.toNat c.Q.toNat):dz c W (BK c W a):=by
 obtain⟨v,g,y⟩:=rW h e u d;unfold BK;refine dz.put h (dz.put h (dz.put h (dz.refl W) e (by omega) ?_) v (by omega) ?_) g (by omega) ?_
 .exact d
 .rw[dB];exact Nat.min_le_left _ _
 .rw[xp,dw (n:=c.T.length) (g.in' h (i:=6) (by omega))];exact dD _
theorem Jq (h:c.Ok)(d:Wd c W)(g:x.length=c.X.length):dz c W (Kp c W x):=by
 have n:=h.num;have D:=n.R;have C:=n.Q;have A:=n.xtQ;have F:=n.x;have E:=n.m;obtain⟨y,e,u⟩:=CC h d g;obtain⟨v,J⟩:=EM h d g;obtain⟨_,H,I⟩:=uk h.pk e (a:=fill c.Q [1]) (t:=(lossR c W x).2.1) (ja (by simp;omega)) (bB u.symm) (by omega);exact(dz.put h (dz.refl W) d (i:=3) (by omega) (bB e)).trans (NB h v (by omega) (by omega))
theorem Td (h:c.Ok)(d:Wd c W)(e:r.length=c.R.toNat)(g:t.length=c.fl.n):dz c W (Ou c W r t):=by
 have n:=h.num;have A:=n.R;have y:=n.xtR;have D:=n.x;have C:=n.n;obtain⟨u,v⟩:=JU h d e g;obtain⟨_,E,F⟩:=uk h.pl e u (bB g.symm) (by omega);exact NB h d (by omega) (by omega)
theorem PF (h:c.Ok)(d:Wd c W)(p:Int):dz c W (put W (c.off 2) (stepR c W p).1):=
 dz.put h (dz.refl W) d (i:=2) (by omega) (bB (ly h d p).2.1)
theorem Ml (h:c.Ok)(d:Wd c W)(p:Int):dz c W (YL c W p)/\Wd c (YL c W p):=by
 obtain⟨v,e,g⟩:=ly h d p;have u:=Bj h d p;exact⟨(PF h d p).trans (Td h u e g),(JU h u e g).2⟩
theorem YU (h:c.Ok)(d:Wd c W)(p:Int):((stepR c W p).1.take c.X.length).length=c.X.length:=by
 have n:=h.num;have y:=n.R;have v:=n.xtR;obtain⟨e,g,u⟩:=ly h d p;rw[dB];omega
theorem Jp (h:c.Ok)(d:Wd c W)(p:Int):dz c W (Pk c W p)/\Wd c (Pk c W p):=by
 obtain⟨A,e,g⟩:=ly h d p;have v:=Bj h d p;have u:=YU h d p;have y:=(EM h v u).2;exact⟨((PF h d p).trans (Jq h v u)).trans (Td h y e g),(JU h y e g).2⟩
theorem af7 (h:c.Ok)(d:Wd c W)(p:Int):dz c W (adv1 c W p):=by
 obtain⟨_,e⟩:=GW h d p;obtain⟨g,u⟩:=QM h d p;refine dz.put h (dz.put h (dz.refl W) d (i:=2) (by omega) (bB e)) g (i:=1) (by omega) ?_;rw[dB];exact Nat.min_le_left _ _
theorem Mk (h:c.Ok){W:Zd}(d:Wd c W)(p:Int): ∀i,dz c W (advW c W p i)
 |0=>dz.refl W
 |i+1=>(Mk h d p i).trans (af7 h (Md h d p i) _)
theorem Gp {P P':Nat->Bool}{k:Nat}: ∀{n:Nat},k<n->P k=Zb->P' k=Za->(∀j,j<n->j≠k->P' j=P j)->(bD n).countP P'=(bD n).countP P+1
 |n+1,A,u,v,d=>by
  rw[List.range_succ,eD,eD];by_cases h:k=n
  .subst h
   have e:(bD k).countP P'=(bD k).countP P:=List.countP_congr λj y=>by
    have:=List.mem_range.1 y;rw[d j (by omega) (by omega)]
   rw[e];simp[u,v]
  .rw[Gp (n:=n) (by omega) u v λj y g=>d j (by omega) g];have:[n].countP P'=[n].countP P:=by simp[d n (by omega) (by omega)]
   omega
theorem Xn (h:j<k):sp c j+(c.X.length+1)<=sp c k:=by
 have d:(j+1)*(c.X.length+1)<=k*(c.X.length+1):=Nat.mul_le_mul_right _ h;rw[Nat.succ_mul]at d;unfold sp;omega
theorem Mv (d:sp c k+w.length<=W.length)(g:w.length=c.X.length+1)(e:j≠k):mb c (put W (sp c k) w) j=mb c W j:=by
 unfold mb rg;rw[cD,aD,aD,am1 d];rcases Nat.lt_or_ge j k with h|h
 .exact .inl (by have:=Xn (c:=c) h;omega)
 .exact .inr (by have:=Xn (c:=c) (show k<j by omega);omega)
theorem A5 (d:sp c k+w.length<=W.length)(e:w.length=c.X.length+1):mb c (put W (sp c k) w) k=w.getD 0 0:=by
 unfold mb rg;rw[cD,aD,aD,JH d,zE ⟨dD _,by omega⟩,Nat.sub_self]
theorem Gy {d:Dy}(hi:Inv c s)(y:Wd c d.W)(v:dz c s.W d.W)(h:d.L=s.L)(A:0<=d.p/\d.p<=s.L)(C: -1<=d.q/\d.q<=s.L)(e:d.lv=s.lv)(g:s.pk<=d.pk/\d.pk<=c.words):Inv c d:=
 ⟨y,by rw[h];exact hi.L,by rw[h];exact A,by rw[h];exact C,λk u=>by rw[v.tag,h];exact hi.tag k u,by rw[e,v.used];exact hi.lv,by rw[e];exact⟨Int.le_trans hi.pk.1 g.1,g.2⟩⟩
theorem av3 (h:c.Ok)(F:c.mode≠3)(hi:Inv c s)(a n:Int):Inv c (Fp c a n s).2:=by
 have nm:=h.num;have v:=hi.w;have hL:=hi.L;have E:=hi.p;have K:=hi.q;have H:=hi.pk;have hns:=h.ns;have nx:=nm.x;obtain⟨g1,g2,g3,g4⟩:=Mm h hi;have Z:=nm.tp;rw[zF F]at Z;have V:=nm.sl;rw[zF F]at V;have l1:(seg s.W (c.off 1) c.X.length).length=c.X.length:=dw (v.in' h (i:=1) (by omega));unfold Fp;by_cases M:px a n=Zb∨7<a
 .rw[zE M];exact hi
 rw[zF M];obtain⟨h2,hk⟩:=EY M;by_cases N:(2<=a/\a<=4)/\c.ns<=n
 .rw[zE N];exact hi
 rw[zF N]
 have C:(2<=a/\a<=4)->n.toNat<c.ns.toNat:=λhs=>by
  have hn:=EZ h2 ⟨by omega,hs.2⟩;have: ¬c.ns<=n:=λh7=>N ⟨hs,h7⟩
  omega
 rcases hk with rfl|rfl|rfl|rfl|rfl|rfl|rfl
 .have hn:=EZ h2 (by omega);simp only[aB,reduceIte];by_cases e:s.L-s.p<n
  .rw[zE e];exact hi
  .rw[zF e];exact Gy hi (Md h v _ _) (Mk h v _ _) rfl ⟨by show 0<=s.p+n;omega,by show s.p+n<=s.L;omega⟩ K rfl ⟨Int.le_refl _,H.2⟩
 .have d:=C (by omega);simp only[aB,reduceIte];by_cases e:0<=mb c s.W n.toNat-1
  .rw[zE e];exact hi
  rw[zF e];generalize n.toNat=k at*;obtain⟨s1,s2,s3⟩:=we h F d;obtain⟨t1,t2⟩:=v.tk h;have I:=hi.tag k d;have J:(zH zJ (zH zI (s.p+1))::seg s.W (c.off 1) c.X.length).length=c.X.length+1:=by simp[l1]
  have g:=A5 (c:=c) (W:=s.W) (k:=k) (w:=zH zJ (zH zI (s.p+1))::seg s.W (c.off 1) c.X.length) (by omega) J
  have hv:(zH zJ (zH zI (s.p+1))::seg s.W (c.off 1) c.X.length).getD 0 0=s.p+1:=by
   show zH zJ (zH zI (s.p+1))=_;rw[Zi,Zj]
  rw[hv]at g;have u: ∀j,j≠k->mb c (put s.W (sp c k) (zH zJ (zH zI (s.p+1))::seg s.W (c.off 1) c.X.length)) j=mb c s.W j:=λj y=>Mv (by omega) J y
  have U:=PK h hi (PA d (by omega))
  have hu:qY c (put s.W (sp c k) (zH zJ (zH zI (s.p+1))::seg s.W (c.off 1) c.X.length))=qY c s.W+1:=by
   unfold qY;exact Gp d (zA (by omega)) (zB (by rw[g];omega)) λj _ y=>by rw[u j y]
  refine⟨v.put h (by omega),hL,E,K,λj y=> ?_, ?_, ?_⟩
  .by_cases A:j=k
   .subst A;rw[g];show 0<=s.p+1/\s.p+1<=s.L+1;omega
   .rw[u j A];exact hi.tag j y
  .show s.lv+c.sl=c.fixed+c.sl*((qY c (put s.W (sp c k) _):Nat):Int);rw[hu,hi.lv];rw[show(((qY c s.W+1:Nat)):Int)=(qY c s.W:Int)+1 by omega,Int.mul_add,Int.mul_one,Int.add_assoc]
  .show s.lv+c.sl<=max s.pk (s.lv+c.sl)/\max s.pk (s.lv+c.sl)<=c.words;omega
 .have d:=C (by omega);simp only[aB,reduceIte];by_cases e:mb c s.W n.toNat-1<0
  .rw[zE e];exact hi
  rw[zF e];obtain⟨s1,s2,s3⟩:=we h F d;obtain⟨t1,t2⟩:=v.tk h;have I:=hi.tag _ d;have l2:(seg s.W (sp c n.toNat+1) c.X.length).length=c.X.length:=dw (by omega);have h1o:=i7 (c:=c) (i:=1) (j:=9) (by omega);have z1:c.sz 1=c.X.length:=rfl;exact Gy hi (v.put h (by rw[l2];omega)) (dz.put h (dz.refl s.W) v (i:=1) (by omega) (by rw[l2];exact dD _)) rfl ⟨by show 0<=mb c s.W n.toNat-1;omega,by show mb c s.W n.toNat-1<=s.L;omega⟩ K rfl ⟨Int.le_refl _,H.2⟩
 .have d:=C (by omega);simp only[aB,reduceIte];by_cases e:mb c s.W n.toNat-1<0
  .rw[zE e];exact hi
  rw[zF e];generalize n.toNat=k at*;obtain⟨s1,s2,s3⟩:=we h F d;obtain⟨t1,t2⟩:=v.tk h;have I:=hi.tag k d;have J:(cq (c.X.length+1)).length=c.X.length+1:=cg _;have g:=A5 (c:=c) (W:=s.W) (k:=k) (w:=cq (c.X.length+1)) (by omega) J;have hv:(cq (c.X.length+1)).getD 0 0=0:=rfl;rw[hv]at g;have u: ∀j,j≠k->mb c (put s.W (sp c k) (cq (c.X.length+1))) j=mb c s.W j:=λj y=>Mv (by omega) J y
  have hu:qY c s.W=qY c (put s.W (sp c k) (cq (c.X.length+1)))+1:=by
   unfold qY;exact Gp d (zA (by omega)) (zB (by omega)) λj _ y=>by rw[u j y]
  refine⟨v.put h (by omega),hL,E,K,λj y=> ?_, ?_, ?_⟩
  .by_cases A:j=k
   .subst A;rw[g];show(0:Int)<=0/\0<=s.L+1;omega
   .rw[u j A];exact hi.tag j y
  .show s.lv-c.sl=c.fixed+c.sl*((qY c (put s.W (sp c k) (cq (c.X.length+1))):Nat):Int);rw[hi.lv,hu];rw[show(((qY c (put s.W (sp c k) (cq (c.X.length+1)))+1:Nat)):Int)=(qY c (put s.W (sp c k) (cq (c.X.length+1))):Int)+1 by omega,Int.mul_add,Int.mul_one];omega
  .show s.lv-c.sl<=s.pk/\s.pk<=c.words;omega
 .simp only[aB,reduceIte];by_cases e:s.q≠ -1
  .rw[zE e];exact hi
  rw[zF e];by_cases D:s.p≠s.L
  .rw[zE D];exact hi
  rw[zF D];exact Gy hi (EM h v l1).2 (Jq h v l1) rfl E ⟨by show-1<=s.p;omega,E.2⟩ rfl ⟨cB _ _,by show max s.pk (s.lv+(c.fk.n:Int))<=c.words;omega⟩
 .simp only[aB,reduceIte];by_cases e:s.q≠ -1
  .rw[zE e];exact hi
  rw[zF e];by_cases D:s.p≠s.L-1
  .rw[zE D];exact hi
  rw[zF D];exact Gy hi (Jp h v s.p).2 (Jp h v s.p).1 rfl E ⟨by show-1<=s.p;omega,E.2⟩ rfl ⟨cB _ _,by show max s.pk (s.lv+((c.fl.n:Int)+c.fk.n))<=c.words;omega⟩
 .simp only[aB,reduceIte];by_cases e:s.q<=0
  .rw[zE e];exact hi
  rw[zF e];by_cases D:s.p≠s.q-1
  .rw[zE D];exact hi
  rw[zF D];exact Gy hi (Ml h v s.p).2 (Ml h v s.p).1 rfl E ⟨by show-1<=s.p;omega,E.2⟩ rfl ⟨cB _ _,by show max s.pk (s.lv+(c.fl.n:Int))<=c.words;omega⟩
theorem av2 (g:IS B s)(a n:Int):IS (B+65536) (Fp c a n s).2:=by
 have d:IS (B+65536) s:=by unfold IS at g⊢;omega
 unfold Fp;by_cases e:px a n=Zb∨7<a
 .rw[zE e];exact d
 rw[zF e];obtain⟨h,v⟩:=EY e;split
 .exact d
 split
 .rename_i u;have y:=EZ h (by omega);split
  .exact d
  .unfold IS at g⊢;simp only;omega
 repeat' split
 all_goals first|exact d|(unfold IS at g⊢;simp only;omega)
end
end
section
open Nat renaming add_sub_cancel_left -> aB, le_add_right -> aD
theorem XF (h:j<t.length):(t++r)[0+j]?=O (rg t (j:Int)):=by
 rw[Nat.zero_add,List.getElem?_append_left h,lm h]
theorem Kb (h:j<r.length):(t++r)[t.length+j]?=O (rg r (j:Int)):=by
 rw[List.getElem?_append_right (aD _ _),aB,lm h]
theorem XG {v:Int}:(t++r).set (t.length+j) v=t++r.set j v:=by
 rw[List.set_append_right _ _ (aD _ _),aB]
def stK (t:Zd)(p d:Nat)(l:Nat->Int)(s:BS):Int×Int×Int×(Zd)×(Zd)×Int×Int×Int×Int×Int×Int×Int×Int:=
 ((p:Int)-1,(d:Int),(s.2.2:Int),t++s.1,s.2.1,l 0,l 1,l 2,l 3,l 4,l 5,l 6,l 7)
theorem aK9 {code:List xI}(D:code.length<=8192){R:Int}(hR:1<=R/\R<=64){e0 e1:Int}(hN:t.length<=1000000)(hw:w.length=t.length+R.toNat):Backs (dq R (e0,w) (e1,code)) code (stK t) (tx t) (VdB R.toNat t.length) (OB R.toNat)where
 op:=by
  intro p d l s m o C h hg A g F;obtain⟨I,v⟩:=md D h;obtain⟨v1,v2,v3,v4⟩:=F;obtain⟨q1,q2⟩:=JG o s.1 s.2.1 (rg t ((s.2.2-1:Nat):Int));refine⟨?_,by unfold tx;exact⟨by simp[v1,q1],by simp[v2,q2],by show m<=s.2.2-1;omega,by show s.2.2-1<=_;omega⟩⟩;obtain⟨u,H,J,e1,N,U,V,Z,g3⟩:=vw hg;unfold stK tx;simp only[dq];rw[show((p+1:Nat):Int)-1=(p:Int)by omega,Ze,zD,v];simp only[zG];rw[h];simp only[zG,ci];rw[Ze,zD,Ze,zD];simp only[Fw,zG];rw[ae (n:=(s.2.2:Int)-1) (by omega),show(s.2.2:Int)-1=((s.2.2-1:Nat):Int)by omega,ae (n:=(w.length:Int)-R) (by omega),show((w.length:Int)-R).toNat=t.length by omega,show((w.length:Int)).toNat-t.length=R.toNat by omega,Nat.sub_zero];have M:s.2.2-1<t.length:=by omega
  generalize s.2.2-1=n at*;unfold GJ;simp only[e1,N,U,Int.toNat_natCast];rw[bm (show u<s.2.1.length by omega)];simp only[zG];rw[lm (show u<s.2.1.length by omega)];simp only[zG];rw[bm M];simp only[zG];rw[XF M];simp only[zG];rw[bm V];simp only[zG];rw[Kb (show u<s.1.length by omega)];simp only[zG];rw[bm Z];simp only[zG];rw[XG];have E: ∀x:Int,(s.1.set u x).length=s.1.length:=by simp
  have ha1:(s.2.1.set u 0).length=s.2.1.length:=by simp
  rw[Kb (show H<(s.1.set u (rg t (n:Int))).length by rw[E];omega)];simp only[zG];rw[bm g3];simp only[zG];rw[Kb (show J<(s.1.set u (rg t (n:Int))).length by rw[E];omega)];simp only[zG];rw[bm (show H<(s.2.1.set u 0).length by omega)];simp only[zG];rw[lm (show H<(s.2.1.set u 0).length by omega)];simp only[zG];generalize hP:YD o _ _=P;generalize hA:(s.2.1.set u 0).set H _=A2;have hA2:A2.length=s.2.1.length:=by rw[<-hA];simp
  rw[bm (show J<A2.length by omega)];simp only[zG];rw[lm (show J<A2.length by omega)];simp only[zG];rw[ae (n:=(p:Int)-1) (by omega)]
 rep:=by
  intro p q d l s m o e C h A K g F;obtain⟨I,v⟩:=md D h;obtain⟨h3,h4⟩:=md D K;unfold stK;simp only[dq];rw[show((p+1:Nat):Int)-1=(p:Int)by omega,Ze,zD,v];simp only[zG];rw[h];simp only[zG,ci];rw[zB A,zC,ae (n:=((q+1:Nat):Int)-1) (by omega),show((q+1:Nat):Int)-1=(q:Int)by omega,h4];simp only[zG];rw[K];simp only[zG,ci];rw[bm g];simp only[zG];rw[ae (n:=(p:Int)-1) (by omega),ae (n:=(d:Int)+1) (by omega)];rfl
 nxt:=by
  intro p d l s m o C h hto A g hl hl2 F;obtain⟨I,v⟩:=md D h;have y:=AF (upd l d (l d-1)) g;rw[rQ]at y;unfold upd at y;unfold stK;simp only[dq];rw[show((p+1:Nat):Int)-1=(p:Int)by omega,Ze,zD,v];simp only[zG];rw[h];simp only[zG,ci];rw[Ze,zD,zB A,zC,ae (n:=((d+1:Nat):Int)-1) (by omega),show((d+1:Nat):Int)-1=(d:Int)by omega,bm g];simp only[zG];rw[AF l g,Zj,y,Zf,zC];rw[ae (n:=((C+1:Nat):Int)-2) (by omega),show((C+1:Nat):Int)-2=(C:Int)-1 by omega];rfl
 out:=by
  intro p d l s m o C h A g hl F;obtain⟨I,v⟩:=md D h;have y:=AF (upd l d (l d-1)) g;rw[rQ]at y;unfold upd at y;unfold stK;simp only[dq];rw[show((p+1:Nat):Int)-1=(p:Int)by omega,Ze,zD,v];simp only[zG];rw[h];simp only[zG,ci];rw[Ze,zD,zB A,zC,ae (n:=((d+1:Nat):Int)-1) (by omega),show((d+1:Nat):Int)-1=(d:Int)by omega,bm g];simp only[zG];rw[AF l g,Zj,y,Ze,zD,ae (n:=(p:Int)-1) (by omega)];rfl
section
variable {R:Int} {l:List bg} {f:Fo}
theorem VG (h:Prg R l f){e0 e1:Int}(J:r.length=R.toNat)(H:a.length=R.toNat)(K:f.n<=t.length)(u:t.length<=1000000)(M:w.length=t.length+R.toNat):
  ∃b0 b1 b2 b3 y C D E,aw (dq R (e0,w) (e1,f.bare.code 0)) gv (IntKind.i64.wrap (((f.bare.code 0).length:Int)-1),0,(f.n:Int),t++r,a,0,0,0,0,0,0,0,0)=O (t++(ny f r a t).1,(ny f r a t).2.1,b0,b1,b2,b3,y,C,D,E):=by
 obtain⟨g,_,v,F⟩:=Jb (m:=0) (l:=λ_=>0) (s:=((r,a,f.n):BS)) (d:=0) (p:=0) (A:=[]) (B:=[]) (M0 (aK9 (e0:=e0) (e1:=e1) (t:=t) h.clen h.R1 u M)) f.bare (by simp) rfl (Fo.bare_ok f h.ok) f.bare_pos h.hi h.good ⟨J,H,by rw[Fo.bare_n];exact Nat.le_refl _,K⟩;rw[Fo.bare_unroll]at v F;have I:=h.clen;rw[Fo.code_len]at I
 have:=uD v h.steps (c:=(t++(ny f r a t).1,(ny f r a t).2.1,g 0,g 1,g 2,g 3,g 4,g 5,g 6,g 7)) (by
  unfold stK;simp only[dq];rw[Zf,zC]
  rfl)
 have e:stK t (0+f.bare.len) 0 (λ_=>0) ((r,a,f.n):BS)=(IntKind.i64.wrap (((f.bare.code 0).length:Int)-1),0,(f.n:Int),t++r,a,0,0,0,0,0,0,0,0):=by
  unfold stK;rw[Fo.code_len,Zi,Nat.zero_add];rfl
 rw[e]at this;exact⟨_,_,_,_,_,_,_,_,this⟩
end
end
section
open Bool renaming not_true -> aB
open Int renaming toNat_of_nonneg -> aD, mul_le_mul_of_nonneg_left -> bB
open List renaming length_append -> bD, length_take -> cB
section
variable {c:Cx}
def ob (c:Cx)(i:Nat):Nat:=c.off 8+i*c.sl.toNat
def sX (s:Dy):Int:=if s.q<0 then s.p else s.q
structure InvB (c:Cx)(s:Dy):Prop where
 w:Wd c s.W
 L:s.L=c.len
 p:0<=s.p/\s.p<=s.L
 q: -1<=s.q/\s.q<=s.L
 qp:0<=s.q->s.p=s.q
 lv:s.lv=c.fixed+c.sl*sX s
 pk:s.lv<=s.pk/\s.pk<=c.words
def zU (c:Cx)(W:Zd)(i:Nat):Zd:=seg W (ob c i) c.fl.n
def CH (c:Cx)(W:Zd)(i:Nat):Zd:=seg W (ob c i+c.fl.n) c.R.toNat
def AE (c:Cx)(W:Zd)(i:Nat):BS:=ny c.fl (CH c W i) (fill c.R (seg W (c.off 5) c.X.length)) (zU c W i)
def HA (c:Cx)(a n:Int)(s:Dy):Int×Dy:=
 if a=8 then(if n≠0 then(2,s)else if 0<=s.q then(18,s)else if s.p=s.L then(17,s)else
  (0,{s with p:=s.p+1,c1:=s.c1+1,lv:=s.lv+c.sl,pk:=max s.pk (s.lv+c.sl),W:=put (put (put s.W (c.off 2) (stepR c s.W s.p).1) (ob c s.p.toNat) ((stepR c s.W s.p).2.1++(stepR c s.W s.p).1)) (c.off 1) ((stepR c s.W s.p).1.take c.X.length)}))
 else if a=5 then(if n≠0 then(2,s)else if 0<=s.q then(18,s)else if s.p≠s.L then(17,s)else
  (0,{s with q:=s.L,c2:=s.c2+1,c3:=s.c3+1,z:=rg (lossR c s.W (seg s.W (c.off 1) c.X.length)).1 0,pk:=max s.pk (s.lv+c.fk.n),W:=Kp c s.W (seg s.W (c.off 1) c.X.length)}))
 else if a=9 then(if n≠0 then(2,s)else if s.q<1 then(18,s)else
  (0,{s with p:=s.q-1,q:=s.q-1,c3:=s.c3+1,lv:=s.lv-c.sl,W:=put (BK c s.W (AE c s.W (s.q-1).toNat).2.1) (c.off 1) ((AE c s.W (s.q-1).toNat).1.take c.X.length)}))
 else(2,s)
theorem DX (h:c.Ok)(v:c.mode=3)(hi:i<c.ns.toNat):c.sl.toNat=c.fl.n+c.R.toNat/\c.sl=(c.fl.n:Int)+c.R/\ob c i+c.sl.toNat<=c.off 9/\c.off 8<=ob c i:=by
 have n:=h.num;have g:=n.sl;rw[zE v]at g;have d:=h.ns;have A:=n.R
 have e:(c.sl*c.ns).toNat=c.ns.toNat*c.sl.toNat:=by
  have:c.sl*c.ns=((c.ns.toNat*c.sl.toNat:Nat):Int):=by
   rw[Int.natCast_mul,aD d.1,aD (by omega),Int.mul_comm]
  rw[this];rfl
 have y:c.off 9=c.off 8+c.ns.toNat*c.sl.toNat:=by rw[Tt,e]
 have u:(i+1)*c.sl.toNat<=c.ns.toNat*c.sl.toNat:=Nat.mul_le_mul_right _ hi;rw[Nat.succ_mul]at u;unfold ob;omega
theorem Um (h:c.Ok)(g:c.mode=3)(hi:i<c.ns.toNat){a17:Int}{k:List bg}{b0 b1 b2 b3:Int}:nq (i:Int) a0 a1 c.sl a4 a5 a6 a7 a8 a9 a10 a11 a12 a13 a14 a15 a16 a17 X T l k c.P b0 b1 b2 b3 W=O (ob c i:Int):=by
 obtain⟨u,v,d,y⟩:=DX h g hi;have A:=h.off9_le;have n:=h.num;have C:=n.words;have D:=n.R;unfold nq;rw[show ix 8 c.P.length=O 8 from bm (k:=8) (by rw[Cx.P_len];omega)];simp only[zG];rw[Cx.P_get (show 8<10 by omega)];simp only[zG];have e:(i:Int)*c.sl=((i*c.sl.toNat:Nat):Int):=by rw[Int.natCast_mul,aD (by omega)]
 unfold ob at d;rw[e,ae (n:=((i*c.sl.toNat:Nat):Int)) (by omega),Zi];unfold ob
 congr 1
theorem ag6 (h:c.Ok)(u:c.mode=3)(hi:InvB c s):0<=s.lv/\s.lv+c.tp<=c.words/\c.words<=1048576/\0<=c.tp/\(sX s<c.ns->s.lv+c.sl<=c.words)/\(0<sX s->c.sl<=s.lv)/\c.ns=s.L:=by
 have n:=h.num;have C:=hi.lv;have D:=h.fit;have E:=n.fixed;have F:=h.ns;have y:=n.sl;rw[zE u]at y;have V:=n.R;have U:=n.Q;have Z:=n.words;have K:=h.base u;have J:=hi.L;have M:=hi.p;have N:=hi.q;have g:0<=sX s/\sX s<=c.ns:=by unfold sX;split<;>omega
 have H:1<=c.sl:=by omega
 have e:c.sl*sX s<=c.sl*c.ns:=bB g.2 (by omega);have I:0<=c.sl*sX s:=Int.mul_nonneg (by omega) g.1;have d:0<=c.tp:=by rw[n.tp];split<;>omega
 refine⟨by omega,by omega,by omega,d,λA=> ?_,λv=> ?_,by omega⟩
 .have e:c.sl*(sX s+1)<=c.sl*c.ns:=bB (by omega) (by omega);rw[Int.mul_add,Int.mul_one]at e;omega
 .have e:c.sl*1<=c.sl*sX s:=bB (by omega) (by omega);omega
theorem Lc (h:c.Ok)(A:c.mode=3)(v:Wd c W)(hi:i<c.ns.toNat):
  seg W (ob c i) c.sl.toNat=zU c W i++CH c W i/\(zU c W i).length=c.fl.n/\(CH c W i).length=c.R.toNat/\(fill c.R (seg W (c.off 5) c.X.length)).length=c.R.toNat/\(AE c W i).1.length=c.R.toNat/\(AE c W i).2.1.length=c.R.toNat:=by
 obtain⟨E,F,H,I⟩:=DX h A hi;obtain⟨U,V⟩:=v.tk h;have n:=h.num;have M:=n.R;have K:=n.xtR;have N:=n.n;have J:(seg W (c.off 5) c.X.length).length=c.X.length:=dw (v.in' h (i:=5) (by omega));have e:(zU c W i).length=c.fl.n:=dw (by omega);have g:(CH c W i).length=c.R.toNat:=dw (by omega);have u:(fill c.R (seg W (c.off 5) c.X.length)).length=c.R.toNat:=ja (by omega);obtain⟨_,C,D⟩:=uk h.pl g u (t:=zU c W i) (Nat.le_of_eq e.symm) (by omega);refine⟨?_,e,g,u,C,D⟩;apply List.ext_getElem?;intro j;rw[CI];by_cases y:j<c.fl.n
 .rw[Zg,List.getElem?_append_left (by omega)];unfold zU;rw[CI,zE y]
 .rw[List.getElem?_append_right (by omega),e];unfold CH;rw[CI];by_cases d:j<c.sl.toNat
  .rw[zE d,Zg]
   congr 1
   omega
  .rw[zF d,Zh]
theorem plain1 (h:c.Ok)(H:c.mode=3)(hi:InvB c s)(hc:IS B s)(hB:B<=2305843009213693952){a n:Int}:
  qI a n c.fixed c.tp c.sl c.ns c.mode c.R c.Q c.len c.words s.L s.p s.q s.c0 s.c1 s.c2 s.c3 s.z c.X c.T c.l c.k c.P c.tk s.lv s.pk c.words s.W=O (aL8 c (HA c a n s)):=by
 have I:=h.num;have D:=hi.w;have hL:=hi.L;have hp:=hi.p;have hq:=hi.q;have K:=hi.pk;have hns:=h.ns;have nR:=I.R;have n1:=I.xtR;have nx:=I.x;have nt:=I.t;have nn:=I.n;have nlen:=I.len;obtain⟨k0,k1,k2,k3⟩:=hc.in' hB;obtain⟨g1,g2,g3,g4,g5,g6,g7⟩:=ag6 h H hi;have htp:=I.tp;rw[zE H]at htp;obtain⟨t1,t2⟩:=D.tk h;unfold qI HA;by_cases a8:a=8
 .subst a8;rw[zB (show(8:Int)=8 from rfl),zA (show¬(8:Int)=5 by decide)];simp only[zC,zG,aB,zD,reduceIte];by_cases e:n≠0
  .rw[zE e,zB e];rfl
  rw[zF e,zA e];simp only[zD,zG];by_cases d:0<=s.q
  .rw[zE d,zB d];rfl
  rw[zF d,zA d];simp only[zD,zG];by_cases u:s.p=s.L
  .rw[zE u,zB u];rfl
  rw[zF u,zA u];simp only[BEq.rfl,aB,zD,zG,cv];have y:sX s=s.p:=by unfold sX;rw[Zg]
  have A:s.p.toNat<c.ns.toNat:=by omega
  have N:s.p=((s.p.toNat:Nat):Int):=by omega
  obtain⟨s1,s2,M,s4⟩:=DX h H A;obtain⟨f1,f2,f3⟩:=ly h D s.p;have w1:=Bj h D s.p;have U:=g5 (by rw[y];omega);rw[ug (by omega) g1 U (by omega)];simp only[zG];rw[aR3 h D];simp only[zG];have C:=Um h H A (a0:=c.fixed) (a1:=c.tp) (a4:=c.ns) (a5:=c.mode) (a6:=c.R) (a7:=c.Q) (a8:=c.len) (a9:=c.words) (a10:=s.L) (a11:=s.p) (a12:=s.q) (a13:=s.c0) (a14:=IntKind.i64.wrap (s.c1+1)) (a15:=s.c2) (a16:=s.c3) (a17:=s.z) (X:=c.X) (T:=c.T) (l:=c.l) (k:=c.k) (b0:=c.tk) (b1:=s.lv+c.sl) (b2:=max s.pk (s.lv+c.sl)) (b3:=c.words) (W:=put s.W (c.off 2) (stepR c s.W s.p).1);rw[<-N]at C;rw[C];simp only[zG];have J:((stepR c s.W s.p).2.1++(stepR c s.W s.p).1).length=c.sl.toNat:=by rw[bD];omega
  rw[de (by omega) (by omega)];obtain⟨u1,u2⟩:=w1.tk h;unfold Cx.tk;rw[vT (by rw[J];exact M) u1 u2];simp only[zG];rw[Zk,dh,show((c.X.length:Int)).toNat-0=c.X.length by omega,List.drop_zero,show((c.off 9:Nat):Int)=c.tk from rfl,put1 (ii:=1) (i:=1) h (w1.put h (by rw[J];exact M)) rfl (by omega) (by rw[cB,show c.sz 1=c.X.length from rfl];omega)];simp only[zG];rw[ae (n:=s.p+1) (by omega),ae (n:=s.c1+1) (by omega)];rfl
 rw[zA a8,zF a8];simp only[zD,zG];by_cases a5:a=5
 .subst a5;rw[zB (show(5:Int)=5 from rfl)];simp only[zC,aB,zD,reduceIte];by_cases e:n≠0
  .rw[zE e,zB e];rfl
  rw[zF e,zA e];simp only[zD,zG];by_cases d:0<=s.q
  .rw[zE d,zB d];rfl
  rw[zF d,zA d];simp only[zD,zG];by_cases u:s.p≠s.L
  .rw[zE u,zA u];rfl
  rw[zF u,zB (show s.p=s.L by omega)];simp only[BEq.rfl,aB,zD,zG,cv];rw[aZ0 h D g1 K.1 (by omega) g3];simp only[zG];rw[ae (n:=s.c2+1) (by omega),ae (n:=s.c3+1) (by omega)];rfl
 rw[zA a5,zF a5];simp only[zD,Bool.not_false,zC];by_cases a9:a=9
 .subst a9;rw[zA (show¬((9:Int)≠9)from λk=>k rfl)];simp only[reduceIte];by_cases e:n≠0
  .rw[zE e,zB e];rfl
  rw[zF e,zA e];simp only[zD,zG];by_cases E:s.q<1
  .rw[zE E,zB E];rfl
  rw[zF E,zA E];simp only[zD,zG,cv];have y:sX s=s.q:=by unfold sX;rw[Zh]
  have A:(s.q-1).toNat<c.ns.toNat:=by omega
  have N:s.q-1=(((s.q-1).toNat:Nat):Int):=by omega
  obtain⟨s1,s2,M,s4⟩:=DX h H A;obtain⟨b1,b2,b3,b4,b5,b6⟩:=Lc h H D A;rw[ae (n:=s.q-1) (by omega)];have C:=Um h H A (a0:=c.fixed) (a1:=c.tp) (a4:=c.ns) (a5:=c.mode) (a6:=c.R) (a7:=c.Q) (a8:=c.len) (a9:=c.words) (a10:=s.L) (a11:=s.q-1) (a12:=s.q-1) (a13:=s.c0) (a14:=s.c1) (a15:=s.c2) (a16:=s.c3) (a17:=s.z) (X:=c.X) (T:=c.T) (l:=c.l) (k:=c.k) (b0:=c.tk) (b1:=s.lv) (b2:=s.pk) (b3:=c.words) (W:=s.W);rw[<-N]at C;rw[C];simp only[zG]
  have hrd:gc (ob c (s.q-1).toNat:Int) c.sl c.tk s.W=O (0,zU c s.W (s.q-1).toNat++CH c s.W (s.q-1).toNat):=by
   have:=EE (W:=s.W) (o:=ob c (s.q-1).toNat) (n:=c.sl.toNat) M t1 t2;rw[aD (by omega),b1]at this;exact this
  rw[hrd];simp only[zG];generalize (s.q-1).toNat=i at*;have F:(zU c s.W i++CH c s.W i).length=c.fl.n+c.R.toNat:=by rw[bD];omega
  have hwr:IntKind.i64.wrap (((zU c s.W i++CH c s.W i).length:Int)-c.R)=(c.fl.n:Int):=by rw[F,Zi];omega
  simp only[hwr];rw[Zk,dh,Zk,dh,S9 (ii:=5) (i:=5) h D rfl (by omega)];simp only[zG];have l5:(seg s.W (c.off 5) c.X.length).length=c.X.length:=dw (D.in' h (i:=5) (by omega));rw[show c.sz 5=c.X.length from rfl,My nR (by omega)];simp only[zG];rw[DG h.pl,h.pl.writes];simp only[zG];rw[zA (show¬((0:Int)≠0)by simp),zD];rw[zA (show¬((((((zU c s.W i++CH c s.W i).length:Int)).toNat-((c.fl.n:Int)).toNat:Nat):Int)≠c.R)by omega),zD,zA (show¬(((fill c.R (seg s.W (c.off 5) c.X.length)).length:Int)≠c.R)by omega),zD,zA (show¬(((((c.fl.n:Int)).toNat-0:Nat):Int)<(c.fl.n:Int))by omega),zD];obtain⟨z0,z1,z2,z3,z4,z5,z6,z7,hz⟩:=VG h.pl (e0:=0) (e1:=0) (t:=zU c s.W i) (r:=CH c s.W i) (a:=fill c.R (seg s.W (c.off 5) c.X.length)) (w:=zU c s.W i++CH c s.W i) b3 b4 (Nat.le_of_eq b2.symm) (by omega) (by rw[F,b2])
  rw[hz];simp only[zG];have eK:ny c.fl (CH c s.W i) (fill c.R (seg s.W (c.off 5) c.X.length)) (zU c s.W i)=AE c s.W i:=rfl;rw[eK];generalize AE c s.W i=v at*;obtain⟨v1,v2,v3⟩:=rW h (a:=v.2.1) D (by omega) (by omega);rw[put1 (ii:=4) (i:=4) h D rfl (by omega) (by rw[show c.sz 4=max c.R.toNat c.Q.toNat from rfl];omega)];simp only[zG];rw[Zk,dh,show((c.X.length:Int)).toNat-0=c.X.length by omega,List.drop_zero,put1 (ii:=5) (i:=5) h v1 rfl (by omega) (by rw[cB,show c.sz 5=c.X.length from rfl];omega)];simp only[zG];rw[S9 (ii:=6) (i:=6) h v2 rfl (by omega)];simp only[zG];rw[show c.sz 6=c.T.length from rfl];have hg:(seg (put (put s.W (c.off 4) v.2.1) (c.off 5) (v.2.1.take c.X.length)) (c.off 6) c.T.length).length=c.T.length:=dw (v2.in' h (i:=6) (by omega));rw[I7 (f:=vF c.X v.2.1 _) (X:=c.X) (a:=v.2.1) (g:=seg (put (put s.W (c.off 4) v.2.1) (c.off 5) (v.2.1.take c.X.length)) (c.off 6) c.T.length) (by omega) (by omega) (by omega) (λs=>rfl)]
  simp only[zG];rw[put1 (ii:=6) (i:=6) h v2 rfl (by omega) (by rw[xp,hg];exact Nat.le_refl _)];simp only[zG];have Z:(zU c s.W i++v.1).length=c.fl.n+c.R.toNat:=by rw[bD];omega
  rw[ae (n:=(c.fl.n:Int)+(c.X.length:Int)) (by omega),Zk,dh,show((c.fl.n:Int)+(c.X.length:Int)).toNat-((c.fl.n:Int)).toNat=c.X.length by omega,Int.toNat_natCast];have V:(zU c s.W i++v.1).drop c.fl.n=v.1:=List.drop_left' b2;rw[V];have eB:put (put (put s.W (c.off 4) v.2.1) (c.off 5) (v.2.1.take c.X.length)) (c.off 6) (BJ c.X.length (seg (put (put s.W (c.off 4) v.2.1) (c.off 5) (v.2.1.take c.X.length)) (c.off 6) c.T.length) v.2.1)=BK c s.W v.2.1:=rfl;rw[eB,put1 (ii:=1) (i:=1) h v3 rfl (by omega) (by rw[cB,show c.sz 1=c.X.length from rfl];omega)];simp only[zG];rw[yu (by omega) (g6 (by rw[y];omega)) K.1 (by omega)];simp only[zG];rw[ae (n:=s.c3+1) (by omega)];rfl
 rw[zF a9,zB a9];by_cases e:n≠0
 .rw[zB e];rfl
 .rw[zA e];rfl
theorem do1 (h:c.Ok)(d:c.mode=3)(hi:InvB c s)(g:IS B s)(e:B<=2305843009213693952){a n:Int}:
  tB a n c.fixed c.tp c.sl c.ns c.mode c.R c.Q c.len c.words s.L s.p s.q s.c0 s.c1 s.c2 s.c3 s.z c.X c.T c.l c.k c.P c.tk s.lv s.pk c.words s.W=O (aL8 c (HA c a n s)):=by
 unfold tB ib;simp only[zG];rw[zB d,zC,plain1 h d hi g e];rfl
end
end
section
open Int renaming le_refl -> aB, mul_comm -> bB
open List renaming getElem?_replicate -> cB
open Nat renaming le_refl -> aD, zero_add -> bD
theorem KH {x t:Nat}{R:Int}{k:List bg}{n:Int}(u:OpsOk l)(g:OpsOk k)(h:(pm m x t R l Q k n b).2.2.2.2=0):
  Cf m x t R l Q k n b=0/\∃e,pm m x t R l Q k n b=(xM x t R Q,tK m l k,rY m x R l,e,0)/\(0<=e/\e<=1048576)/\xM x t R Q+tK m l k+rY m x R l*e<=b/\(m=3->e=n):=by
 unfold pm at h⊢;by_cases d:Cf m x t R l Q k n b≠0
 .rw[zE d]at h;exact(d h).elim
 rw[zF d]at h⊢;have d:Cf m x t R l Q k n b=0:=by omega
 have s:=RL u g d;have f:=KA u g d;have D:=f.mode;have E:=f.len;have F:=f.bud;have H:=s.xs;have I:=s.ts;have J:=s.r;have K:=s.r';have M:=s.tp;have N:=s.sl;have C:0<=xM x t R Q/\xM x t R Q<=1000:=by unfold xM;omega
 split at h
 .cases h
 rename_i c;rw[zF c];refine⟨d,_,rfl, ?_, ?_,λv=>zE v⟩
 .split
  .omega
  .rename_i c3;unfold least at c;rw[zF c3]at c;have A:(b-xM x t R Q-tK m l k) / rY m x R l<=b-xM x t R Q-tK m l k:=Int.ediv_le_self _ (by omega);have y:0<=(b-xM x t R Q-tK m l k) / rY m x R l:=Int.ediv_nonneg (by omega) (by omega);omega
 .unfold least at c;split
  .rename_i c3;rw[zE c3,bB]at c;omega
  .rename_i c3;rw[zF c3]at c;have:=Int.mul_ediv_self_le (x:=b-xM x t R Q-tK m l k) (k:=rY m x R l) (by omega);omega
theorem bi9 {R:Int}{k:List bg}{n:Int}(u:OpsOk l)(g:OpsOk k)(h:(pm m X.length T.length R l Q k n b).2.2.2.2=0):
  ∃c:Cx,c.Ok/\c.mode=m/\c.X=X/\c.T=T/\c.R=R/\c.l=l/\c.Q=Q/\c.k=k/\c.len=n/\c.words=b/\pm m X.length T.length R l Q k n b=(c.fixed,c.tp,c.sl,c.ns,0):=by
 obtain⟨v,ns,C,D,E,F⟩:=KH u g h;obtain⟨H,I⟩:=YC (Ho v).1;obtain⟨A,e⟩:=al8 u H;obtain⟨y,d⟩:=al8 g I;exact⟨⟨m,R,Q,n,b,X,T,l,k,A,y,xM X.length T.length R Q,tK m l k,rY m X.length R l,ns⟩,⟨u,g,v,e,d,rfl,rfl,rfl,D,E,F⟩,rfl,rfl,rfl,rfl,rfl,rfl,rfl,rfl,rfl,C⟩
section
variable {c:Cx}
theorem Cx.Ok.plan (h:c.Ok):pm c.mode c.X.length c.T.length c.R c.l c.Q c.k c.len c.words=(c.fixed,c.tp,c.sl,c.ns,0)->pV c.mode c.X c.T c.R c.l c.Q c.k c.len c.words=O (c.fixed,c.tp,c.sl,c.ns,0):=λe=>by
 rw[HB h.hl h.hk,e]
theorem aD2 (h:c.Ok): ∀i,i<10->pre [((c.T.length:Nat):Int),((c.X.length:Nat):Int),c.R,c.Q,max c.R c.Q,((c.X.length:Nat):Int),((c.T.length:Nat):Int),c.tp,c.sl*c.ns] i=(c.off i:Int):=by
 have n:=h.num;have v:=n.R;have u:=n.Q;have y:=n.mul;have e:0<=c.tp:=by rw[n.tp];split<;>omega
 have d: ∀i,i<9->([((c.T.length:Nat):Int),((c.X.length:Nat):Int),c.R,c.Q,max c.R c.Q,((c.X.length:Nat):Int),((c.T.length:Nat):Int),c.tp,c.sl*c.ns]:Zd).getD i 0=(c.sz i:Int):=λi hi=>by
  rcases(show i=0∨i=1∨i=2∨i=3∨i=4∨i=5∨i=6∨i=7∨i=8 by omega)with rfl|rfl|rfl|rfl|rfl|rfl|rfl|rfl|rfl
  .rfl
  .rfl
  .show c.R=(c.R.toNat:Int);omega
  .show c.Q=(c.Q.toNat:Int);omega
  .show max c.R c.Q=((max c.R.toNat c.Q.toNat:Nat):Int);omega
  .rfl
  .rfl
  .show c.tp=(c.tp.toNat:Int);omega
  .show c.sl*c.ns=((c.sl*c.ns).toNat:Int);omega
 intro i;induction i with
 |zero=>intro _;rfl
 |succ i g=>
  intro hi;simp only[pre];rw[g (by omega),d i (by omega)];show(c.off i:Int)+(c.sz i:Int)=((c.off i+c.sz i:Nat):Int);omega
theorem VF (h:c.Ok)(e:pm c.mode c.X.length c.T.length c.R c.l c.Q c.k c.len c.words=(c.fixed,c.tp,c.sl,c.ns,0)):yL c.mode c.X c.T c.R c.l c.Q c.k c.len c.words=O (0,c.P):=by
 have s:=RL h.hl h.hk h.hc;have g:SFacts c.X.length c.T.length c.R c.Q c.tp c.sl:=by rw[h.tp,h.sl];exact s
 unfold yL;rw[h.plan e];simp only[zG];rw[zA (by simp),zD,NW h.hl h.hk h.hc];simp only[zG];have d:=VQ (n:=c.ns) g h.ns;rw[<-h.tp,<-h.sl,TI d];simp only[zG]
 congr 2
 unfold Cx.P;apply List.map_congr_left;intro i hi;exact aD2 h i (List.mem_range.1 hi)
theorem Pn (h:l.length<=4096):gr l=O l:=by
 unfold gr;rw[de (by omega) (by omega)]
theorem Lh {l:Zd}(h:l.length<=1048576):bk l=O l:=by
 unfold bk;rw[de (by omega) (by omega)]
theorem TJ (h:c.Ok)(e:pm c.mode c.X.length c.T.length c.R c.l c.Q c.k c.len c.words=(c.fixed,c.tp,c.sl,c.ns,0)):
  yG c.mode c.X c.T c.R c.l c.Q c.k c.len c.words=O (.inr (c.fixed,c.tp,c.sl,c.ns,c.mode,c.R,c.Q,c.len,c.words,c.len,c.X,c.T,c.l,c.k,c.P)):=by
 have n:=h.num;have g:=n.x;have d:=n.t;unfold yG;rw[h.plan e];simp only[zG];rw[zA (by simp),zD,Pn h.hl.len,Pn h.hk.len,Lh (by omega),Lh (by omega)];simp only[zG];rw[VF h e];rfl
def Rq (c:Cx)(W:Zd):Zd:=put (put W (c.off 0) c.T) (c.off 1) c.X
def new1 (c:Cx):Dy:=⟨c.len,0,-1,0,0,0,0,0,c.fixed,c.fixed,Rq c (cq c.words.toNat)⟩
def new2 (c:Cx):Dy:=⟨c.len,0,-1,0,0,0,0,0,c.fixed,c.fixed,Rq c (put (cq c.words.toNat) (c.off 8) (cq (c.sl*c.ns).toNat))⟩
theorem D0 :Wd c (cq c.words.toNat):=cg _
theorem Gv (h:c.Ok):0<=c.fixed/\c.fixed<=c.words/\1<=c.fixed/\c.fixed=(c.off 7:Int):=by
 have n:=h.num;have v:=n.R;have u:=n.Q;have e:=n.fixed;have y:=n.mul;have g:=h.fit;have d:0<=c.tp:=by rw[n.tp];split<;>omega
 refine⟨by omega,by omega,by omega, ?_⟩;rw[aY5,e];omega
theorem Jw (h:c.Ok)(e:Wd c W):Wd c (put W (c.off 0) c.T)/\Wd c (Rq c W)/\dz c W (Rq c W):=by
 have y:=i7 (c:=c) (i:=0) (j:=9) (by omega);have A:=i7 (c:=c) (i:=1) (j:=9) (by omega);have u:c.sz 0=c.T.length:=rfl;have v:c.sz 1=c.X.length:=rfl;have d:=e.put h (w:=c.T) (o:=c.off 0) (by omega);have g:=d.put h (w:=c.X) (o:=c.off 1) (by omega);exact⟨d,g,dz.put h (dz.put h (dz.refl W) e (i:=0) (by omega) (Nat.le_of_eq u.symm)) d (i:=1) (by omega) (Nat.le_of_eq v.symm)⟩
theorem Pf (h:c.Ok):yW c.words=O (cq c.words.toNat):=by
 have f:=Gv h;have n:=h.num;have d:=n.words;unfold yW CQ;rw[Ze,zD,Ze,zD];simp only[zG];rw[zA (by simp),zD,Yb (by omega)];rfl
theorem PM (h:c.Ok):Cl c.words=O (0,0,c.words):=by
 have n:=h.num;have d:=n.words;unfold Cl Ib;rw[zA (show¬(0:Int)<0 by omega),zA (show¬c.words<0 by omega)];rfl
theorem Mw {n:Nat}(h:o+n<=W.length)(d:W.length<=1048576):ge (n:Int) (o:Int) W=O ((o:Int),0,((o+n:Nat):Int)):=by
 unfold ge vy;rw[Ze,zD];simp only[zG];rw[ae (n:=(W.length:Int)-o) (by omega),Ze,zD,ae (n:=(o:Int)+n) (by omega)]
 congr 2
theorem bh4 (h:c.Ok)(y:c.mode=3)(e:pm c.mode c.X.length c.T.length c.R c.l c.Q c.k c.len c.words=(c.fixed,c.tp,c.sl,c.ns,0)):
  vG c.mode c.X c.T c.R c.l c.Q c.k c.len c.words=O (.inr (.inl (c.fixed,c.tp,c.sl,c.ns,c.mode,c.R,c.Q,c.len,c.words,c.len,c.X,c.T,c.l,c.k,c.P,c.tk,c.fixed,c.fixed,c.words,(new1 c).W))):=by
 have f:=Gv h;have n:=h.num;have E:=n.words;have D:=n.mul;have C:=h.off9_le;have v:c.off 9=c.off 8+(c.sl*c.ns).toNat:=Tt;have g:(cq c.words.toNat).length=c.words.toNat:=cg _;obtain⟨A,F,H⟩:=Jw h (D0 (c:=c));unfold vG;rw[TJ h e];simp only[zG,cv];rw[Pf h,PM h];simp only[zG];rw[ug (by omega) (by omega) (by omega) (by omega)];simp only[zG];rw[show ix 8 c.P.length=O 8 from bm (k:=8) (by rw[Cx.P_len];omega)];simp only[zG];rw[Cx.P_get (show 8<10 by omega)];simp only[zG];rw[show ge (c.off 8:Int) 0 (cq c.words.toNat)=O (((0:Nat):Int),0,((0+c.off 8:Nat):Int))from Mw (o:=0) (n:=c.off 8) (by rw[bD,g];omega) (by omega)];unfold ib;simp only[zG];rw[zB y,zC,bB,ae (n:=c.sl*c.ns) (by omega),show c.sl*c.ns=((c.sl*c.ns).toNat:Int)by omega,Mw (by omega) (by omega)]
 simp only[zG,qx];have d:((0+c.off 8+(c.sl*c.ns).toNat:Nat):Int)=c.tk:=by unfold Cx.tk;omega
 rw[d,put1 (ii:=0) (i:=0) h D0 rfl (by omega) (aD _)];simp only[zG];rw[put1 (ii:=1) (i:=1) h A rfl (by omega) (aD _)];simp only[zG];have u:(0:Int)+c.fixed=c.fixed:=by omega
 have em:max (0:Int) c.fixed=c.fixed:=by omega
 rw[u,em];rfl
theorem aV2 (h:c.Ok)(y:c.mode≠3)(e:pm c.mode c.X.length c.T.length c.R c.l c.Q c.k c.len c.words=(c.fixed,c.tp,c.sl,c.ns,0)):
  vG c.mode c.X c.T c.R c.l c.Q c.k c.len c.words=O (.inr (.inr (c.fixed,c.tp,c.sl,c.ns,c.mode,c.R,c.Q,c.len,c.words,c.len,c.X,c.T,c.l,c.k,c.P,c.tk,(c.off 8:Int),c.ns,(c.X.length:Int),c.fixed,c.fixed,c.words,(new2 c).W))):=by
 have f:=Gv h;have n:=h.num;have I:=n.words;have H:=n.mul;have J:=n.x;have D:=h.ns;have F:=h.off9_le;have C:c.off 9=c.off 8+(c.sl*c.ns).toNat:=Tt;have v:(cq c.words.toNat).length=c.words.toNat:=cg _;have d:=n.sl;rw[zF y]at d;have w0:Wd c (put (cq c.words.toNat) (c.off 8) (cq (c.sl*c.ns).toNat)):=(D0 (c:=c)).put h (by rw[cg];omega);obtain⟨E,K,M⟩:=Jw h w0;unfold vG;rw[TJ h e];simp only[zG,cv];rw[Pf h,PM h];simp only[zG];rw[ug (by omega) (by omega) (by omega) (by omega)];simp only[zG];rw[show ix 8 c.P.length=O 8 from bm (k:=8) (by rw[Cx.P_len];omega)];simp only[zG];rw[Cx.P_get (show 8<10 by omega)];simp only[zG];rw[show ge (c.off 8:Int) 0 (cq c.words.toNat)=O (((0:Nat):Int),0,((0+c.off 8:Nat):Int))from Mw (o:=0) (n:=c.off 8) (by rw[bD,v];omega) (by omega)];unfold ib
 simp only[zG];rw[zA y,zD];unfold FT wO il;rw[zB (show 0<=c.ns by omega),zB (show c.ns<=1048576 by omega),zB (show 1<=(c.X.length:Int)by omega),zB (show(c.X.length:Int)<=64 by omega)];simp only[zC,zD,Bool.not_true,zG];rw[ae (n:=(c.X.length:Int)+1) (by omega),<-d,bB c.ns,ae (n:=c.sl*c.ns) (by omega)];have g:c.sl*c.ns=(((c.sl*c.ns).toNat:Nat):Int):=by omega
 rw[show ge (c.sl*c.ns) ((0+c.off 8:Nat):Int) (cq c.words.toNat)=O (((0+c.off 8:Nat):Int),0,((0+c.off 8+(c.sl*c.ns).toNat:Nat):Int))from by
  conv=>lhs;rw[g]
  exact Mw (by omega) (by omega)]
 simp only[zG];rw[zA (by simp),zD,Yb (by omega),show List.replicate (c.sl*c.ns).toNat (0:Int)=cq (c.sl*c.ns).toNat from rfl,vT (by rw[cg];exact aD _) (by omega) (by omega),bD];simp only[zG,cv];have u:((c.off 8+(c.sl*c.ns).toNat:Nat):Int)=c.tk:=by unfold Cx.tk;omega
 rw[u,KK (ii:=0) (i:=0) h w0 rfl (by omega) (aD _)];simp only[zG];rw[KK (ii:=1) (i:=1) h E rfl (by omega) (aD _)];simp only[zG];have A:(0:Int)+c.fixed=c.fixed:=by omega
 have em:max (0:Int) c.fixed=c.fixed:=by omega
 rw[A,em];rfl
theorem ai3 (h:c.Ok)(e:c.mode=3):InvB c (new1 c):=by
 have f:=Gv h;have n:=h.num;have g:=n.len;refine⟨(Jw h D0).2.1,rfl,⟨aB _,by show 0<=c.len;omega⟩,⟨by show(-1:Int)<= -1;omega,by show(-1:Int)<=c.len;omega⟩,λd=> ?_, ?_,⟨aB _,f.2.1⟩⟩
 .have d:(0:Int)<= -1:=d;omega
 .show c.fixed=c.fixed+c.sl*0;omega
theorem Jv (h:c.Ok)(g:c.mode≠3)(e:k<c.ns.toNat):mb c (new2 c).W k=0:=by
 have v:=h.off9_le;have y:=h.num.words;have d:c.off 9=c.off 8+(c.sl*c.ns).toNat:=Tt;have w0:Wd c (put (cq c.words.toNat) (c.off 8) (cq (c.sl*c.ns).toNat)):=(D0 (c:=c)).put h (by rw[cg];omega);obtain⟨C,D,u⟩:=Jw h w0;show mb c (Rq c _) k=0;rw[u.tag];obtain⟨A,_,_⟩:=we h g e;unfold mb rg;rw[Int.toNat_natCast,List.getD_eq_getElem?_getD,JH (by rw[cg,cg];omega)];unfold cq;split
 .rw[cB];split<;>rfl
 .rw[cB];split<;>rfl
theorem ai4 (h:c.Ok)(e:c.mode≠3):Inv c (new2 c):=by
 have f:=Gv h;have n:=h.num;have y:=n.len;have A:=n.words;have v:=h.off9_le;have g:c.off 9=c.off 8+(c.sl*c.ns).toNat:=Tt;have w0:Wd c (put (cq c.words.toNat) (c.off 8) (cq (c.sl*c.ns).toNat)):=(D0 (c:=c)).put h (by rw[cg];omega)
 have u:qY c (new2 c).W=0:=by
  unfold qY;rw[List.countP_eq_zero];intro k d;rw[Jv h e (List.mem_range.1 d)];decide
 refine⟨(Jw h w0).2.1,⟨by show 0<=c.len;omega,by show c.len<=65535;omega⟩,⟨aB _,by show 0<=c.len;omega⟩,⟨by show(-1:Int)<= -1;omega,by show(-1:Int)<=c.len;omega⟩,λk d=> ?_, ?_,⟨aB _,f.2.1⟩⟩
 .rw[Jv h e d];exact⟨aB _,by show(0:Int)<=c.len+1;omega⟩
 .rw[u];show c.fixed=c.fixed+c.sl*0;omega
end
end
section
theorem dne {x:Int}{i:Decidable (x≠x)}: @Zc (x≠x) i=Zb:=zA λk=>k rfl
section
variable {c:Cx}
def Sd (c:Cx)(s:Dy):Prop:=c.mode≠2->s.L=c.len
end
end
end Go.V
