/- A part of the proof. No condition. -/
import Derived.Test.YtgnojcajllcmoaaGreatDoorL1
set_option linter.all false
namespace Go.V
open Go.Ab
open Option renaming some->O,none->Y
open Bool renaming true->Za,false->Zb
open Decidable renaming decide->Zc
open List renaming mem_range->cJ
open List renaming length->hW
open Int renaming toNat->hX
open Option renaming bind->im
variable {T W W' X a r t w x:Zd}{B L Q a0 a1 a10 a11 a12 a13 a14 a15 a16 a2 a3 a4 a5 a6 a7 a8 a9 b bd c0 c1 c2 c3 i0 ii lv m p pk q sb sn sx z:Int}{i j k o:Nat}{l:List bx}
set_option maxRecDepth 100000
section
open Go.IntKind renaming wrap->zH,i64->zI,u64->zJ
def zl (f:Nat->Int): ∀{j:Nat},j<8->List.getD [f 0,f 1,f 2,f 3,f 4,f 5,f 6,f 7] j 0=f j
 |0,_=>rfl
 |1,_=>rfl
 |2,_=>rfl
 |3,_=>rfl
 |4,_=>rfl
 |5,_=>rfl
 |6,_=>rfl
 |7,_=>rfl
 |n+8,h=>by omega
def app (o:bx)(x y:Int):Int:=
 if o.1=1 then zH zJ (x+y)else if o.1=2 then zH zJ (x-y)else if o.1=3 then zH zJ (x*y)else if o.1=4 then zH zJ (0-x)else if o.1=5 then o.2.2.2.2 else if o.1=6 then x else 0
def JY (o:bx)(x y:Int):qy o.1 o.2.1 o.2.2.1 o.2.2.2.1 o.2.2.2.2 x y=O (app o x y):=by
 unfold qy app;simp only[ah]
 repeat' split
 all_goals rfl
def Vp (R:Nat)(o:bx):Prop:=(0<=o.2.1/\o.2.1<R)/\(0<=o.2.2.1/\o.2.2.1<R)/\0<=o.2.2.2.1/\o.2.2.2.1<R
def B2 {R:Nat}{o:bx}(h:Vp R o): ∃d a b:Nat,o.2.1=d/\o.2.2.1=a/\o.2.2.2.1=b/\d<R/\a<R/\b<R:=by
 unfold Vp at h;exact⟨hX o.2.1,hX o.2.2.1,hX o.2.2.2.1,V1,V1,V1,V1,V1,V1⟩
def rg (r:Zd)(k:Int):Int:=r.getD (hX k) 0
theorem ig (h:k<hW r):r[k]?=O (rg r (k:Int)):=by
 unfold rg
 grind
abbrev TS :=Zd×Zd×Nat
def iF (o:bx)(s:TS):TS:=(s.1.set (hX o.2.1)<|app o (rg s.1 o.2.2.1)<|rg s.1 o.2.2.2.1,s.2.1.set s.2.2<|rg s.1 o.2.1,s.2.2+1)
def VdT (R N m:Nat)(s:TS):Prop:=hW s.1=R/\hW s.2.1=N/\s.2.2+m<=N
def stT (p d:Nat)(l:Nat->Int)(s:TS):Int×Int×Int×Zd×Zd×Int×Int×Int×Int×Int×Int×Int×Int:=
 ((p:Int),(s.2.2:Int),(d:Int),s.1,s.2.1,l 0,l 1,l 2,l 3,l 4,l 5,l 6,l 7)
def lL {code:List yG}{p:Nat}{x:yG}(d:hW code<=8192)(h:code[p]?=O x):p<hW code/\ix (p:Int) (hW code)=O p:=by
 have:=(List.getElem?_eq_some_iff.1 h).1;exact⟨this,bn this⟩
def ap5 {code:List yG}(A:code.length<=8192){R N:Nat}(hN:N<=1000000):Runs (ld code) code stT iF (VdT R N) (Vp R)where
 op:=by
  intro p d l s m o E h V y g C;obtain⟨D,u⟩:=lL A h;obtain⟨I,F,H,J,K,M,g1,g2,g3⟩:=B2 V;obtain⟨v1,v2,v3⟩:=C;refine⟨?_,by unfold iF;exact⟨by simp[v1],by simp[v2],by show s.2.2+1+m<=N;omega⟩⟩;unfold stT iF;simp only[ld];rw[Ze,zD,u];simp only[zG];rw[h];simp only[zG,cr];rw[Ze,zD,Ze,zD];simp only[JY,zG];rw[J,K,M,bn (show I<s.1.length by omega)];simp only[zG];rw[ig (show I<s.1.length by omega)];simp only[zG];rw[bn (show s.2.2<s.2.1.length by omega)];simp only[zG];rw[ig (show s.2.2<s.2.1.length by omega)];simp only[zG];rw[bn (show F<s.1.length by omega)];simp only[zG];rw[ig (show F<s.1.length by omega)];simp only[zG];rw[bn (show H<s.1.length by omega)];simp only[zG];rw[ig (show H<s.1.length by omega)]
  simp only[zG];rw[ae (n:=(p:Int)+1) V1,ae (n:=(s.2.2:Int)+1) V1];rfl
 rep:=by
  intro p d l s m o E h y g C;obtain⟨D,u⟩:=lL A h;unfold stT;simp only[ld];rw[Ze,zD,u];simp only[zG];rw[h];simp only[zG,cr];rw[zB y,zC,bn g];simp only[zG];rw[ae (n:=(p:Int)+1) V1,ae (n:=(d:Int)+1) V1];rfl
 nxt:=by
  intro p d l s m e E h y g Z hl2 C;obtain⟨D,u⟩:=lL A h;have v:=zl (upd l d<|l d-1) g;rw[pE]at v;unfold upd at v;unfold stT;simp only[ld];rw[Ze,zD,u];simp only[zG];rw[h];simp only[zG,cr];rw[Ze,zD,zB y,zC,ae (n:=((d+1:Nat):Int)-1) V1,show((d+1:Nat):Int)-1=(d:Int)by omega,bn g];simp only[zG];rw[zl l g,Zj,v,Zf,zC];rfl
 out:=by
  intro p d l s m e E h y g Z C;obtain⟨D,u⟩:=lL A h;have v:=zl (upd l d<|l d-1) g;rw[pE]at v;unfold upd at v;unfold stT;simp only[ld];rw[Ze,zD,u];simp only[zG];rw[h];simp only[zG,cr];rw[Ze,zD,zB y,zC,ae (n:=((d+1:Nat):Int)-1) V1,show((d+1:Nat):Int)-1=(d:Int)by omega,bn g];simp only[zG];rw[zl l g,Zj,v,Ze,zD,ae (n:=(p:Int)+1) V1];rfl
abbrev FS :=Zd×Nat
def MT (o:bx)(s:FS):FS:=(s.1.set (hX o.2.1)<|app o (rg s.1 o.2.2.1)<|rg s.1 o.2.2.2.1,s.2+1)
def VdF (R M m:Nat)(s:FS):Prop:=hW s.1=R/\s.2+m<=M
def stF (p d:Nat)(l:Nat->Int)(s:FS):Int×Int×Int×Zd×Int×Int×Int×Int×Int×Int×Int×Int:=
 ((p:Int),(s.2:Int),(d:Int),s.1,l 0,l 1,l 2,l 3,l 4,l 5,l 6,l 7)
def aG2 {code:List yG}(A:code.length<=8192){R M:Nat}(hM:M<=1000000):Runs (iL (-1) code) code stF MT (VdF R M) (Vp R)where
 op:=by
  intro p d l s m o E h V y g C;obtain⟨D,u⟩:=lL A h;obtain⟨I,F,H,J,K,N,g1,g2,g3⟩:=B2 V;obtain⟨v1,v2⟩:=C;refine⟨?_,by unfold MT;exact⟨by simp[v1],by show s.2+1+m<=M;omega⟩⟩;unfold stF MT;simp only[iL];rw[zA (show¬((p:Int)=(code.length:Int))by omega),zD,zA (show¬((s.2:Int)= -1)by omega),zD,u];simp only[zG];rw[h];simp only[zG,cr];rw[Ze,zD,Ze,zD];simp only[JY,yx,zG];rw[J,K,N,bn (show F<s.1.length by omega)];simp only[zG];rw[ig (show F<s.1.length by omega)];simp only[zG];rw[bn (show H<s.1.length by omega)];simp only[zG];rw[ig (show H<s.1.length by omega)];simp only[zG];rw[bn (show I<s.1.length by omega)];simp only[zG];rw[ig (show I<s.1.length by omega)];simp only[zG]
  rw[ae (n:=(p:Int)+1) V1,ae (n:=(s.2:Int)+1) V1];rfl
 rep:=by
  intro p d l s m o E h y g C;obtain⟨D,u⟩:=lL A h;unfold stF;simp only[iL];rw[zA (show¬((p:Int)=(code.length:Int))by omega),zD,zA (show¬((s.2:Int)= -1)by omega),zD,u];simp only[zG];rw[h];simp only[zG,cr];rw[zB y,zC,bn g];simp only[zG];rw[ae (n:=(p:Int)+1) V1,ae (n:=(d:Int)+1) V1];rfl
 nxt:=by
  intro p d l s m e E h y g Z hl2 C;obtain⟨D,u⟩:=lL A h;have v:=zl (upd l d<|l d-1) g;rw[pE]at v;unfold upd at v;unfold stF;simp only[iL];rw[zA (show¬((p:Int)=(code.length:Int))by omega),zD,zA (show¬((s.2:Int)= -1)by omega),zD,u];simp only[zG];rw[h];simp only[zG,cr];rw[Ze,zD,zB y,zC,ae (n:=((d+1:Nat):Int)-1) V1,show((d+1:Nat):Int)-1=(d:Int)by omega,bn g];simp only[zG];rw[zl l g,Zj,v,Zf,zC];rfl
 out:=by
  intro p d l s m e E h y g Z C;obtain⟨D,u⟩:=lL A h;have v:=zl (upd l d<|l d-1) g;rw[pE]at v;unfold upd at v;unfold stF;simp only[iL];rw[zA (show¬((p:Int)=(code.length:Int))by omega),zD,zA (show¬((s.2:Int)= -1)by omega),zD,u];simp only[zG];rw[h];simp only[zG,cr];rw[Ze,zD,zB y,zC,ae (n:=((d+1:Nat):Int)-1) V1,show((d+1:Nat):Int)-1=(d:Int)by omega,bn g];simp only[zG];rw[zl l g,Zj,v,Ze,zD,ae (n:=(p:Int)+1) V1];rfl
def par (o:bx)(x y:Int):Int×Int:=
 if o.1=1 then(1,1)else if o.1=2 then(1,18446744073709551615)else if o.1=3 then(y,x)else if o.1=4 then(18446744073709551615,0)else if o.1=6 then(1,0)else(0,0)
def Ff (o:bx)(x y:Int):mq o.1 o.2.1 o.2.2.1 o.2.2.2.1 o.2.2.2.2 x y=O (par o x y):=by
 unfold mq par;simp only[ah]
 repeat' split
 all_goals rfl
def FG (o:bx)(r a:Zd)(t:Int):Zd×Zd:=
 let g:=rg a o.2.1
 let d:=r.set (hX o.2.1) t
 let a1:=a.set (hX o.2.1) 0
 let q:=par o (rg d o.2.2.1) (rg d o.2.2.2.1)
 let a2:=a1.set (hX o.2.2.1) (zH zJ<|rg a1 o.2.2.1+zH zJ (q.1*g))
 (d,a2.set (hX o.2.2.2.1)<|zH zJ<|rg a2 o.2.2.2.1+zH zJ (q.2*g))
def YD {o:bx}{n:Nat}(H:Vp r.length o)(M:a.length=r.length)(v:n<t.length):
  oO o.1 o.2.1 o.2.2.1 o.2.2.2.1 o.2.2.2.2 (n:Int) r a t=O (FG o r a<|rg t (n:Int)):=by
 obtain⟨d,g,h,y,A,C,u,I,J⟩:=B2 H;unfold oO;simp only[Ff,zG];unfold FG;simp only[y,A,C,Int.toNat_natCast];rw[bn (show d<a.length by omega)];simp only[zG];rw[ig (show d<a.length by omega)];simp only[zG];rw[bn v];simp only[zG];rw[ig v];simp only[zG];rw[bn u];simp only[zG];rw[ig u];simp only[zG];have e: ∀x:Int,(r.set d x).length=r.length:=by simp
 have F:(a.set d 0).length=a.length:=by simp
 rw[bn (show g<(r.set d<|rg t (n:Int)).length by rw[e];omega)];simp only[zG];rw[ig (show g<(r.set d<|rg t (n:Int)).length by rw[e];omega)];simp only[zG];rw[bn (show h<(r.set d<|rg t (n:Int)).length by rw[e];omega)];simp only[zG];rw[ig (show h<(r.set d<|rg t (n:Int)).length by rw[e];omega)];simp only[zG];rw[bn (show g<(a.set d 0).length by omega)];simp only[zG];rw[ig (show g<(a.set d 0).length by omega)];simp only[zG];generalize K:par o _ _=P;generalize D:(a.set d 0).set g _=A2;have E:A2.length=a.length:=by rw[<-D];simp
 rw[bn (show h<A2.length by omega)];simp only[zG];rw[ig (show h<A2.length by omega)];simp only[zG]
abbrev BS :=Zd×Zd×Nat
def rH (t:Zd)(o:bx)(s:BS):BS:=((FG o s.1 s.2.1<|rg t ((s.2.2-1:Nat):Int)).1,(FG o s.1 s.2.1<|rg t ((s.2.2-1:Nat):Int)).2,s.2.2-1)
def VdB (R N m:Nat)(s:BS):Prop:=hW s.1=R/\hW s.2.1=R/\m<=s.2.2/\s.2.2<=N
def stB (p d:Nat)(l:Nat->Int)(s:BS):Int×Int×Int×Zd×Zd×Int×Int×Int×Int×Int×Int×Int×Int:=
 ((p:Int)-1,(d:Int),(s.2.2:Int),s.1,s.2.1,l 0,l 1,l 2,l 3,l 4,l 5,l 6,l 7)
def J3 (o:bx)(r a:Zd)(t:Int):hW (FG o r a t).1=hW r/\hW (FG o r a t).2=hW a:=by
 unfold FG;simp
def bq7 {code:List yG}(C:code.length<=8192){R:Nat}(hN:t.length<=1000000):Backs (gg t code) code stB (rH t) (VdB R t.length) (Vp R)where
 op:=by
  intro p d l s m o A h J y g D;obtain⟨E,u⟩:=lL C h;obtain⟨H,v2,v3,v4⟩:=D;obtain⟨V,Z⟩:=J3 o s.1 s.2.1<|rg t ((s.2.2-1:Nat):Int);refine⟨?_,by unfold rH;exact⟨by simp[H,V],by simp[v2,Z],by show m<=s.2.2-1;omega,by show s.2.2-1<=_;omega⟩⟩;unfold stB rH;simp only[gg];rw[show((p+1:Nat):Int)-1=(p:Int)by omega,Ze,zD,u];simp only[zG];rw[h];simp only[zG,cr];rw[Ze,zD,Ze,zD,ae (n:=(s.2.2:Int)-1) V1,show(s.2.2:Int)-1=((s.2.2-1:Nat):Int)by omega,YD (by rw[H];exact J) V1 V1];simp only[zG];rw[ae (n:=(p:Int)-1) V1]
 rep:=by
  intro p q d l s m o e A h y F g D;obtain⟨E,u⟩:=lL C h;obtain⟨h3,I⟩:=lL C F;unfold stB;simp only[gg];rw[show((p+1:Nat):Int)-1=(p:Int)by omega,Ze,zD,u];simp only[zG];rw[h];simp only[zG,cr];rw[zB y,zC,ae (n:=((q+1:Nat):Int)-1) V1,show((q+1:Nat):Int)-1=(q:Int)by omega,I];simp only[zG];rw[F];simp only[zG,cr];rw[bn g];simp only[zG];rw[ae (n:=(p:Int)-1) V1,ae (n:=(d:Int)+1) V1];rfl
 nxt:=by
  intro p d l s m o A h N y g K M D;obtain⟨E,u⟩:=lL C h;have v:=zl (upd l d<|l d-1) g;rw[pE]at v;unfold upd at v;unfold stB;simp only[gg];rw[show((p+1:Nat):Int)-1=(p:Int)by omega,Ze,zD,u];simp only[zG];rw[h];simp only[zG,cr];rw[Ze,zD,zB y,zC,ae (n:=((d+1:Nat):Int)-1) V1,show((d+1:Nat):Int)-1=(d:Int)by omega,bn g];simp only[zG];rw[zl l g,Zj,v,Zf,zC];rw[ae (n:=((A+1:Nat):Int)-2) V1,show((A+1:Nat):Int)-2=(A:Int)-1 by omega];rfl
 out:=by
  intro p d l s m o A h y g K D;obtain⟨E,u⟩:=lL C h;have v:=zl (upd l d<|l d-1) g;rw[pE]at v;unfold upd at v;unfold stB;simp only[gg];rw[show((p+1:Nat):Int)-1=(p:Int)by omega,Ze,zD,u];simp only[zG];rw[h];simp only[zG,cr];rw[Ze,zD,zB y,zC,ae (n:=((d+1:Nat):Int)-1) V1,show((d+1:Nat):Int)-1=(d:Int)by omega,bn g];simp only[zG];rw[zl l g,Zj,v,Ze,zD,ae (n:=(p:Int)-1) V1];rfl
end
section
open Bool renaming and_eq_true->cB,not_eq_true'->cD
open List renaming getElem?_append_right->aD,append_assoc->bD
open Nat renaming le_refl->aB,sub_self->bB
theorem bq8 {w v c:Int}{n:Nat}(h:BM w v=O c)(e:0<=v)(g:w=(n:Int)):c=((n*hX v:Nat):Int):=by
 have d:((hX v:Nat):Int)=v:=Int.toNat_of_nonneg e;rw[Int.natCast_mul,d,<-g];unfold BM at h
 grind
def YL (l:List bx)(m S:Zd):Prop:=hW m=hW l/\hW S=hW l/\∀(A B:List bx) (o e:bx) (b:Fo),l=A++o::(b.src++e::B)->b.Ok->o.1=7->e.1=0->
 m[hW A]?=O ((hW A+1+b.len:Nat):Int)/\S[hW A]?=O ((b.n*rI o:Nat):Int)
theorem ba0 {m S R:Zd}(H:MOK l m)(Z:hW S=hW l)(J: ∀o∈l,Uu o)(h: ∀j,j<hW l->∃a b,S[j]?=O a/\R[j]?=O b/\be9 l j a b):YL l m S:=by
 refine⟨H.len,Z,λA B o e b v y I E=> ?_⟩;have F:hW l=hW A+1+(b.len+(hW B+1)):=by rw[v];simp[Fo.src_len];omega
 have g:hW A<hW l:=by omega
 have d:l[hW A]=o:=by
  grind
 have D:l.drop (hW A+1)=b.src++e::B:=by rw[v,List.drop_append,List.drop_of_length_le V1,show hW A+1-hW A=1 by omega];rfl
 refine⟨?_, ?_⟩
 .have:=H.at' (hW A) g (by rw[d];exact I) b.src e B D E<|Fo.scan0 y;rw[Fo.src_len]at this;exact this
 have⟨a,c,M,h2,N⟩:=h (hW A) g;have⟨V,C⟩:=(N g).1 (by rw[d];exact I) b.src e B D E<|Fo.scan0 y;have u: ∀x∈b.src,0<=x.2.2.2.2:=λx hx=>(J x (by rw[v];simp[hx])).1
 have K:=Fo.Q9_n b y u V;rw[d]at C;rw[M,bq8 C (J o (by rw[v];simp)).1 K];rfl
section
variable {l:List bx} {m S:Zd} {em es:Int}
def br7 {op:Zd}{out:List yG}(h:hW l<=8192)(u:hW out<=8192){x:bx}(e:l[i]?=O x)(g:0<x.1/\x.1<7):
  fY l (em,m) (es,S) ((i:Int),op,out)=O (.inl (((i+1:Nat):Int),op,out++[cr x 0])):=by
 have⟨hi,d⟩:=List.getElem?_eq_some_iff.1 e;simp only[fY];rw[zB (show(i:Int)<(hW l:Int)by omega),zC,bt hi,d,zG,zA (show¬x.1=7 by omega),zA (show¬x.1=0 by omega)];simp only[zD,zG,cg];rw[bg V1 V1,Zi];rfl
def aO9 {op:Zd}{out:List yG}(C:hW l<=8192){x:bx}(y:l[i]?=O x)(v:x.1=7)(h:S[i]?=O 0)(g:m[i]?=O (j:Int))(A:j<=8192):
  fY l (em,m) (es,S) ((i:Int),op,out)=O (.inl (((j+1:Nat):Int),op,out)):=by
 have⟨hi,u⟩:=List.getElem?_eq_some_iff.1 y;have⟨d,_⟩:=List.getElem?_eq_some_iff.1 h;have⟨e,_⟩:=List.getElem?_eq_some_iff.1 g;simp only[fY];rw[zB (show(i:Int)<(hW l:Int)by omega),zC,bt hi,u,zG,zB v];simp only[zC];rw[bn d,zG,h];simp only[zG,gr];rw[decide_true,zC,bn e,zG,g];simp only[zG,gr];rw[Zi];rfl
def aO8 {n:Int}{op:Zd}{out:List yG}(y:hW l<=8192)(A:hW out<=8192)(C:hW op<=8192){x:bx}(v:l[i]?=O x)(h:x.1=7)(e:S[i]?=O n)(u:n≠0):
  fY l (em,m) (es,S) ((i:Int),op,out)=O (.inl (((i+1:Nat):Int),op++[(hW out:Int)],out++[cr x 0])):=by
 have⟨hi,g⟩:=List.getElem?_eq_some_iff.1 v;have⟨d,_⟩:=List.getElem?_eq_some_iff.1 e;simp only[fY];rw[zB (show(i:Int)<(hW l:Int)by omega),zC,bt hi,g,zG,zB h];simp only[zC];rw[bn d,zG,e];simp only[zG,gr];rw[zA u,zD,bg V1 V1];simp only[zG,gr,cg];rw[bg V1 V1,Zi];rfl
theorem ay6 {q:Nat}{op:Zd}{out:List yG}{o:bx}{t:Nat}(A:hW l<=8192)(C:hW out<=8192)(D:hW op<=8192){x:bx}(y:l[i]?=O x)(v:x.1=0)(h:out[q]?=O (cr o t)):
  fY l (em,m) (es,S) ((i:Int),op++[(q:Int)],out)=O (.inl (((i+1:Nat):Int),op,out.set q (cr o<|hW out+1)++[cr x<|q+1])):=by
 have⟨hi,u⟩:=List.getElem?_eq_some_iff.1 y;have⟨d,_⟩:=List.getElem?_eq_some_iff.1 h;have g:hW (op++[(q:Int)])=hW op+1:=by simp
 simp only[fY];rw[zB (show(i:Int)<(hW l:Int)by omega),zC,bt hi,u,zG,zA (show¬x.1=7 by omega),zB v];simp only[zD,zC,zG,cg];rw[ae (n:=(hW (op++[(q:Int)]):Int)-1) V1,show(hW (op++[(q:Int)]):Int)-1=(hW op:Int)by omega,bn (show hW op<(hW<|op++[(q:Int)]) by omega),zG,aD<|aB _,bB];simp only[List.getElem?_cons_zero,zG];rw[Zk,bp,bn d,zG,h,zG,bg V3 V1];simp only[zG,gr,cg]
 have e:(op++[(q:Int)]).take (hX (hW op:Int)-0)=op:=by
  simp_all
 rw[e,ae (n:=(i:Int)+1) V1,ae (n:=(hW out:Int)+1) V1,ae (n:=(q:Int)+1) V1];rfl
theorem OD (g:hW l<=8192)(y:YL l m S): ∀(f:Fo) (A B:List bx) (op:Zd) (out:List yG),l=A++f.src++B->f.Ok->hW op<=hW A->hW out<=hW A->
  ∃k,k<=f.len/\Reach (fY l (em,m) (es,S)) k ((hW A:Int),op,out) (((hW A+f.len:Nat):Int),op,out++f.bare.code (hW out))
 | .nil,A,B,op,out,d,_,_,_=>by
  refine⟨0,aB _, ?_⟩;simp only[Fo.bare,Fo.code,Fo.len,List.append_nil,Nat.add_zero];exact Reach.refl
 | .op o r,A,B,op,out,d,F,hp,ho=>by
  have K:hW (A++[o])=hW A+1:=by simp
  have Z:hW l=hW A+(r.len+1)+hW B:=by rw[d];simp[Fo.src,Fo.src_len];omega
  have H:l[hW A]?=O o:=by rw[d,bD,aD<|aB _,bB];rfl
  have⟨k,I,D⟩:=OD g y r (A++[o]) B op (out++[cr o 0]) ZJ F.2 V1 V3;refine⟨1+k,by simp only[Fo.len];omega, ?_⟩;have E:=(Reach.one<|br7 (em:=em) (es:=es) (op:=op) (out:=out) g V1 H F.1).trans (show Reach _ k _ _ from by rw[K]at D;exact D);simp only[Fo.bare,Fo.code,Fo.len]
  grind
 | .rep o b e r,A,B,op,out,d,F,hp,ho=>by
  have⟨⟨I,D⟩,k3,k4⟩:=F;have Z:hW l=hW A+(b.len+r.len+2)+hW B:=by rw[d];simp[Fo.src,Fo.src_len];omega
  have H:l[hW A]?=O o:=by rw[d,bD,aD<|aB _,bB];rfl
  have⟨hm,N⟩:=y.2.2 A (r.src++B) o e b ZJ k3 I D;have M:hW (A++o::b.src)=hW A+1+b.len:=by simp[Fo.src_len];omega
  have hxe:l[hW A+1+b.len]?=O e:=by
   rw[show l=(A++o::b.src)++(e::(r.src++B))by rw[d];simp[Fo.src],<-M,aD<|aB _,bB];rfl
  have h:hW (A++o::(b.src++[e]))=hW A+1+b.len+1:=by simp[Fo.src_len];omega
  simp only[Fo.bare,Fo.len];by_cases hz:b.n*rI o=0
  .rw[zE hz];rw[hz]at N;have⟨k,g1,v⟩:=OD g y r (A++o::(b.src++[e])) B op out ZJ k4 V1 V1;refine⟨1+k,V1, ?_⟩;have E:=(Reach.one<|aO9 (em:=em) (es:=es) (op:=op) (out:=out) g H I N hm V1).trans (show Reach _ k _ _ from by rw[h]at v;exact v)
   grind
  .rw[zF hz];have K:hW (A++[o])=hW A+1:=by simp
   have⟨kb,b1,b2⟩:=OD g y b (A++[o]) (e::(r.src++B)) (op++[(hW out:Int)]) (out++[cr o 0]) ZJ k3 V3 V3;rw[K]at b2;have hbl:=b.bare_len;have hrl:=r.bare_len;have u:hW (out++[cr o 0]++b.bare.code (hW<|out++[cr o 0]))=hW out+1+b.bare.len:=by simp[Fo.code_len];omega
   have hq:(out++[cr o 0]++b.bare.code (hW<|out++[cr o 0]))[hW out]?=O (cr o 0):=by
    rw[bD,aD<|aB _,bB];rfl
   have J:=ay6 (em:=em) (es:=es) (m:=m) (S:=S) (op:=op) g V1 V1 hxe D hq;rw[u]at J
   have C:(out++[cr o 0]++b.bare.code (hW<|out++[cr o 0])).set (hW out) (cr o<|hW out+1+b.bare.len+1)=out++cr o (hW out+1+b.bare.len+1)::b.bare.code (hW out+1):=by
    simp_all
   rw[C]at J;have⟨k,g1,v⟩:=OD g y r (A++o::(b.src++[e])) B op (out++cr o (hW out+1+b.bare.len+1)::b.bare.code (hW out+1)++[cr e<|hW out+1]) ZJ k4 V1 (by rw[h];simp[Fo.code_len];omega);rw[h]at v;refine⟨1+kb+1+k,V1, ?_⟩;have E:=(((Reach.one<|aO8 (em:=em) (es:=es) (m:=m) (op:=op) (out:=out) g V1 V1 H I N V1).trans b2).trans<|Reach.one J).trans v;rw[show hW A+(b.len+r.len+2)=hW A+1+b.len+1+r.len by omega]
   have e1:out++cr o (hW out+1+b.bare.len+1)::b.bare.code (hW out+1)++[cr e<|hW out+1]++r.bare.code (hW<|out++cr o (hW out+1+b.bare.len+1)::b.bare.code (hW out+1)++[cr e<|hW out+1])=out++(Fo.rep o b.bare e r.bare).code (hW out):=by
    have V:hW (out++cr o (hW out+1+b.bare.len+1)::b.bare.code (hW out+1)++[cr e<|hW out+1])=hW out+b.bare.len+2:=by simp[Fo.code_len];omega
    rw[V];simp only[Fo.code];rw[show hW out+1+b.bare.len+1=hW out+b.bare.len+2 by omega];simp
   rw[e1]at E;exact E
end
def QA :DQ l=im (kX l) λr=>O (r.2.1,r.2.2.1):=rfl
def al2 {R:Int}(h:Bs R l=0):JR l=0/\IX R l=0/\IY l=0/\IC l=0:=by
 unfold Bs at h;omega
structure Prg (R:Int)(l:List bx)(f:Fo):Prop where
 ops:OpsOk l
 ok:f.Ok
 src:f.src=l
 z:Bs R l=0
 R1:1<=R/\R<=64
 deep:f.hi<=8
 n:f.n<=65536
 w:eg l=((f.n:Int),0)
 regs: ∀o∈l,0<o.1/\o.1<7->Vp (hX R) o
theorem aE6 {R:Int}(h:OpsOk l)(I:Bs R l=0): ∃f,Prg R l f:=by
 have⟨E,F,J,K⟩:=al2 I
 have e:JG l=Za:=by
  unfold JR at E;split at E
  .assumption
  omega
 have g:J9 R l=Za:=by
  unfold IX at F;split at F
  .assumption
  omega
 unfold JG at e;rw[cB,decide_eq_true_eq,cD]at e;have⟨hs,hr⟩:=e;unfold J9 at g;rw[cB,decide_eq_true_eq,cD]at g;have⟨N,Z⟩:=g;have⟨f,y,u⟩:=Fo.parse _ l (aB _) hs
 have hq: ∃t,Q9 l=O t/\t<=65536:=by
  unfold IC eg at K
  grind
 have⟨t,ht,V⟩:=hq;have hn:t=(f.n:Int):=Fo.Q9_n f y (λx hx=>(h.v x<|u▸hx).1) (by rw[u];exact ht);refine⟨f,h,y,u,I,N, ?_,V1, ?_,λo H D=> ?_⟩
 .have M:=Fo.hi_le y;rw[u]at M;unfold IY Ot at J
  grind
 .unfold eg
  grind
 have A:=List.any_eq_false.1 hr o H;have C:=List.any_eq_false.1 Z o H;have A:wQ o=Za:=by simpa using A
 have C:Tz R o=Zb:=by simpa using C
 have⟨k,d,a,b,v⟩:=o;have D:k=1∨k=2∨k=3∨k=4∨k=5∨k=6:=by simp only at D;omega
 unfold Vp
 rcases D with rfl|rfl|rfl|rfl|rfl|rfl<;>
  .simp[wQ,FH,bv]at A;simp[Tz,bv]at C;simp only;omega
def Hl {R:Int}{f:Fo}(d:Prg R l f):oc R l=O (0,f.bare.code 0):=by
 unfold oc;rw[Qn d.ops];simp only[zG];rw[d.z,zA V2,zD];have M:=d.ops.len;have F:bu l 0=O 0:=by rw[<-d.src];exact Fo.scan0 d.ok
 obtain⟨m,C,A⟩:=MM (l:=l) V1 F;obtain⟨r,E,V,Z,g⟩:=Kf (l:=l) V1 d.ops.v;rw[C,QA,E];simp only[zG];have H:=d.w;rcases g with⟨g,_⟩|⟨_,_,J,r5,K⟩
 .rw[H]at g;exact(g rfl).elim
 have y:=ba0 A J (λo D=>d.ops.v o D) K;obtain⟨k,N,I⟩:=OD (em:=0) (es:=r.2.1) V1 y f [] [] [] [] (by simp[d.src]) d.ok V2 V2;have h:f.len=l.length:=by rw[<-Fo.src_len,d.src]
 have u:=I<|18446744073709551616-k;rw[show 18446744073709551616-k+k=co by unfold co;omega,show 18446744073709551616-k=(18446744073709551615-k)+1 by omega]at u
 have e:am (fY l (0,m) (r.2.1,r.2.2.1)) co ((0:Int),([]:Zd),([]:List yG))=O (f.bare.code 0):=by
  refine u.trans ?_;rw[bi];simp only[fY];rw[zA (by rw[h];simp),zD];rfl
 rw[e];rfl
end
section
open List renaming replicate->aB
def wP {α γ:Type}{g:α->Option (α⊕γ)}{s e:α}{c:γ}(h:Reach g k s e)(v:k<=1000000000)(u:g e=O (.inr c)):am g co s=O c:=by
 have d:=h<|18446744073709551616-k;rw[show 18446744073709551616-k+k=co by unfold co;omega,show 18446744073709551616-k=(18446744073709551615-k)+1 by omega]at d;refine d.trans ?_;rw[bi,u];rfl
section
variable {R:Int} {l:List bx} {f:Fo}
def Prg.len (h:Prg R l f):f.len<=4096:=by
 have:=h.ops.len;rw[<-Fo.src_len,h.src];exact this
def Prg.clen (h:Prg R l f):hW (f.bare.code 0)<=8192:=by
 have d:=h.len;have e:=f.bare_len;rw[Fo.code_len];omega
def Prg.steps (h:Prg R l f):f.bare.steps<=1000000000:=by
 have d:=Fo.steps_le f.bare f.bare_pos;rw[Fo.bare_n]at d;have g:=h.len;have u:=f.bare_len;have e:=h.n;have v:(2*f.bare.len+1)*f.n<=8193*65536:=Nat.mul_le_mul V1 e;omega
def Prg.good (h:Prg R l f): ∀o∈f.bare.src,(0<o.1/\o.1<7->Vp (hX R) o)/\Uu o:=λo d=>by
 have:=Fo.bare_mem f d;rw[h.src]at this;exact⟨h.regs o this,h.ops.v o this⟩
def Prg.hi (h:Prg R l f):0+f.bare.hi<=8:=by
 have d:=h.deep;have e:=f.bare_hi;omega
def Prg.writes (h:Prg R l f):gC l=O ((f.n:Int),0):=by
 rw[ym (by have:=h.ops.len;omega) h.ops.v,h.w]
def aZ8 (R:Nat)(o:bx):Prop:=0<o.1/\o.1<7->Vp R o
def RE {Z γ S:Type}{g:Z->Option (Z⊕γ)}{code:List yG}{st:Nat->Nat->(Nat->Int)->S->Z}{d:bx->S->S}{Vd:Nat->S->Prop}{R:Nat}(h:Runs g code st d Vd<|Vp R):Runs g code st d Vd<|aZ8 R:=
 ⟨λu v e y A=>h.op u (v e) e y A,h.rep,h.nxt,h.out⟩
def N6 {Z γ S:Type}{g:Z->Option (Z⊕γ)}{code:List yG}{st:Nat->Nat->(Nat->Int)->S->Z}{d:bx->S->S}{Vd:Nat->S->Prop}{R:Nat}(h:Backs g code st d Vd<|Vp R):Backs g code st d Vd<|aZ8 R:=
 ⟨λu v e y A=>h.op u (v e) e y A,h.rep,h.nxt,h.out⟩
def ua (f:Fo)(r t:Zd):TS:=qe iF f.unroll (r,t,0)
def aq8 (h:Prg R l f)(C:hW r=hX R)(D:f.n<=hW t)(v:hW t<=1000000):
  BR (f.bare.code 0) r t=O (((ua f r t).2.2:Int),(ua f r t).1,(ua f r t).2.1)/\hW (ua f r t).1=hX R/\hW (ua f r t).2.1=hW t:=by
 have⟨g,_,y,u⟩:=Pu (m:=0) (l:=λ_=>0) (s:=((r,t,0):TS)) (d:=0) (p:=0) (A:=[]) (B:=[]) (RE<|ap5 (R:=hX R) (N:=hW t) h.clen v) f.bare V2 rfl (Fo.bare_ok f h.ok) f.bare_pos h.hi h.good ⟨C,rfl,by rw[Fo.bare_n];show 0+(f.n+0)<=_;omega⟩;rw[Fo.bare_unroll]at y u;refine⟨?_,u.1,u.2.1⟩;unfold BR
 have:=wP y h.steps (c:=(((ua f r t).2.2:Int),(ua f r t).1,(ua f r t).2.1,g 0,g 1,g 2,g 3,g 4,g 5,g 6,g 7)) (by
  unfold stT;simp only[ld];rw[zB (by rw[Fo.code_len];omega),zC]
  rfl)
 have e:stT 0 0 (λ_=>0) ((r,t,0):TS)=(0,0,0,r,t,0,0,0,0,0,0,0,0):=rfl;rw[e]at this;rw[this];rfl
def tW (h:Prg R l f)(v:hW r=hX R)(y:f.n<=hW t)(d:hW t<=1000000):
  mQ R l r t=O (((ua f r t).2.2:Int),0,(ua f r t).1,(ua f r t).2.1)/\hW (ua f r t).1=hX R/\hW (ua f r t).2.1=hW t:=by
 have⟨e,g,u⟩:=aq8 h v y d;refine⟨?_,g,u⟩;unfold mQ DR;rw[Hl h,h.writes];have A:=h.R1;simp only[zG];rw[zA (show¬((0:Int)≠0)by simp),zD,zA (show¬((hW r:Int)≠R)by omega),zD,zA (show¬((hW t:Int)<(f.n:Int))by omega),zD,zG,zA (show¬((0:Int)≠0)by simp),zD,e];rfl
def EO (f:Fo)(r:Zd):Zd:=(qe MT f.unroll (r,0)).1
def Tk (h:Prg R l f)(y:hW r=hX R):uq (-1) (f.bare.code 0) r=O (EO f r)/\hW (EO f r)=hX R:=by
 have⟨g,_,u,v⟩:=Pu (m:=0) (l:=λ_=>0) (s:=((r,0):FS)) (d:=0) (p:=0) (A:=[]) (B:=[]) (RE<|aG2 (R:=hX R) (M:=65536) h.clen V1) f.bare V2 rfl (Fo.bare_ok f h.ok) f.bare_pos h.hi h.good ⟨y,by rw[Fo.bare_n];show 0+(f.n+0)<=_;have:=h.n;omega⟩;rw[Fo.bare_unroll]at u v;refine⟨?_,v.1⟩;unfold uq
 have:=wP u h.steps (c:=(EO f r,g 0,g 1,g 2,g 3,g 4,g 5,g 6,g 7)) (by
  unfold stF;simp only[iL];rw[zB (by rw[Fo.code_len];omega),zC]
  rfl)
 have e:stF 0 0 (λ_=>0) ((r,0):FS)=(0,0,0,r,0,0,0,0,0,0,0,0):=rfl;rw[e]at this;rw[this];rfl
def fill (R:Int)(r:Zd):Zd:=r++aB (hX R-hW r) 0
theorem fB {R:Int}(h:hW r<=hX R):hW (fill R r)=hX R:=by
 unfold fill
 grind
def ai3 {R:Int}(h:hW r<=hX R):Df (aB (hX R) (0:Int)) 0 (hW<|aB (hX R) (0:Int)) r=fill R r:=by
 unfold Df fill;rw[List.length_replicate,List.take_zero,List.nil_append,Nat.zero_add,Nat.min_eq_right h,List.take_of_length_le h,List.drop_replicate]
theorem Vj (h:Prg R l f)(d:hW r<=hX R):pG R l r=O (0,EO f<|fill R r)/\hW (EO f<|fill R r)=hX R:=by
 have⟨g,e⟩:=Tk h<|fB d;refine⟨?_,e⟩;have u:=h.R1;unfold pG yy;rw[Hl h,zG,zA (show¬((0:Int)≠0)by simp),zD,zA (show¬(R<(hW r:Int))by omega),zD,zB (show 0<=R by omega),zB (show R<=R by omega),zB (show 8*R<=140737488355328 by omega),ai3 d];show((gd Za _).bind _)=_;rw[bp]
 grind
def jV (f:Fo)(r a t:Zd):BS:=E5 (rH t) f.unroll (r,a,f.n)
def YC (h:Prg R l f)(E:hW r=hX R)(C:hW a=hX R)(F:f.n<=hW t)(v:hW t<=1000000):
  oN (f.n:Int) r a t (f.bare.code 0)=O ((jV f r a t).1,(jV f r a t).2.1)/\hW (jV f r a t).1=hX R/\hW (jV f r a t).2.1=hX R:=by
 have⟨g,_,y,u⟩:=Js (m:=0) (l:=λ_=>0) (s:=((r,a,f.n):BS)) (d:=0) (p:=0) (A:=[]) (B:=[]) (N6<|bq7 (R:=hX R) (t:=t) h.clen v) f.bare V2 rfl (Fo.bare_ok f h.ok) f.bare_pos h.hi h.good ⟨E,C,by rw[Fo.bare_n];exact Nat.le_refl _,F⟩;rw[Fo.bare_unroll]at y u;refine⟨?_,u.1,u.2.1⟩;unfold oN;have D:=h.clen;rw[Fo.code_len]at D
 have:=wP y h.steps (c:=((jV f r a t).1,(jV f r a t).2.1,g 0,g 1,g 2,g 3,g 4,g 5,g 6,g 7)) (by
  unfold stB;simp only[gg];rw[Zf,zC]
  rfl)
 have e:stB (0+f.bare.len) 0 (λ_=>0) ((r,a,f.n):BS)=(IntKind.i64.wrap<|(hW (f.bare.code 0):Int)-1,0,(f.n:Int),r,a,0,0,0,0,0,0,0,0):=by
  unfold stB;rw[Fo.code_len,Zi,Nat.zero_add];rfl
 rw[e]at this;rw[this];rfl
def re (h:Prg R l f)(y:r.length=R.toNat)(v:a.length=R.toNat)(A:f.n<=t.length)(d:t.length<=1000000):
  oM R l r a t=O (0,(jV f r a t).1,(jV f r a t).2.1)/\(jV f r a t).1.length=R.toNat/\(jV f r a t).2.1.length=R.toNat:=by
 obtain⟨e,g,u⟩:=YC h y v A d;refine⟨?_,g,u⟩;have C:=h.R1;unfold oM;rw[Hl h,h.writes];simp only[zG];rw[zA (show¬((0:Int)≠0)by simp),zD,zA (show¬((r.length:Int)≠R)by omega),zD,zA (show¬((a.length:Int)≠R)by omega),zD,zA (show¬((t.length:Int)<(f.n:Int))by omega),zD,e];rfl
end
end
section
open List renaming take_length->aB,length_take->aD,ext_getElem?->bB,getElem?_take->bD,getElem_mem->cB
def seg (W:Zd)(o n:Nat):Zd:=(W.drop o).take n
def put (W:Zd)(o:Nat)(w:Zd):Zd:=W.take o++(w++W.drop (o+hW w))
theorem Ca (W:Zd)(o n i:Nat):(seg W o n)[i]?=if i<n then W[o+i]? else Y:=by
 unfold seg
 grind
theorem J4 (h:o+hW w<=hW W)(i:Nat):(put W o w)[i]?=if o<=i/\i<o+hW w then w[i-o]? else W[i]?:=by
 unfold put;have d:hW (W.take o)=o:=by rw[aD];omega
 grind
theorem eV {n:Nat}(h:o+n<=hW W):hW (seg W o n)=n:=by
 unfold seg
 grind
theorem aT9 (h:o+hW w<=hW W):hW (put W o w)=hW W:=by
 unfold put
 grind
theorem IP {n:Nat}(h:o+hW w<=hW W)(d:n<=hW w):seg (put W o w) o n=w.take n:=by
 apply bB;intro i;rw[Ca,bD,J4 h]
 grind
def vK (h:o+hW w<=hW W):seg (put W o w) o (hW w)=w:=by
 rw[IP h<|Nat.le_refl _,aB]
def pe {d n:Nat}(h:o+hW w<=hW W)(e:d+n<=o∨o+hW w<=d):seg (put W o w) d n=seg W d n:=by
 apply bB;intro i;rw[Ca,Ca];split
 .rw[J4 h,Zh]
 rfl
def aF2 (h:o+hW w<=hW W)(d:i<o∨o+hW w<=i):(put W o w)[i]?=W[i]?:=by
 rw[J4 h,Zh]
def aw0 (h:o+hW w<=hW W):Df W o (hW w) w=put W o w:=by
 unfold Df put;rw[aB,Nat.min_self]
def Bb {n tk:Nat}(h:o+n<=tk)(d:tk<=hW W)(e:hW W<=1048576):ei (o:Int) (n:Int) (tk:Int) W=O (0,seg W o n):=by
 unfold ei;rw[Ze,zD,Ze,zD,Ze,zD,ae (n:=(tk:Int)-o) V1,Ze,zD,ae (n:=(o:Int)+n) V1,Zk,bp];unfold aj;rw[show(hX<|(o:Int)+n)-hX (o:Int)=n by omega,show(hX (o:Int))=o by omega,bg V9 V1];rfl
theorem ah3 {tk:Nat}(h:o<tk)(e:tk<=hW W)(g:hW W<=1048576):gj (o:Int) (tk:Int) W=O (rg W (o:Int),0):=by
 unfold gj;rw[Ze,zD,Ze,zD,ae (n:=(tk:Int)-o) V1,Ze,zD,ae (n:=(o:Int)+1) V1,Zk,bp];unfold aj;rw[show(hX<|(o:Int)+1)-hX (o:Int)=1 by omega,show(hX (o:Int))=o by omega,bg V9 V1]
 have d:(W.drop o).take 1=[rg W (o:Int)]:=by
  apply bB;intro i;rw[bD,List.getElem?_drop];rcases Nat.eq_zero_or_pos i with rfl|hi
  .rw[Zg,Nat.add_zero,ig V1];rfl
  grind
 rw[d];rfl
def tM {tk:Nat}(h:o+hW w<=tk)(d:tk<=hW W)(e:hW W<=1048576):eU (o:Int) w (tk:Int) W=O (0,put W o w):=by
 unfold eU;rw[Ze,zD,Ze,zD,Ze,zD,ae (n:=(tk:Int)-o) V1,Ze,zD,ae (n:=(o:Int)+hW w) V1,Zk,bp,show(hX<|(o:Int)+hW w)-hX (o:Int)=(hW w) by omega,show(hX (o:Int))=o by omega,aw0 V1]
def rb {n:Int}(h:0<=n)(g:0<=lv)(e:lv+n<=bd)(d:bd<=1048576):cx n lv pk bd=O (0,lv+n,max pk<|lv+n,bd):=by
 unfold cx oA kl;rw[Ze,zD,zG,ae (n:=bd-lv) V1,Zf,ae (n:=lv+n) V1];rfl
def wN {n:Int}(h:0<=n)(e:n<=lv)(g:lv<=pk)(d:lv<=1048576):bk n lv pk bd=O (0,lv-n,pk,bd):=by
 unfold bk kl;rw[Ze,zD,Ze,zD,zG,ae (n:=0-n) V1,Zi,show lv+(0-n)=lv-n by omega,Int.max_eq_left V1]
theorem al3 (ls:List Zd)(h: ∀l∈ls,hW l<=100000):hW ls.flatten<=100000*hW ls:=by
 induction ls with
 |nil=>simp
 |cons a r d=>
  grind
def RL {ls:List<|Zd}(h:i<hW ls):(ls.take<|i+1).flatten=(ls.take i).flatten++ls[i]:=by
 rw[List.take_succ_eq_append_getElem h,List.flatten_append];simp
def aq7 (ls:List Zd)(h: ∀l∈ls,hW l<=100000)(d:hW ls<=1000)(i:Nat):hW (ls.take i).flatten<=100000000:=by
 have e:=al3 (ls.take i) λl d=>h l (List.mem_of_mem_take d)
 rw[aD]at e;omega
theorem QS {ls:List<|Zd}(h: ∀l∈ls,l.length<=100000)(y:ls.length<=1000):fM ls=O ls.flatten:=by
 have d:=aq7 ls h y
 have C:am (gm ls) co (0,0)=O (((ls.take ls.length).flatten.length:Nat):Int):=by
  refine cn (n:=ls.length) (λi=>(((ls.take i).flatten.length:Nat):Int)) V1 (λi hi=> ?_) ?_
  .unfold gm;have e:=d i;have u:=h ls[i]<|cB hi;simp only;rw[zB (show(i:Int)<(ls.length:Int)by omega),zC,bt hi];simp only[zG];rw[ae (n:=(((ls.take i).flatten.length:Nat):Int)+((ls[i].length:Nat):Int)) V1,Ze,zD,ae (n:=(i:Int)+1) V1,RL hi,List.length_append];rfl
  unfold gm
  grind
 have g: ∀(f:Int×Zd->Option ((Int×Zd)⊕Zd)),(∀s,f s=cond (Zc<|s.1<((ls.length:Nat):Int)) ((rd ls s.1).bind λx=>gd (du (s.2.length+x.length) 8)<|O<|.inl (IntKind.i64.wrap<|s.1+1,s.2++x)) (O<|.inr s.2))->
   am f co (0,[])=O (ls.take ls.length).flatten:=by
  intro f v;refine cn (n:=ls.length) (λi=>(ls.take i).flatten) V1 (λi hi=> ?_) ?_
  .rw[v];have e:=d i;have u:=h ls[i]<|cB hi;rw[zB (show(i:Int)<(ls.length:Int)by omega),zC,bt hi];simp only[zG];rw[bg V1 V1,ae (n:=(i:Int)+1) V1,RL hi];rfl
  .grind
 unfold fM;rw[C];rw[aB];simp only[zG];have e:=d ls.length;rw[aB]at e;rw[Ze,zD,ae (n:=((ls.flatten.length:Nat):Int)-0) V1,ah];split
 .rw[Int.sub_zero]
  have A:mH 8 ((ls.flatten.length:Nat):Int)=Za:=by
   generalize ls.flatten.length=N at e⊢;unfold mH
   grind
  rw[A,bp,bg (by rw[List.length_replicate];omega) V1,Zk,bp,List.take_zero,g (gp ls) λs=>rfl,aB];rfl
 rw[g (gp ls) λs=>rfl,aB];rfl
end
section
open List renaming length_append->aB,length_replicate->aD
structure Cx where
 mode:Int
 R:Int
 Q:Int
 len:Int
 words:Int
 X:Zd
 T:Zd
 l:List bx
 k:List bx
 fl:Fo
 fk:Fo
 fixed:Int
 tp:Int
 sl:Int
 ns:Int
namespace Cx
def sz (c:Cx):Nat->Nat
 |0=>hW c.T
 |1=>hW c.X
 |2=>hX c.R
 |3=>hX c.Q
 |4=>max (hX c.R) (hX c.Q)
 |5=>hW c.X
 |6=>hW c.T
 |7=>hX c.tp
 |8=>hX (c.sl*c.ns)
 |_=>0
def off (c:Cx):Nat->Nat
 |0=>0
 |i+1=>c.off i+c.sz i
def P (c:Cx):Zd:=(List.range 10).map λi=>(c.off i:Int)
def tk (c:Cx):Int:=(c.off 9:Int)
structure Ok (c:Cx):Prop where
 hl:OpsOk c.l
 hk:OpsOk c.k
 hc:sK c.mode (hW c.X) (hW c.T) c.R c.l c.Q c.k c.len c.words=0
 pl:Prg c.R c.l c.fl
 pk:Prg c.Q c.k c.fk
 fixed:c.fixed=sJ (hW c.X) (hW c.T) c.R c.Q
 tp:c.tp=rS c.mode c.l c.k
 sl:c.sl=rR c.mode (hW c.X) c.R c.l
 ns:0<=c.ns/\c.ns<=1048576
 fit:c.fixed+c.tp+c.sl*c.ns<=c.words
 base:c.mode=3->c.ns=c.len
end Cx
structure Num (c:Cx):Prop where
 mode:1<=c.mode/\c.mode<=3
 R:1<=c.R/\c.R<=64
 Q:1<=c.Q/\c.Q<=64
 x:1<=hW c.X/\hW c.X<=64
 t:hW c.T<=64
 xtR:(hW c.X:Int)+hW c.T+1<=c.R
 xtQ:(hW c.X:Int)+hW c.T<=c.Q
 len:0<=c.len/\c.len<=65535
 words:0<=c.words/\c.words<=1048576
 n:c.fl.n<=65536
 m:c.fk.n<=65536
 tp:c.tp=(if c.mode=3 then(c.fk.n:Int)else c.fl.n+c.fk.n)
 sl:c.sl=(if c.mode=3 then(c.fl.n:Int)+c.R else hW c.X+1)
 fixed:c.fixed=2*hW c.T+2*hW c.X+c.R+c.Q+max c.R c.Q
 mul:0<=c.sl*c.ns
def Hq {x t:Nat}{R:Int}{k:List bx}{n:Int}(h:sK m x t R l Q k n b=0):mU R l Q k=0/\yd R Q x t=0:=by
 unfold sK at h;omega
def ao0 {R:Int}{k:List bx}(h:mU R l Q k=0):Bs R l=0/\Bs Q k=0:=by
 unfold mU at h
 repeat' split at h
 all_goals first|(exact absurd h Zl)|skip
 unfold Bs;constructor
 .repeat' split
  all_goals first|(rename_i c;exact V1)|omega
 repeat' split
 all_goals first|(rename_i c;exact V1)|omega
def QV {R:Int}{x t:Nat}(e:x<=64)(d:t<=64)(h:yd R Q x t=0):(x:Int)+t+1<=R/\(x:Int)+t<=Q:=by
 unfold yd at h;rw[ae (n:=(x:Int)+t) V1,ae (n:=(x:Int)+t+1) V1]at h
 repeat' split at h
 all_goals omega
def Cx.Ok.num {c:Cx}(h:c.Ok):Num c:=by
 have f:=EC h.hl h.hk h.hc;have⟨y,e⟩:=Hq h.hc;have⟨g,u⟩:=QV f.xs.2 f.ts e;have d:=h.pl.w;have v:=h.pk.w;have s:=PC h.hl h.hk h.hc;refine⟨f.mode,f.regs,f.regs',f.xs,f.ts,g,u,f.len,f.bud,h.pl.n,h.pk.n, ?_, ?_, ?_, ?_⟩
 .rw[h.tp];unfold rS;rw[d,v]
 .rw[h.sl];unfold rR;rw[d]
 .rw[h.fixed];unfold sJ;rfl
 rw[h.sl];exact(Tu (by have:=s.sl;omega) h.ns).1
section
variable {c:Cx}
def bE8 :c.off 1=hW c.T:=Nat.zero_add _
def bE9 :c.off 2=hW c.T+hW c.X:=by show c.off 1+_=_;rw[bE8];rfl
def bF0 :c.off 3=hW c.T+hW c.X+hX c.R:=by show c.off 2+_=_;rw[bE9];rfl
def bF1 :c.off 4=hW c.T+hW c.X+hX c.R+hX c.Q:=by show c.off 3+_=_;rw[bF0];rfl
def bF2 :c.off 5=hW c.T+hW c.X+hX c.R+hX c.Q+max (hX c.R) (hX c.Q):=by show c.off 4+_=_;rw[bF1];rfl
def bF3 :c.off 6=hW c.T+hW c.X+hX c.R+hX c.Q+max (hX c.R) (hX c.Q)+hW c.X:=by show c.off 5+_=_;rw[bF2];rfl
def bt7 :c.off 7=hW c.T+hW c.X+hX c.R+hX c.Q+max (hX c.R) (hX c.Q)+hW c.X+hW c.T:=by show c.off 6+_=_;rw[bF3];rfl
def bF4 :c.off 8=c.off 7+hX c.tp:=rfl
def O6 :c.off 9=c.off 8+hX (c.sl*c.ns):=rfl
theorem aD0 (h:i<=j):c.off i<=c.off j:=by
 induction j with
 |zero=>rw[Nat.le_zero.1 h];exact Nat.le_refl _
 |succ j d=>
  rcases Nat.lt_or_ge i (j+1)with h1|h1
  .exact Nat.le_trans (d V1) (Nat.le_add_right _ _)
  grind
def gJ (h:i<j):c.off i+c.sz i<=c.off j:=aD0 (c:=c) (i:=i+1) h
def Cx.Ok.off9_le (h:c.Ok):(c.off 9:Int)<=c.words:=by
 have n:=h.num;have g:=n.R;have u:=n.Q;have v:=n.fixed;have d:=n.tp;have y:=n.mul;have A:=h.fit;have e:0<=c.tp:=by rw[d];split<;>omega
 rw[O6,bF4,bt7];omega
theorem Cx.P_get (h:i<10):c.P[i]?=O (c.off i:Int):=by
 unfold Cx.P
 grind
def Cx.P_len :hW c.P=10:=by unfold Cx.P;simp
def Wd (c:Cx)(W:Zd):Prop:=hW W=hX c.words
def Wd.tk (h:c.Ok)(d:Wd c W):c.off 9<=hW W/\hW W<=1048576:=by
 have:=h.off9_le;have:=h.num.words;unfold Wd at d;omega
def Wd.put (h:c.Ok)(d:Wd c W)(e:o+hW w<=c.off 9):Wd c<|put W o w:=by
 have:=d.tk h;unfold Wd at d⊢;rw[aT9 V1,d]
def Vn {k:List bx}(h:c.Ok)(v:Wd c W)(hi:ii=(i:Int))(d:i<9):
  br ii a0 a1 a2 a3 a4 a5 a6 a7 a8 a9 a10 a11 a12 a13 a14 a15 a16 X T l k c.P c.tk lv pk bd W=O (seg W (c.off i)<|c.sz i):=by
 subst hi;have g:=v.tk h;have u:=gJ (c:=c) (i:=i) (j:=9) d;unfold br;rw[bn (show i<c.P.length by rw[Cx.P_len];omega)];simp only[zG];rw[Cx.P_get (show i<10 by omega)];simp only[zG];rw[ae (n:=(i:Int)+1) V1,show(i:Int)+1=((i+1:Nat):Int)by omega,bn (show i+1<c.P.length by rw[Cx.P_len];omega)];simp only[zG];rw[Cx.P_get (show i+1<10 by omega)];simp only[zG]
 have e:IntKind.i64.wrap ((c.off (i+1):Int)-(c.off i:Int))=(c.sz i:Int):=by
  have:c.off (i+1)=c.off i+c.sz i:=rfl;rw[Zi];omega
 rw[e];unfold Cx.tk;rw[Bb u g.1 g.2];rfl
def put1 {k:List bx}(h:c.Ok)(g:Wd c W)(hi:ii=(i:Int))(d:i<9)(v:hW w<=c.sz i):
  aq ii w a0 a1 a2 a3 a4 a5 a6 a7 a8 a9 a10 a11 a12 a13 a14 a15 a16 X T l k c.P c.tk lv pk bd W=O (put W (c.off i) w):=by
 subst hi;have e:=g.tk h;have u:=gJ (c:=c) (i:=i) (j:=9) d;unfold aq;rw[bn (show i<(hW c.P) by rw[Cx.P_len];omega),zG,Cx.P_get (show i<10 by omega),zG];unfold Cx.tk;rw[tM V1 e.1 e.2];rfl
def Qv {k:List bx}(h:c.Ok)(v:Wd c W)(hi:ii=(i:Int))(d:i<9):
  bj ii a0 a1 a2 a3 a4 a5 a6 a7 a8 a9 a10 a11 a12 a13 a14 a15 a16 X T l k c.P c.tk sb sn sx lv pk bd W=O (seg W (c.off i)<|c.sz i):=by
 subst hi;have g:=v.tk h;have u:=gJ (c:=c) (i:=i) (j:=9) d;unfold bj;rw[bn (show i<c.P.length by rw[Cx.P_len];omega)];simp only[zG];rw[Cx.P_get (show i<10 by omega)];simp only[zG];rw[ae (n:=(i:Int)+1) V1,show(i:Int)+1=((i+1:Nat):Int)by omega,bn (show i+1<c.P.length by rw[Cx.P_len];omega)];simp only[zG];rw[Cx.P_get (show i+1<10 by omega)];simp only[zG]
 have e:IntKind.i64.wrap ((c.off (i+1):Int)-(c.off i:Int))=(c.sz i:Int):=by
  have:c.off (i+1)=c.off i+c.sz i:=rfl;rw[Zi];omega
 rw[e];unfold Cx.tk;rw[Bb u g.1 g.2];rfl
def Ln {k:List bx}(h:c.Ok)(g:Wd c W)(hi:ii=(i:Int))(d:i<9)(v:hW w<=c.sz i):
  ap ii w a0 a1 a2 a3 a4 a5 a6 a7 a8 a9 a10 a11 a12 a13 a14 a15 a16 X T l k c.P c.tk sb sn sx lv pk bd W=O (put W (c.off i) w):=by
 subst hi;have e:=g.tk h;have u:=gJ (c:=c) (i:=i) (j:=9) d;unfold ap;rw[bn (show i<(hW c.P) by rw[Cx.P_len];omega),zG,Cx.P_get (show i<10 by omega),zG];unfold Cx.tk;rw[tM V1 e.1 e.2];rfl
def Nl {R:Int}(e:1<=R/\R<=64)(g:(hW a:Int)<=R):kw R l a=O (fill R a):=by
 unfold kw aj;rw[bg V1 V1,zG,ae (n:=R-(hW a:Int)) V1]
 have d:mH 8 (R-(hW a:Int))=Za:=by
  unfold mH;rw[Zf,Zf,Zf];rfl
 rw[d,bp,bg V9 V1,show(hX<|R-(hW a:Int))=hX R-(hW a) by omega];rfl
theorem av1 {R:Int}{u:List bx}{d:Zd}{k:List bx}(h:c.Ok)(v:Wd c W)(D:1<=R/\R<=64)(I:(hW x:Int)+hW c.T+hW d<=R):
  il R u x d a0 a1 a2 a3 a4 a5 a6 a7 a8 a9 a10 a11 a12 a13 a14 a15 a16 X T l k c.P c.tk lv pk bd W=O (fill R<|x++(seg W 0 (hW c.T)++d)):=by
 have F:=v.tk h;have C:=gJ (c:=c) (i:=0) (j:=9) V1;have y:hW (seg W 0<|hW c.T)=hW c.T:=eV ZP;unfold il;rw[Vn (ii:=0) (i:=0) h v rfl V1,zG];have g:seg W (c.off 0) (c.sz 0)=seg W 0 (hW c.T):=rfl
 rw[g,QS (λa E=>by
  grind) V2]
 simp only[zG];have e:[x,seg W 0<|hW c.T,d].flatten=x++(seg W 0 (hW c.T)++d):=by simp
 have H:hW (x++(seg W 0 (hW c.T)++d))=hW x+hW c.T+hW d:=by rw[aB,aB,y];omega
 rw[e];generalize x++(seg W 0 (hW c.T)++d)=a at*;rw[ae (n:=R-(hW a:Int)) V1]
 have A:mH 8 (R-(hW a:Int))=Za:=by
  unfold mH;rw[Zf,Zf,Zf];rfl
 rw[A,bp,bg V9 V1,show(hX<|R-(hW a:Int))=hX R-(hW a) by omega];rfl
theorem Xn {R:Int}{u:List bx}{d:Zd}{k:List bx}(h:c.Ok)(v:Wd c W)(D:1<=R/\R<=64)(I:(hW x:Int)+hW c.T+hW d<=R):
  gE R u x d a0 a1 a2 a3 a4 a5 a6 a7 a8 a9 a10 a11 a12 a13 a14 a15 a16 X T l k c.P c.tk sb sn sx lv pk bd W=O (fill R<|x++(seg W 0 (hW c.T)++d)):=by
 have F:=v.tk h;have C:=gJ (c:=c) (i:=0) (j:=9) V1;have y:hW (seg W 0<|hW c.T)=hW c.T:=eV ZP;unfold gE;rw[Qv (ii:=0) (i:=0) h v rfl V1,zG];have g:seg W (c.off 0) (c.sz 0)=seg W 0 (hW c.T):=rfl
 rw[g,QS (λa E=>by
  grind) V2]
 simp only[zG];have e:[x,seg W 0<|hW c.T,d].flatten=x++(seg W 0 (hW c.T)++d):=by simp
 have H:hW (x++(seg W 0 (hW c.T)++d))=hW x+hW c.T+hW d:=by rw[aB,aB,y];omega
 rw[e];generalize x++(seg W 0 (hW c.T)++d)=a at*;rw[ae (n:=R-(hW a:Int)) V1]
 have A:mH 8 (R-(hW a:Int))=Za:=by
  unfold mH;rw[Zf,Zf,Zf];rfl
 rw[A,bp,bg V9 V1,show(hX<|R-(hW a:Int))=hX R-(hW a) by omega];rfl
end
end
section
open Go.IntKind renaming wrap->zH,i64->zI,u64->zJ
open List renaming range->bB,replicate->bD,length_append->cB,length_take->cD,drop_zero->cK,ext_getElem?->cL
open Nat renaming le_refl->aB,le_of_eq->aD
def gdz {β:Type}{n:Int}{y:Option β}(h:0<=n/\n<=1048576):gd (Nat.beq 1 (Sh.w<|.int .u64)&&Zc (0<=n)&&Zc (n<=n)&&Zc ((8:Int)*n<=140737488355328)&&Nat.ble 1 8) y=y:=by
 rw[zB h.1,zB<|Int.le_refl n,Zf];rfl
section
variable {c:Cx}
def Cx.Ok.of (h:c.Ok):jf c.mode c.X c.T c.R c.l c.Q c.k c.len c.words=O ((c.fl.n:Int),(c.fk.n:Int)):=by
 rw[ac5 h.hl h.hk,zF (λk=>k h.hc),h.pl.w,h.pk.w]
def zeros (n:Nat):Zd:=bD n 0
def stepR (c:Cx)(W:Zd)(p:Int):TS:=ua c.fl (fill c.R<|seg W (c.off 1) (hW c.X)++(seg W 0 (hW c.T)++[zH zJ p]))<|zeros c.fl.n
def lossR (c:Cx)(W x:Zd):TS:=ua c.fk (fill c.Q<|x++(seg W 0 (hW c.T)++[]))<|zeros c.fk.n
def vw (x:Nat)(g a:Zd):Zd:=(bB<|hW g).map λ(i:Nat)=>IntKind.u64.wrap<|rg g (i:Int)+rg a ((x+i:Nat):Int)
def Bc (c:Cx)(W a:Zd):Zd:=
 put (put (put W (c.off 4) a) (c.off 5)<|a.take<|hW c.X) (c.off 6) (vw (hW c.X) (seg (put (put W (c.off 4) a) (c.off 5)<|a.take<|hW c.X) (c.off 6)<|hW c.T) a)
def qT (x:Nat)(g a:Zd):hW (vw x g a)=hW g:=by unfold vw;simp
def Wd.in' (h:c.Ok)(d:Wd c W)(hi:i<9):c.off i+c.sz i<=hW W:=by
 have:=d.tk h;have:=gJ (c:=c) (i:=i) (j:=9) hi;omega
theorem Jo {g:Zd}{f:Int×Zd->Option ((Int×Zd)⊕Zd)}(K:g.length<=64)(I:X.length<=64)(J:X.length+g.length<=a.length)(D: ∀s,f s=cond (Zc<|s.1<((g.length:Nat):Int))
   ((ix s.1 s.2.length).bind λj=>(s.2[j]?).bind λy=>(ix (zH zI<|((X.length:Nat):Int)+s.1) a.length).bind λE=>(a[E]?).bind λF=>(ix s.1 s.2.length).bind λu=>(s.2[u]?).bind λH=>O<|.inl (zH zI<|s.1+1,s.2.set u<|zH zJ<|y+F))
   (O<|.inr s.2)):am f co (0,g)=O (vw X.length g a):=by
 have C: ∀i,((bB g.length).map λ(j:Nat)=>if j<i then zH zJ (rg g (j:Int)+rg a ((X.length+j:Nat):Int))else rg g (j:Int)).length=g.length:=λi=>by simp
 have d: ∀i j,j<g.length->((bB g.length).map λ(j:Nat)=>if j<i then zH zJ (rg g (j:Int)+rg a ((X.length+j:Nat):Int))else rg g (j:Int))[j]?=O (if j<i then zH zJ (rg g (j:Int)+rg a ((X.length+j:Nat):Int))else rg g (j:Int)):=λi j e=>by
  grind
 have v:g=(bB g.length).map λ(j:Nat)=>if j<0 then zH zJ (rg g (j:Int)+rg a ((X.length+j:Nat):Int))else rg g (j:Int):=by
  apply cL;intro j;by_cases e:j<g.length
  .rw[d 0 j e,Zh,ig e]
  grind
 have A:vw X.length g a=(bB g.length).map λ(j:Nat)=>if j<g.length then zH zJ (rg g (j:Int)+rg a ((X.length+j:Nat):Int))else rg g (j:Int):=by
  unfold vw;apply List.map_congr_left
  grind
 rw[A];refine Eq.trans (congrArg (λy=>am f co (0,y)) v) ?_;refine cn (n:=g.length) (λi=>(bB g.length).map λ(j:Nat)=>if j<i then zH zJ (rg g (j:Int)+rg a ((X.length+j:Nat):Int))else rg g (j:Int)) V1 (λi hi=> ?_) ?_
 .rw[D];rw[zB (show(i:Int)<((g.length:Nat):Int)by omega),zC,bn (by rw[C];exact hi)];simp only[zG];rw[d i i hi];simp only[zG];rw[zF<|Nat.lt_irrefl i,ae (n:=((X.length:Nat):Int)+(i:Int)) V1,show((X.length:Nat):Int)+(i:Int)=((X.length+i:Nat):Int)by omega,bn (show X.length+i<a.length by omega)];simp only[zG];rw[ig (show X.length+i<a.length by omega)];simp only[zG];rw[ae (n:=(i:Int)+1) V1]
  congr 3
  apply cL;intro j;by_cases e:j<g.length
  .rw[d (i+1) j e];by_cases h:i=j
   .subst h
    grind
   .rw[List.getElem?_set_ne h,d i j e]
    congr 1
    omega
  grind
 .grind
def cd (n:Nat):hW (zeros n)=n:=List.length_replicate
def iW (h:c.Ok)(e:Wd c W)(p:Int):hW (fill c.R<|seg W (c.off 1) (hW c.X)++(seg W 0 (hW c.T)++[zH zJ p]))=hX c.R/\hW (stepR c W p).1=hX c.R/\hW (stepR c W p).2.1=c.fl.n:=by
 have n:=h.num;have v:=e.in' h (i:=1) V1;have u:=e.in' h (i:=0) V1;have C:hW (seg W (c.off 1)<|hW c.X)=hW c.X:=eV v;have A:hW (seg W 0<|hW c.T)=hW c.T:=eV u
 have g:hW (fill c.R<|seg W (c.off 1) (hW c.X)++(seg W 0 (hW c.T)++[zH zJ p]))=hX c.R:=by
  apply fB;rw[cB,cB,C,A];have:=n.xtR;simp;omega
 have⟨_,y,d⟩:=tW h.pl g (t:=zeros c.fl.n) ZC (by rw[cd];have:=n.n;omega);rw[cd]at d;exact⟨g,y,d⟩
def B5 (h:c.Ok)(v:Wd c W)(y:hW x=hW c.X):hW (fill c.Q<|x++(seg W 0 (hW c.T)++[]))=hX c.Q/\hW (lossR c W x).1=hX c.Q/\hW (lossR c W x).2.1=c.fk.n:=by
 have n:=h.num;have g:=v.in' h (i:=0) V1;have A:hW (seg W 0<|hW c.T)=hW c.T:=eV g
 have e:hW (fill c.Q<|x++(seg W 0 (hW c.T)++[]))=hX c.Q:=by
  apply fB;rw[cB,cB,A,y];have:=n.xtQ;simp;omega
 have⟨_,u,d⟩:=tW h.pk e (t:=zeros c.fk.n) ZC (by rw[cd];have:=n.m;omega);rw[cd]at d;exact⟨e,u,d⟩
def og (h:c.Ok)(g:Wd c W)(C:hW c.X+hW c.T<=hW a)(u:hW a<=max (hX c.R) (hX c.Q)):
  Wd c (put W (c.off 4) a)/\Wd c (put (put W (c.off 4) a) (c.off 5)<|a.take<|hW c.X)/\Wd c (Bc c W a):=by
 have v:=gJ (c:=c) (i:=4) (j:=9) V1;have y:=gJ (c:=c) (i:=5) (j:=9) V1;have A:=gJ (c:=c) (i:=6) (j:=9) V1;have D:c.sz 4=max (hX c.R) (hX c.Q):=rfl;have E:c.sz 5=hW c.X:=rfl;have F:c.sz 6=hW c.T:=rfl;have e:=g.put h (w:=a) (o:=c.off 4) V1;have d:=e.put h (w:=a.take<|hW c.X) (o:=c.off 5) (by rw[cD];omega);refine⟨e,d, ?_⟩;unfold Bc;refine d.put h ?_;rw[qT,eV (n:=hW c.T)<|d.in' h (i:=6) V1];omega
def bn1 (h:c.Ok)(d:Wd c W):
  io c.fixed c.tp c.sl c.ns c.mode c.R c.Q c.len c.words L p q c0 c1 c2 c3 z c.X c.T c.l c.k c.P c.tk lv pk bd W=O (c.fixed,c.tp,c.sl,c.ns,c.mode,c.R,c.Q,c.len,c.words,L,p,q,c0,zH zI<|c1+1,c2,c3,z,put W (c.off 2) (stepR c W p).1,(stepR c W p).1,(stepR c W p).2.1):=by
 have n:=h.num;have⟨e,A,C⟩:=iW h d p;have g:=d.in' h (i:=1) V1;have u:hW (seg W (c.off 1)<|hW c.X)=hW c.X:=eV g;unfold io;rw[h.of,zG];have D:=n.n;rw[gdz V1,Vn (ii:=1) (i:=1) h d rfl V1,zG,gdz V1,av1 h d n.R ZA,zG,gdz V1,show c.sz 1=hW c.X from rfl,show bD (hX (c.fl.n:Int)) (0:Int)=zeros c.fl.n from rfl];have⟨v,y,E⟩:=tW h.pl e (t:=zeros c.fl.n) ZC Z7;rw[v,zG,put1 (ii:=2) (i:=2) h d rfl V1 ZM];rfl
def aH8 (h:c.Ok)(d:Wd c W):
  gF c.fixed c.tp c.sl c.ns c.mode c.R c.Q c.len c.words L p q c0 c1 c2 c3 z c.X c.T c.l c.k c.P c.tk sb sn sx lv pk bd W=O (c.fixed,c.tp,c.sl,c.ns,c.mode,c.R,c.Q,c.len,c.words,L,p,q,c0,zH zI<|c1+1,c2,c3,z,put W (c.off 2) (stepR c W p).1,(stepR c W p).1,(stepR c W p).2.1):=by
 have n:=h.num;have⟨e,A,C⟩:=iW h d p;have g:=d.in' h (i:=1) V1;have u:hW (seg W (c.off 1)<|hW c.X)=hW c.X:=eV g;unfold gF;rw[h.of,zG];have D:=n.n;rw[gdz V1,Qv (ii:=1) (i:=1) h d rfl V1,zG,gdz V1,Xn h d n.R ZA,zG,gdz V1,show c.sz 1=hW c.X from rfl,show bD (hX (c.fl.n:Int)) (0:Int)=zeros c.fl.n from rfl];have⟨v,y,E⟩:=tW h.pl e (t:=zeros c.fl.n) ZC Z7;rw[v,zG,Ln (ii:=2) (i:=2) h d rfl V1 ZM];rfl
def bf9 (h:c.Ok)(u:Wd c W)(C:r.length=c.Q.toNat)(y:a.length=c.Q.toNat)(D:t.length=c.fk.n):
  nc c.Q c.fixed c.tp c.sl c.ns c.mode c.R c.Q c.len c.words L p q c0 c1 c2 c3 z c.k r a t c.X c.T c.l c.P c.tk lv pk bd W=O (c.fixed,c.tp,c.sl,c.ns,c.mode,c.R,c.Q,c.len,c.words,L,p,q,c0,c1,c2,zH zI<|c3+1,z,(jV c.fk r a t).1,(jV c.fk r a t).2.1,Bc c W (jV c.fk r a t).2.1):=by
 have n:=h.num;obtain⟨E,V,Z⟩:=re h.pk C y (aD D.symm) ZU;have K:=n.R;have J:=n.Q;have H:=n.xtR;have I:=n.xtQ;have N:=n.x;have M:=n.t;unfold nc;rw[E];simp only[zG];generalize jV c.fk r a t=d at*;have b:=og h (a:=d.2.1) u V1 V1;obtain⟨v,e,F⟩:=b;rw[put1 (ii:=4) (i:=4) h u rfl V1 V6];simp only[zG];rw[Zk,bp,show(c.X.length:Int).toNat-0=c.X.length by omega,cK,put1 (ii:=5) (i:=5) h v rfl V1 Z9];simp only[zG];rw[Vn (ii:=6) (i:=6) h e rfl V1];simp only[zG];rw[show c.sz 6=c.T.length from rfl];have A:(seg (put (put W (c.off 4) d.2.1) (c.off 5)<|d.2.1.take c.X.length) (c.off 6) c.T.length).length=c.T.length:=eV<|e.in' h (i:=6) V1;rw[Jo (f:=fR c.X (0,d.1,d.2.1) _) (X:=c.X) (a:=d.2.1) (g:=seg (put (put W (c.off 4) d.2.1) (c.off 5)<|d.2.1.take c.X.length) (c.off 6) c.T.length) V1 V1 V1<|λs=>rfl]
 simp only[zG];rw[put1 (ii:=6) (i:=6) h e rfl V1 Zy];rfl
def bg0 (h:c.Ok)(u:Wd c W)(C:r.length=c.Q.toNat)(y:a.length=c.Q.toNat)(D:t.length=c.fk.n):
  lz c.Q c.fixed c.tp c.sl c.ns c.mode c.R c.Q c.len c.words L p q c0 c1 c2 c3 z c.k r a t c.X c.T c.l c.P c.tk sb sn sx lv pk bd W=O (c.fixed,c.tp,c.sl,c.ns,c.mode,c.R,c.Q,c.len,c.words,L,p,q,c0,c1,c2,zH zI<|c3+1,z,(jV c.fk r a t).1,(jV c.fk r a t).2.1,Bc c W (jV c.fk r a t).2.1):=by
 have n:=h.num;obtain⟨E,V,Z⟩:=re h.pk C y (aD D.symm) ZU;have K:=n.R;have J:=n.Q;have H:=n.xtR;have I:=n.xtQ;have N:=n.x;have M:=n.t;unfold lz;rw[E];simp only[zG];generalize jV c.fk r a t=d at*;have b:=og h (a:=d.2.1) u V1 V1;obtain⟨v,e,F⟩:=b;rw[Ln (ii:=4) (i:=4) h u rfl V1 V6];simp only[zG];rw[Zk,bp,show(c.X.length:Int).toNat-0=c.X.length by omega,cK,Ln (ii:=5) (i:=5) h v rfl V1 Z9];simp only[zG];rw[Qv (ii:=6) (i:=6) h e rfl V1];simp only[zG];rw[show c.sz 6=c.T.length from rfl];have A:(seg (put (put W (c.off 4) d.2.1) (c.off 5)<|d.2.1.take c.X.length) (c.off 6) c.T.length).length=c.T.length:=eV<|e.in' h (i:=6) V1;rw[Jo (f:=fR c.X (0,d.1,d.2.1) _) (X:=c.X) (a:=d.2.1) (g:=seg (put (put W (c.off 4) d.2.1) (c.off 5)<|d.2.1.take c.X.length) (c.off 6) c.T.length) V1 V1 V1<|λs=>rfl]
 simp only[zG];rw[Ln (ii:=6) (i:=6) h e rfl V1 Zy];rfl
def bg1 (h:c.Ok)(u:Wd c W)(C:r.length=c.R.toNat)(y:a.length=c.R.toNat)(D:t.length=c.fl.n):
  lA c.R c.fixed c.tp c.sl c.ns c.mode c.R c.Q c.len c.words L p q c0 c1 c2 c3 z c.l r a t c.X c.T c.k c.P c.tk sb sn sx lv pk bd W=O (c.fixed,c.tp,c.sl,c.ns,c.mode,c.R,c.Q,c.len,c.words,L,p,q,c0,c1,c2,zH zI<|c3+1,z,(jV c.fl r a t).1,(jV c.fl r a t).2.1,Bc c W (jV c.fl r a t).2.1):=by
 have n:=h.num;obtain⟨E,V,Z⟩:=re h.pl C y (aD D.symm) ZU;have K:=n.R;have J:=n.Q;have H:=n.xtR;have I:=n.xtQ;have N:=n.x;have M:=n.t;unfold lA;rw[E];simp only[zG];generalize jV c.fl r a t=d at*;have b:=og h (a:=d.2.1) u V1 V1;obtain⟨v,e,F⟩:=b;rw[Ln (ii:=4) (i:=4) h u rfl V1 V6];simp only[zG];rw[Zk,bp,show(c.X.length:Int).toNat-0=c.X.length by omega,cK,Ln (ii:=5) (i:=5) h v rfl V1 Z9];simp only[zG];rw[Qv (ii:=6) (i:=6) h e rfl V1];simp only[zG];rw[show c.sz 6=c.T.length from rfl];have A:(seg (put (put W (c.off 4) d.2.1) (c.off 5)<|d.2.1.take c.X.length) (c.off 6) c.T.length).length=c.T.length:=eV<|e.in' h (i:=6) V1;rw[Jo (f:=fR c.X (0,d.1,d.2.1) _) (X:=c.X) (a:=d.2.1) (g:=seg (put (put W (c.off 4) d.2.1) (c.off 5)<|d.2.1.take c.X.length) (c.off 6) c.T.length) V1 V1 V1<|λs=>rfl]
 simp only[zG];rw[Ln (ii:=6) (i:=6) h e rfl V1 Zy];rfl
def K0 (c:Cx)(W x:Zd):Zd:=Bc c (put W (c.off 3) (lossR c W x).1) (jV c.fk (lossR c W x).1 (fill c.Q [1]) (lossR c W x).2.1).2.1
def Ey (h:c.Ok)(d:Wd c W)(v:hW x=hW c.X):Wd c (put W (c.off 3) (lossR c W x).1)/\Wd c (K0 c W x):=by
 have n:=h.num;have⟨y,g,u⟩:=B5 h d v;have E:=n.R;have D:=n.Q;have C:=n.xtQ;have F:=n.x;have nm:=n.m;have A:=gJ (c:=c) (i:=3) (j:=9) V1;have J:c.sz 3=hX c.Q:=rfl;have e:=d.put h (w:=(lossR c W x).1) (o:=c.off 3) V1;have⟨_,H,I⟩:=re h.pk g (a:=fill c.Q [1]) (t:=(lossR c W x).2.1) (fB V3) (aD u.symm) V1;exact⟨e,(og h e V1 V1).2.2⟩
def bE2 (h:c.Ok)(d:Wd c W)(u:hW x=hW c.X):
  kT x c.fixed c.tp c.sl c.ns c.mode c.R c.Q c.len c.words L p q c0 c1 c2 c3 z c.X c.T c.l c.k c.P c.tk lv pk bd W=O (c.fixed,c.tp,c.sl,c.ns,c.mode,c.R,c.Q,c.len,c.words,L,p,q,c0,c1,zH zI<|c2+1,zH zI<|c3+1,rg (lossR c W x).1 0,K0 c W x):=by
 have n:=h.num;have⟨v,g,y⟩:=B5 h d u;have⟨D,M⟩:=Ey h d u;have H:=n.R;have F:=n.Q;have E:=n.xtQ;have I:=n.x;have nm:=n.m;unfold kT;rw[h.of,zG,gdz V1,av1 h d n.Q V3,zG,gdz V1,show bD (hX (c.fk.n:Int)) (0:Int)=zeros c.fk.n from rfl];have⟨C,J,K⟩:=tW h.pk v (t:=zeros c.fk.n) ZC Z7;rw[C,zG];have e:ua c.fk (fill c.Q<|x++(seg W 0 (hW c.T)++[])) (zeros c.fk.n)=lossR c W x:=rfl;rw[e];have i0:ix 0 (hW (lossR c W x).1)=O 0:=bn (k:=0) V1;have A:(lossR c W x).1[0]?=O (rg (lossR c W x).1 0):=ig (k:=0) V1;rw[i0,zG,A,zG,put1 (ii:=3) (i:=3) h d rfl V1 ZN,zG,Nl n.Q V3]
 simp only[zG];rw[bf9 h D g (fB V3) y];rfl
def bu1 (h:c.Ok)(d:Wd c W)(v:0<=lv)(A:lv<=pk)(u:lv+c.fk.n<=bd)(e:bd<=1048576):
  kj i0 c.fixed c.tp c.sl c.ns c.mode c.R c.Q c.len c.words L p q c0 c1 c2 c3 z c.X c.T c.l c.k c.P c.tk lv pk bd W=O (c.fixed,c.tp,c.sl,c.ns,c.mode,c.R,c.Q,c.len,c.words,L,p,q,c0,c1,zH zI<|c2+1,zH zI<|c3+1,rg (lossR c W<|seg W (c.off 1) c.X.length).1 0,lv,max pk<|lv+c.fk.n,bd,K0 c W<|seg W (c.off 1) c.X.length):=by
 have n:=h.num;have g:=d.in' h (i:=1) V1;have y:(seg W (c.off 1) c.X.length).length=c.X.length:=eV g;unfold kj;rw[h.of];simp only[zG];rw[rb V1 v u e];simp only[zG];rw[Vn (ii:=1) (i:=1) h d rfl V1];simp only[zG];rw[show c.sz 1=c.X.length from rfl,bE2 h d y];simp only[zG];rw[wN V1 V1 V1 V1];simp only[zG];rw[show lv+(c.fk.n:Int)-c.fk.n=lv by omega]
def br4 (h:c.Ok)(d:Wd c W)(u:hW x=hW c.X):
  jv x c.fixed c.tp c.sl c.ns c.mode c.R c.Q c.len c.words L p q c0 c1 c2 c3 z c.X c.T c.l c.k c.P c.tk sb sn sx lv pk bd W=O (c.fixed,c.tp,c.sl,c.ns,c.mode,c.R,c.Q,c.len,c.words,L,p,q,c0,c1,zH zI<|c2+1,zH zI<|c3+1,rg (lossR c W x).1 0,K0 c W x):=by
 have n:=h.num;have⟨v,g,y⟩:=B5 h d u;have⟨D,M⟩:=Ey h d u;have H:=n.R;have F:=n.Q;have E:=n.xtQ;have I:=n.x;have nm:=n.m;unfold jv;rw[h.of,zG,gdz V1,Xn h d n.Q V3,zG,gdz V1,show bD (hX (c.fk.n:Int)) (0:Int)=zeros c.fk.n from rfl];have⟨C,J,K⟩:=tW h.pk v (t:=zeros c.fk.n) ZC Z7;rw[C,zG];have e:ua c.fk (fill c.Q<|x++(seg W 0 (hW c.T)++[])) (zeros c.fk.n)=lossR c W x:=rfl;rw[e];have i0:ix 0 (hW (lossR c W x).1)=O 0:=bn (k:=0) V1;have A:(lossR c W x).1[0]?=O (rg (lossR c W x).1 0):=ig (k:=0) V1;rw[i0,zG,A,zG,Ln (ii:=3) (i:=3) h d rfl V1 ZN,zG,Nl n.Q V3]
 simp only[zG];rw[bg0 h D g (fB V3) y];rfl
def bu2 (h:c.Ok)(d:Wd c W)(v:0<=lv)(A:lv<=pk)(u:lv+c.fk.n<=bd)(e:bd<=1048576):
  iY i0 c.fixed c.tp c.sl c.ns c.mode c.R c.Q c.len c.words L p q c0 c1 c2 c3 z c.X c.T c.l c.k c.P c.tk sb sn sx lv pk bd W=O (c.fixed,c.tp,c.sl,c.ns,c.mode,c.R,c.Q,c.len,c.words,L,p,q,c0,c1,zH zI<|c2+1,zH zI<|c3+1,rg (lossR c W<|seg W (c.off 1) c.X.length).1 0,lv,max pk<|lv+c.fk.n,bd,K0 c W<|seg W (c.off 1) c.X.length):=by
 have n:=h.num;have g:=d.in' h (i:=1) V1;have y:(seg W (c.off 1) c.X.length).length=c.X.length:=eV g;unfold iY;rw[h.of];simp only[zG];rw[rb V1 v u e];simp only[zG];rw[Qv (ii:=1) (i:=1) h d rfl V1];simp only[zG];rw[show c.sz 1=c.X.length from rfl,br4 h d y];simp only[zG];rw[wN V1 V1 V1 V1];simp only[zG];rw[show lv+(c.fk.n:Int)-c.fk.n=lv by omega]
end
end
section
open Go.IntKind renaming wrap->zH,i64->zI,u64->zJ
open List renaming length_take->aB
open Nat renaming le_of_eq->aD
section
variable {c:Cx}
def PK (c:Cx)(W r t:Zd):Zd:=Bc c W (jV c.fl r (fill c.R<|seg W (c.off 5)<|hW c.X) t).2.1
def Kr (h:c.Ok)(d:Wd c W)(u:hW r=hX c.R)(v:hW t=c.fl.n):hW (fill c.R<|seg W (c.off 5)<|hW c.X)=hX c.R/\Wd c (PK c W r t):=by
 have n:=h.num;have C:=n.R;have A:=n.xtR;have E:=n.x;have D:=n.n;have g:=d.in' h (i:=5) V1;have y:hW (seg W (c.off 5)<|hW c.X)=hW c.X:=eV g;have e:hW (fill c.R<|seg W (c.off 5)<|hW c.X)=hX c.R:=fB V1;have⟨_,F,H⟩:=re h.pl u e (aD v.symm) V1;exact⟨e,(og h d V1 V1).2.2⟩
def ba8 (h:c.Ok)(d:Wd c W)(e:hW r=hX c.R)(g:hW t=c.fl.n):
  iZ c.fixed c.tp c.sl c.ns c.mode c.R c.Q c.len c.words L p q c0 c1 c2 c3 z r t c.X c.T c.l c.k c.P c.tk sb sn sx lv pk bd W=O (c.fixed,c.tp,c.sl,c.ns,c.mode,c.R,c.Q,c.len,c.words,L,p,q,c0,c1,c2,zH zI<|c3+1,z,(jV c.fl r (fill c.R<|seg W (c.off 5)<|hW c.X) t).1,PK c W r t):=by
 have n:=h.num;have y:=n.R;have D:=n.xtR;have⟨u,A⟩:=Kr h d e g;have v:=d.in' h (i:=5) V1;have C:hW (seg W (c.off 5)<|hW c.X)=hW c.X:=eV v;unfold iZ;rw[Qv (ii:=5) (i:=5) h d rfl V1,zG,show c.sz 5=hW c.X from rfl,Nl y V1,zG,bg1 h d e u g];rfl
def ap3 (c:Cx)(W:Zd)(p:Int):Zd:=PK c (put W (c.off 2) (stepR c W p).1) (stepR c W p).1 (stepR c W p).2.1
def Az (h:c.Ok)(d:Wd c W)(p:Int):Wd c<|put W (c.off 2) (stepR c W p).1:=by
 have⟨_,e,_⟩:=iW h d p;have g:=gJ (c:=c) (i:=2) (j:=9) V1;have u:c.sz 2=hX c.R:=rfl;exact d.put h V1
def bF5 (h:c.Ok)(d:Wd c W)(y:0<=lv)(C:lv<=pk)(v:lv+c.fl.n<=bd)(e:bd<=1048576):
  jo i0 c.fixed c.tp c.sl c.ns c.mode c.R c.Q c.len c.words L p q c0 c1 c2 c3 z c.X c.T c.l c.k c.P c.tk sb sn sx lv pk bd W=O (c.fixed,c.tp,c.sl,c.ns,c.mode,c.R,c.Q,c.len,c.words,L,p,q,c0,zH zI<|c1+1,c2,zH zI<|c3+1,z,lv,max pk<|lv+c.fl.n,bd,ap3 c W p):=by
 obtain⟨A,g,u⟩:=iW h d p;unfold jo;rw[h.of];simp only[zG];rw[rb V1 y v e];simp only[zG];rw[aH8 h d];simp only[zG];rw[ba8 h (Az h d p) g u];simp only[zG];rw[wN V1 V1 V1 V1];simp only[zG];rw[show lv+(c.fl.n:Int)-c.fl.n=lv by omega];rfl
def QN (c:Cx)(W:Zd)(p:Int):Zd:=PK c (K0 c (put W (c.off 2) (stepR c W p).1)<|(stepR c W p).1.take<|hW c.X) (stepR c W p).1 (stepR c W p).2.1
def bq9 (h:c.Ok)(d:Wd c W)(C:0<=lv)(E:lv<=pk)(A:lv+(c.fl.n+c.fk.n)<=bd)(e:bd<=1048576):
  lB i0 c.fixed c.tp c.sl c.ns c.mode c.R c.Q c.len c.words L p q c0 c1 c2 c3 z c.X c.T c.l c.k c.P c.tk sb sn sx lv pk bd W=O (c.fixed,c.tp,c.sl,c.ns,c.mode,c.R,c.Q,c.len,c.words,L,p,q,c0,zH zI<|c1+1,zH zI<|c2+1,zH zI<|zH zI (c3+1)+1,rg (lossR c (put W (c.off 2) (stepR c W p).1)<|(stepR c W p).1.take c.X.length).1 0,lv,max pk<|lv+(c.fl.n+c.fk.n),bd,QN c W p):=by
 have n:=h.num;have H:=n.R;have F:=n.xtR;have I:=n.n;have nm:=n.m;obtain⟨D,v,y⟩:=iW h d p;have u:=Az h d p;have g:((stepR c W p).1.take c.X.length).length=c.X.length:=by rw[aB];omega
 unfold lB;rw[h.of];simp only[zG];rw[ae (n:=(c.fl.n:Int)+(c.fk.n:Int)) V1,rb V1 C A e];simp only[zG];rw[aH8 h d];simp only[zG];rw[Zk,bp,show(c.X.length:Int).toNat-0=c.X.length by omega,List.drop_zero,br4 h u g];simp only[zG];rw[ba8 h (Ey h u g).2 v y];simp only[zG];rw[wN V1 V1 V1 V1];simp only[zG];rw[show lv+((c.fl.n:Int)+c.fk.n)-(c.fl.n+c.fk.n)=lv by omega];rfl
def Mh (c:Cx)(W:Zd)(p:Int):Zd:=EO c.fl<|fill c.R<|seg W (c.off 1) (hW c.X)++(seg W 0 (hW c.T)++[zH zJ p])
def adv1 (c:Cx)(W:Zd)(p:Int):Zd:=put (put W (c.off 2)<|Mh c W p) (c.off 1)<|(Mh c W p).take<|hW c.X
def advW (c:Cx)(W:Zd)(p:Int):Nat->Zd
 |0=>W
 |i+1=>adv1 c (advW c W p i)<|p+i
def aj8 {R:Int}(h:hW r=hX R):fill R r=r:=by
 unfold fill;rw[h,Nat.sub_self];simp
def GR (h:c.Ok)(e:Wd c W)(p:Int):pG c.R c.l (fill c.R<|seg W (c.off 1) (hW c.X)++(seg W 0 (hW c.T)++[zH zJ p]))=O (0,Mh c W p)/\hW (Mh c W p)=hX c.R:=by
 have⟨d,_,_⟩:=iW h e p;have:=Vj h.pl (r:=fill c.R<|seg W (c.off 1) (hW c.X)++(seg W 0 (hW c.T)++[zH zJ p]))<|aD d;rw[aj8 d]at this;exact this
def SS (h:c.Ok)(d:Wd c W)(p:Int):Wd c (put W (c.off 2)<|Mh c W p)/\Wd c (adv1 c W p):=by
 have n:=h.num;have A:=n.R;have y:=n.xtR;have⟨_,g⟩:=GR h d p;have u:=gJ (c:=c) (i:=1) (j:=9) V1;have v:=gJ (c:=c) (i:=2) (j:=9) V1;have C:c.sz 1=hW c.X:=rfl;have D:c.sz 2=hX c.R:=rfl;have e:=d.put h (w:=Mh c W p) (o:=c.off 2) V1;exact⟨e,e.put h Z4⟩
def MZ (h:c.Ok){W:Zd}(d:Wd c W)(p:Int): ∀i,Wd c (advW c W p i)
 |0=>d
 |i+1=>(SS h (MZ h d p i) _).2
theorem at8 (h:c.Ok)(v:Wd c W){m:Nat}(E:m<=65536)(F:0<=p/\p<=65536)(D:0<=c0/\c0<=4611686018427387904):
  jl (m:Int) c.fixed c.tp c.sl c.ns c.mode c.R c.Q c.len c.words L p q c0 c1 c2 c3 z c.X c.T c.l c.k c.P c.tk sb sn sx lv pk bd W=O (c.fixed,c.tp,c.sl,c.ns,c.mode,c.R,c.Q,c.len,c.words,L,p,q,c0+m,c1,c2,c3,z,advW c W p m):=by
 have n:=h.num;have A:=n.R;have H:=n.xtR;have I:=n.x;unfold jl
 have e:am (iB (m:Int) c.X c.T c.l c.k c.P c.tk sb sn sx lv pk bd) co (0,c.fixed,c.tp,c.sl,c.ns,c.mode,c.R,c.Q,c.len,c.words,L,p,q,c0+((0:Nat):Int),c1,c2,c3,z,advW c W p 0)=O (c.fixed,c.tp,c.sl,c.ns,c.mode,c.R,c.Q,c.len,c.words,L,p,q,c0+m,c1,c2,c3,z,advW c W p m):=by
  refine cn (n:=m) (λi=>(c.fixed,c.tp,c.sl,c.ns,c.mode,c.R,c.Q,c.len,c.words,L,p,q,c0+(i:Int),c1,c2,c3,z,advW c W p i)) V1 (λi hi=> ?_) ?_
  .have d:=MZ h v p i;obtain⟨g,u⟩:=GR h d<|p+i;obtain⟨C,J⟩:=SS h d<|p+i;have y:(seg (advW c W p i) (c.off 1) c.X.length).length=c.X.length:=eV<|d.in' h (i:=1) V1;simp only[iB];rw[zB (show(i:Int)<(m:Int)by omega),zC,Qv (ii:=1) (i:=1) h d rfl V1];simp only[zG];rw[show c.sz 1=c.X.length from rfl,ae (n:=p+(i:Int)) V1,Xn h d A (by rw[y];simp;omega)];simp only[zG];rw[g];simp only[zG];rw[Ln (ii:=2) (i:=2) h d rfl V1 (by rw[show c.sz 2=c.R.toNat from rfl];exact aD u)];simp only[zG];rw[Zk,bp,show(c.X.length:Int).toNat-0=c.X.length by omega,List.drop_zero,Ln (ii:=1) (i:=1) h C rfl V1 (by rw[aB,show c.sz 1=c.X.length from rfl];omega)];simp only[zG];rw[ae (n:=(i:Int)+1) V1,ae (n:=c0+(i:Int)+1) V1,show c0+(i:Int)+1=c0+((i+1:Nat):Int)by omega]
   rfl
  .simp only[iB]
   grind
 rw[show c0+((0:Nat):Int)=c0 by omega,show advW c W p 0=W from rfl]at e;rw[e];rfl
end
end
section
open List renaming range->aB
def lW (a n:Int):Bool:=if a<1 then Zb else if 9<a then Zb else if a=1 then Zc (1<=n/\n<65536)else if a<=4 then Zc (0<=n/\n<1048576)else Zc<|n=0
theorem SQ (a n:Int):kS a n=O (lW a n):=by
 unfold kS lW jH
 grind
section
variable {c:Cx}
def sp (c:Cx)(k:Nat):Nat:=c.off 8+k*(hW c.X+1)
def iG (c:Cx)(W:Zd)(k:Nat):Int:=rg W (sp c k:Int)
def lu (c:Cx)(W:Zd):Zd:=(aB<|hX c.ns).map λ(k:Nat)=>iG c W k-1
structure Dy where
 L:Int
 p:Int
 q:Int
 c0:Int
 c1:Int
 c2:Int
 c3:Int
 z:Int
 lv:Int
 pk:Int
 W:Zd
def kt (c:Cx)(W:Zd):Nat:=(aB<|hX c.ns).countP λ(k:Nat)=>Zc<|0<iG c W k
structure Inv (c:Cx)(s:Dy):Prop where
 w:Wd c s.W
 L:0<=s.L/\s.L<=65535
 p:0<=s.p/\s.p<=s.L
 q: -1<=s.q/\s.q<=s.L
 tag: ∀k,k<hX c.ns->0<=iG c s.W k/\iG c s.W k<=s.L+1
 lv:s.lv=c.fixed+c.sl*kt c s.W
 pk:s.lv<=s.pk/\s.pk<=c.words
theorem sM (h:c.Ok)(v:c.mode≠3)(u:k<hX c.ns):sp c k+(hW c.X+1)<=c.off 9/\hX c.ns*(hW c.X+1)+c.off 8=c.off 9/\hX c.ns<=524288:=by
 have n:=h.num;have d:=n.sl;rw[zF v]at d;have y:=h.ns
 have e:hX (c.sl*c.ns)=hX c.ns*(hW c.X+1):=by
  grind
 have E:c.off 9=c.off 8+hX c.ns*(hW c.X+1):=by rw[O6,e]
 have g:(k+1)*(hW c.X+1)<=hX c.ns*(hW c.X+1):=Nat.mul_le_mul_right _ u;rw[Nat.succ_mul]at g;have A:=h.off9_le;have C:=n.words;have D:hX c.ns*2<=hX c.ns*(hW c.X+1):=Nat.mul_le_mul_left _ (by have:=n.x;omega);unfold sp;omega
def Br (h:c.Ok)(u:c.mode≠3)(g:k<hX c.ns):ej (c.off 8:Int) c.ns (hW c.X:Int) (k:Int)=O (sp c k:Int):=by
 have⟨d,v,y⟩:=sM h u g;have A:=h.off9_le;have C:=h.num.words;have D:=h.num.x;unfold sp at d;unfold ej fp;simp only[zG];have e:(k:Int)*((hW c.X:Int)+1)=((k*(hW c.X+1):Nat):Int):=by rw[Int.natCast_mul];congr 1
 rw[ae (n:=(hW c.X:Int)+1) V1,e,ae (n:=((k*(hW c.X+1):Nat):Int)) V1,Zi];unfold sp
 congr 1
def Kk (h:c.Ok)(v:c.mode≠3)(g:Wd c W)(u:k<hX c.ns):gj (sp c k:Int) c.tk W=O (iG c W k,0):=by
 have⟨y,_,_⟩:=sM h v u;have⟨d,e⟩:=g.tk h;exact ah3 V1 d e
theorem Kl (h:c.Ok)(d:c.mode≠3)(e:Wd c W)(u: ∀k,k<hX c.ns->0<=iG c W k/\iG c W k<=65536):iy (c.off 8:Int) c.ns (hW c.X:Int) c.tk W=O (lu c W):=by
 unfold iy;have g:=h.ns
 have y:am (jP (c.off 8:Int) c.ns (hW c.X:Int) c.tk W) co (0,(aB 0).map λ(k:Nat)=>iG c W k-1)=O (lu c W):=by
  refine cn (n:=hX c.ns) (λi=>(aB i).map λ(k:Nat)=>iG c W k-1) V1 (λi hi=> ?_) ?_
  .have v:=u i hi;unfold jP;simp only;rw[Zf,zC,Br h d hi,zG,Kk h d e hi,zG,bg V3 V1,ae (n:=(i:Int)+1) V1,ae (n:=iG c W i) V1,ae (n:=iG c W i-1) V1,List.range_succ,List.map_append];rfl
  unfold jP;simp only;rw[Ze,zD];rfl
 grind
theorem GV (d:k<hX c.ns):(lu c W)[k]?=O (iG c W k-1):=by
 unfold lu
 simp_all
def pD :hW (lu c W)=hX c.ns:=by unfold lu;simp
theorem Qp {l:Zd}(e:hW l<1000000)(h: ∀t∈l,-1<=t/\t<=L):gx l L=O Zb:=by
 unfold gx jZ
 have d:am (gy l L) co 0=O (.inr ()):=by
  refine nO (n:=hW l) V1 (λi hi=> ?_) ?_
  .have:=h l[i]<|List.getElem_mem hi;unfold gy nq;rw[Zf,zC,bt hi,zG,Ze,zD,zG,Ze,zD,Zi];rfl
  unfold gy
  grind
 rw[d];rfl
def ED {l:Zd}(e:0<=L/\L<=65535)(g:0<=p/\p<=L)(u: -1<=q/\q<=L)(d:hW l<1000000)(h: ∀t∈l,-1<=t/\t<=L):kB L p q l=O (.inr (p,q,L,l)):=by
 unfold kB AG nq;rw[zB (show 0<=L by omega),zB (show L<65536 by omega)];simp only[zC,zG,Bool.not_true,zD];rw[zA (show¬(1048576<(hW l:Int))by omega),zA (show¬p= -1 by omega),zA (show¬p< -1 by omega),zA (show¬L<p by omega),zA (show¬q< -1 by omega),zA (show¬L<q by omega)];simp only[zD,zG];rw[Qp d h];simp only[zG,zD];unfold aj;rw[bg V1 V1];rfl
end
end
variable {s:Dy}
section
open Bool renaming not_true->aB
open Int renaming mul_le_mul_of_nonneg_left->aD
open List renaming countP_le_length->bB
section
variable {c:Cx}
def E6 (c:Cx)(a n:Int)(s:Dy):Int×Dy:=
 if lW a n=Zb∨7<a then(2,s)
 else if(2<=a/\a<=4)/\c.ns<=n then(2,s)
 else if a=1 then(if s.L-s.p<n then(17,s)else(0,{s with p:=s.p+n,c0:=s.c0+n,W:=advW c s.W s.p<|hX n}))
 else if a=2 then(if 0<=iG c s.W (hX n)-1 then(15,s)else(0,{s with lv:=s.lv+c.sl,pk:=max s.pk<|s.lv+c.sl,W:=put s.W (sp c<|hX n)<|IntKind.u64.wrap (IntKind.i64.wrap<|s.p+1)::seg s.W (c.off 1) (hW c.X)}))
 else if a=3 then(if iG c s.W (hX n)-1<0 then(16,s)else(0,{s with p:=iG c s.W (hX n)-1,W:=put s.W (c.off 1)<|seg s.W (sp c (hX n)+1)<|hW c.X}))
 else if a=4 then(if iG c s.W (hX n)-1<0 then(16,s)else(0,{s with lv:=s.lv-c.sl,W:=put s.W (sp c<|hX n)<|zeros<|hW c.X+1}))
 else if a=5 then(if s.q≠ -1 then(18,s)else if s.p≠s.L then(17,s)else(0,{s with q:=s.p,c2:=s.c2+1,c3:=s.c3+1,z:=rg (lossR c s.W<|seg s.W (c.off 1)<|hW c.X).1 0,pk:=max s.pk<|s.lv+c.fk.n,W:=K0 c s.W<|seg s.W (c.off 1)<|hW c.X}))
 else if a=6 then(if s.q≠ -1 then(18,s)else if s.p≠s.L-1 then(17,s)else(0,{s with q:=s.p,c1:=s.c1+1,c2:=s.c2+1,c3:=s.c3+1+1,z:=rg (lossR c (put s.W (c.off 2) (stepR c s.W s.p).1)<|(stepR c s.W s.p).1.take<|hW c.X).1 0,pk:=max s.pk<|s.lv+(c.fl.n+c.fk.n),W:=QN c s.W s.p}))
 else(if s.q<=0 then(18,s)else if s.p≠s.q-1 then(17,s)else(0,{s with q:=s.p,c1:=s.c1+1,c3:=s.c3+1,pk:=max s.pk<|s.lv+c.fl.n,W:=ap3 c s.W s.p}))
def bh9 (c:Cx)(r:Int×Dy):Int×Int×Int×Int×Int×Int×Int×Int×Int×Int×Int×Int×Int×Int×Int×Int×Int×Int×Int×Int×Int×Zd:=
 (r.1,c.fixed,c.tp,c.sl,c.ns,c.mode,c.R,c.Q,c.len,c.words,r.2.L,r.2.p,r.2.q,r.2.c0,r.2.c1,r.2.c2,r.2.c3,r.2.z,r.2.lv,r.2.pk,c.words,r.2.W)
def FL (B:Int)(s:Dy):Prop:=(0<=s.c0/\s.c0<=B)/\(0<=s.c1/\s.c1<=B)/\(0<=s.c2/\s.c2<=B)/\(0<=s.c3/\s.c3<=B)
def ae3 (c:Cx)(W:Zd):kt c W<=hX c.ns:=by
 unfold kt;exact Nat.le_trans bB V2
def JQ (h:c.Ok)(hi:Inv c s):0<=s.lv/\s.lv+c.tp<=c.words/\c.words<=1048576/\0<=c.tp:=by
 have n:=h.num;have g:=hi.lv;have u:=ae3 c s.W;have v:=h.fit;have y:=n.fixed;have A:=h.ns;have e:=n.sl;have C:1<=c.sl:=by rw[e];have:=n.R;split<;>omega
 have D:c.sl*(kt c s.W:Int)<=c.sl*c.ns:=aD V1 V1;have E:0<=c.sl*(kt c s.W:Int):=Int.mul_nonneg V1 V1;have d:0<=c.tp:=by rw[n.tp];split<;>omega
 have:=n.R;have:=n.Q;have:=n.words;omega
theorem Rg (h:c.Ok)(hi:Inv c s)(C:kt c s.W<hX c.ns):s.lv+c.sl<=c.words:=by
 have n:=h.num;have g:=hi.lv;have u:=h.fit;have v:=h.ns;have e:=n.sl;have y:1<=c.sl:=by rw[e];have:=n.R;split<;>omega
 have A:c.sl*((kt c s.W:Int)+1)<=c.sl*c.ns:=aD V1 V1;have d:0<=c.tp:=by rw[n.tp];split<;>omega
 grind
def ai9 {l:List Nat}{P:Nat->Bool}(e:k∈l)(d:P k=Zb):l.countP P<hW l:=by
 rcases Nat.lt_or_ge (l.countP P) (hW l) with h|h
 .exact h
 have:=List.countP_eq_length.1 (Nat.le_antisymm bB h) k e;rw[d]at this;cases this
def Q5 (d:k<hX c.ns)(e:iG c W k<=0):kt c W<hX c.ns:=by
 have:=ai9 (l:=List.range<|hX c.ns) (P:=λ(k:Nat)=>Zc<|0<iG c W k) (k:=k) (cJ.2 d)<|zA V1;rw[List.length_range]at this;exact this
theorem XM (d:k<hX c.ns):jQ sb c.ns sx (k:Int)=O Za:=by
 unfold jQ
 grind
def bm9 (h:c.Ok)(g:c.mode≠3)(hi:Inv c s)(d:k<hX c.ns)(C:iG c s.W k<=0):
  kv (k:Int) c.fixed c.tp c.sl c.ns c.mode c.R c.Q c.len c.words s.L s.p s.q s.c0 s.c1 s.c2 s.c3 s.z c.X c.T c.l c.k c.P c.tk (c.off 8:Int) c.ns (hW c.X:Int) s.lv s.pk c.words s.W=O (s.lv+c.sl,max s.pk<|s.lv+c.sl,c.words,put s.W (sp c k)<|IntKind.u64.wrap (IntKind.i64.wrap<|s.p+1)::seg s.W (c.off 1) (hW c.X)):=by
 have n:=h.num;have e:=hi.w;have⟨y,H,I⟩:=JQ h hi;have A:=Rg h hi<|Q5 d C;have u:=n.sl;rw[zF g]at u;have M:=n.x;have K:=hi.p;have J:=hi.L;have D:=(hi.tag k d).1;have⟨N,V,Z⟩:=sM h g d;have⟨E,F⟩:=e.tk h;have v:hW (seg s.W (c.off 1)<|hW c.X)=hW c.X:=eV<|e.in' h (i:=1) V1;unfold kv;rw[rb V1 y A V1,zG,Qv (ii:=1) (i:=1) h e rfl V1,zG,show c.sz 1=hW c.X from rfl];unfold pQ;rw[XM d];simp only[zG,aB,zD];rw[Br h g d,zG,Kk h g e d,zG,zA (show¬s.p<0 by omega),zD,zA (show¬65536<=s.p by omega)];simp only[zG,zD];rw[v,zA (λk=>k rfl),zD,zA (show¬(iG c s.W k≠0)by omega),zD,bg V1 V1]
 unfold Cx.tk;rw[tM (by simp[v];omega) E F];rfl
def aF8 (h:c.Ok)(g:c.mode≠3)(hi:Inv c s)(d:k<c.ns.toNat)(D:0<iG c s.W k):
  jm (k:Int) c.fixed c.tp c.sl c.ns c.mode c.R c.Q c.len c.words s.L s.p s.q s.c0 s.c1 s.c2 s.c3 s.z c.X c.T c.l c.k c.P c.tk (c.off 8:Int) c.ns (c.X.length:Int) s.lv s.pk c.words s.W=O (put s.W (c.off 1)<|seg s.W (sp c k+1) c.X.length):=by
 have n:=h.num;have e:=hi.w;have C:=hi.L;have u:=(hi.tag k d).2;obtain⟨E,F,H⟩:=sM h g d;obtain⟨y,A⟩:=e.tk h;have v:(seg s.W (sp c k+1) c.X.length).length=c.X.length:=eV V1;unfold jm nH;rw[XM d];simp only[zG,aB,zD];rw[Br h g d];simp only[zG];rw[Kk h g e d];simp only[zG];rw[zA (show¬iG c s.W k=0 by omega),zD,ae (n:=(sp c k:Int)+1) V1,show(sp c k:Int)+1=((sp c k+1:Nat):Int)by omega];unfold Cx.tk;rw[Bb V1 y A];simp only[zG];rw[show((c.off 9:Nat):Int)=c.tk from rfl,Ln (ii:=1) (i:=1) h e rfl V1 (by rw[v];exact Nat.le_refl _)];rfl
def bs2 (h:c.Ok)(e:c.mode≠3)(hi:Inv c s)(d:k<c.ns.toNat)(H:0<iG c s.W k)(g:c.sl<=s.lv):
  lC (k:Int) c.fixed c.tp c.sl c.ns c.mode c.R c.Q c.len c.words s.L s.p s.q s.c0 s.c1 s.c2 s.c3 s.z c.X c.T c.l c.k c.P c.tk (c.off 8:Int) c.ns (c.X.length:Int) s.lv s.pk c.words s.W=O (s.lv-c.sl,s.pk,c.words,put s.W (sp c k)<|zeros<|c.X.length+1):=by
 have n:=h.num;have y:=hi.w;have I:=n.x;have v:=n.sl;rw[zF e]at v;obtain⟨D,E,F⟩:=JQ h hi;have u:=hi.pk;obtain⟨J,K,M⟩:=sM h e d;obtain⟨A,C⟩:=y.tk h;unfold lC qI;rw[XM d];simp only[zG,aB,zD];rw[Br h e d];simp only[zG];rw[Kk h e y d];simp only[zG];rw[zA (show¬iG c s.W k=0 by omega),zD];unfold fp;simp only[zG];rw[ae (n:=(c.X.length:Int)+1) V1,gdz V1,show List.replicate (((c.X.length:Int)+1).toNat) (0:Int)=zeros (c.X.length+1)from rfl];unfold Cx.tk;rw[tM Z7 A C];simp only[zG];rw[wN V1 g u.1 V1];rfl
end
end
section
open Int renaming reduceEq->aD
open Nat renaming reduceSub->aB
def bk5 (a n p q L d:Int)(l:Zd):Int×Int×Int×Int×Int×Zd:=
 if lW a n=Zb∨7<a then(2,p,q,L,d,l)
 else if(2<=a/\a<=4)/\(hW l:Int)<=n then(2,p,q,L,d,l)
 else if a=1 then(if L-p<n then(17,p,q,L,d,l)else(0,p+n,q,L,d+n,l))
 else if a=2 then(if 0<=rg l n then(15,p,q,L,d,l)else(0,p,q,L,d,l.set (hX n) p))
 else if a=3 then(if rg l n<0 then(16,p,q,L,d,l)else(0,rg l n,q,L,d,l))
 else if a=4 then(if rg l n<0 then(16,p,q,L,d,l)else(0,p,q,L,d,l.set (hX n)<|-1))
 else if a=5 then(if q≠ -1 then(18,p,q,L,d,l)else if p≠L then(17,p,q,L,d,l)else(0,p,p,L,d,l))
 else if a=6 then(if q≠ -1 then(18,p,q,L,d,l)else if p≠L-1 then(17,p,q,L,d,l)else(0,p,p,L,d,l))
 else(if q<=0 then(18,p,q,L,d,l)else if p≠q-1 then(17,p,q,L,d,l)else(0,p,p,L,d,l))
def nbz :Nat.beq 0 0=Za:=rfl
def nbs (n:Nat):Nat.beq (n+1) 0=Zb:=rfl
theorem EL {a n:Int}(h: ¬(lW a n=Zb∨7<a)):lW a n=Za/\(a=1∨a=2∨a=3∨a=4∨a=5∨a=6∨a=7):=by
 have d:lW a n=Za:=by
  grind
 refine⟨d, ?_⟩;have g: ¬a<1:=λe=>by unfold lW at d;rw[zE e]at d;cases d
 omega
theorem EM {a n:Int}(h:lW a n=Za)(d:1<=a/\a<=4):0<=n/\n<1048576/\(a=1->1<=n/\n<65536):=by
 unfold lW at h
 grind
theorem XQ {a n g:Int}{l:Zd}(V:0<=L/\L<=65535)(Z:0<=p/\p<=L)(hq: -1<=q/\q<=L)(ht:0<=g/\g<=1000000000000):jz a n p q L g l=O (bk5 a n p q L g l):=by
 unfold jz bk5;rw[SQ];simp only[zG];by_cases A:lW a n=Zb∨7<a
 .rw[zE A]
  have e:(cond (!lW a n) (O Za)<|O<|Zc<|7<a)=O Za:=by
   grind
  rw[e];rfl
 rw[zF A];obtain⟨C,M⟩:=EL A;have K: ¬7<a:=λh=>A (.inr h)
 rw[C,zA K];simp only[Bool.not_true,zD,zG];by_cases y:(2<=a/\a<=4)/\(l.length:Int)<=n
 .rw[zE y,zB y.1.1,zB y.1.2,zB y.2];rfl
 rw[zF y]
 have e:(cond (Zc<|2<=a) (cond (Zc<|a<=4) (cond (Zc<|(l.length:Int)<=n) (O<|Sum.inl ())<|O<|Sum.inr ())<|O<|Sum.inr ()) (O<|Sum.inr ()):Option<|Unit⊕Unit)=O (.inr ()):=by
  grind
 rw[e];simp only[zG,cg,nr]
 have d:(2<=a/\a<=4)->0<=n/\n.toNat<l.length/\ix n l.length=O n.toNat/\l[n.toNat]?=O (rg l n):=λN=>by
  have E:=EM C ⟨V1,N.2⟩
  have v:n.toNat<l.length:=by
   omega
  have D:n=((n.toNat:Nat):Int):=by omega
  refine⟨E.1,v, ?_, ?_⟩
  .conv=>lhs;rw[D]
   exact bn v
  have:=ig v;rw[<-D]at this;exact this
 rcases M with rfl|rfl|rfl|rfl|rfl|rfl|rfl
 .have E:=EM C V1;rw[show ix 1 8=O 1 from rfl];simp only[zG,aB,nbz,nbs,zC,zD];rw[zE trivial];unfold lQ;rw[ae (n:=L-p) V1,ah];by_cases u:L-p<n
  .rw[zE u,zE u];rfl
  rw[zF u,zF u,ae (n:=p+n) V1,ae (n:=g+n) V1];rfl
 .obtain⟨F,H,I,J⟩:=d V1;rw[show ix 2 8=O 2 from rfl];simp only[zG,aB,nbz,nbs,zC,zD];rw[zF V5,zE trivial];unfold nu
  grind
 .obtain⟨F,H,I,J⟩:=d V1;rw[show ix 3 8=O 3 from rfl];simp only[zG,aB,nbz,nbs,zC,zD];rw[zF V5,zF V5,zE trivial];unfold lR
  grind
 .obtain⟨F,H,I,J⟩:=d V1;rw[show ix 4 8=O 4 from rfl];simp only[zG,aB,nbz,nbs,zC,zD];rw[zF V5,zF V5,zF V5,zE trivial];unfold ov
  grind
 .rw[show ix 5 8=O 5 from rfl];simp only[zG,aB,nbz,nbs,zC,zD];rw[zF V5,zF V5,zF V5,zF V5,zE trivial];unfold oz iq;rw[ae (n:=L-0) V1,ah]
  grind
 .rw[show ix 6 8=O 6 from rfl];simp only[zG,aB,nbz,nbs,zC,zD];rw[zF V5,zF V5,zF V5,zF V5,zF V5,zE trivial];unfold ou iq;rw[ae (n:=L-1) V1,ah]
  grind
 rw[show ix 7 8=O 7 from rfl];simp only[zG,aB,nbz,nbs,zC,zD];rw[zF V5,zF V5,zF V5,zF V5,zF V5,zF V5];unfold lS;rw[ah];by_cases u:q<=0
 .rw[zE u,zE u];rfl
 rw[zF u,zF u,ae (n:=q-1) V1,ah]
 grind
section
variable {c:Cx}
theorem Km (e: ∀k,k<hX c.ns->0<=iG c W k/\iG c W k<=L+1): ∀t∈lu c W,-1<=t/\t<=L:=λt d=>by
 unfold lu at d
 grind
theorem aU4 {n:Int}(h:0<=n)(d:hX n<hX c.ns):rg (lu c W) n=iG c W (hX n)-1:=by
 have e:=GV (c:=c) (W:=W) d;have g:=ig (r:=lu c W) (k:=hX n) (by rw[pD];exact d)
 grind
def FL.in' (h:FL B s)(d:B<=2305843009213693952):(0<=s.c0/\s.c0<=2305843009213693952)/\(0<=s.c1/\s.c1<=2305843009213693952)/\(0<=s.c2/\s.c2<=2305843009213693952)/\(0<=s.c3/\s.c3<=2305843009213693952):=by
 unfold FL at h;omega
def aI4 (d:k<hX c.ns)(e:0<iG c W k):0<kt c W:=by
 unfold kt;exact List.countP_pos_iff.2 ⟨k,cJ.2 d,zB e⟩
def aB2 (h:c.Ok)(hi:Inv c s)(y:0<kt c s.W):c.sl<=s.lv:=by
 have n:=h.num;have e:=hi.lv;have g:=n.fixed;have d:=n.sl;have u:1<=c.sl:=by rw[d];have:=n.R;split<;>omega
 have v:c.sl*1<=c.sl*(kt c s.W:Int):=Int.mul_le_mul_of_nonneg_left V1 V1;have:=n.R;have:=n.Q;omega
def do2 (h:c.Ok)(E:c.mode≠3)(hi:Inv c s)(hc:FL B s)(hB:B<=2305843009213693952){a n:Int}:
  ki a n c.fixed c.tp c.sl c.ns c.mode c.R c.Q c.len c.words s.L s.p s.q s.c0 s.c1 s.c2 s.c3 s.z c.X c.T c.l c.k c.P c.tk (c.off 8:Int) c.ns (c.X.length:Int) s.lv s.pk c.words s.W=O (bh9 c<|E6 c a n s):=by
 have nm:=h.num;have I:=hi.w;have hL:=hi.L;have hp:=hi.p;have hq:=hi.q;have F:=hi.pk;have Z:=h.ns;obtain⟨k0,k1,k2,k3⟩:=hc.in' hB;obtain⟨M,g2,N,g4⟩:=JQ h hi;have htp:=nm.tp;rw[zF E]at htp
 have g:(lu c s.W).length<1000000:=by
  rw[pD];rcases Nat.eq_zero_or_pos c.ns.toNat with h0|h0
  .omega
  .have:=(sM h E h0).2.2;omega
 unfold ki lO;simp only[zG];rw[zA E,zD];unfold fC;rw[Kl h E I (λk V=>by have:=hi.tag k V;omega)];simp only[zG];rw[ED hL hp hq g<|Km hi.tag];simp only[zG,cg];rw[XQ hL hp hq V1];simp only[zG];unfold bk5 E6;by_cases H:lW a n=Zb∨7<a
 .rw[zE H,zE H,zB V2,zC];rfl
 rw[zF H,zF H];obtain⟨h2,V⟩:=EL H;rw[pD,Int.toNat_of_nonneg Z.1];by_cases K:(2<=a/\a<=4)/\c.ns<=n
 .rw[zE K,zE K,zB V2,zC];rfl
 rw[zF K,zF K]
 have A:(2<=a/\a<=4)->n=((n.toNat:Nat):Int)/\n.toNat<c.ns.toNat/\rg (lu c s.W) n=iG c s.W n.toNat-1:=λhs=>by
  have hn:=EM h2 ⟨V1,hs.2⟩
  have u:n.toNat<c.ns.toNat:=by
   omega
  exact⟨V1,u,aU4 hn.1 u⟩
 simp only[oo,bm,aj,zG];have e: ∀l:Zd,l.length<1000000->gd (du (0+l.length) 8) (O l)=O l:=λl hl=>bg V1 V1
 have C: ∀(i:Nat) (x:Int),((lu c s.W).set i x).length<1000000:=λi x=>by simp only[List.length_set];exact g
 rcases V with rfl|rfl|rfl|rfl|rfl|rfl|rfl
 .have hn:=EM h2 V1;simp only[aD,reduceIte];by_cases d:s.L-s.p<n
  .rw[zE d,zE d,zB V2,zC];rfl
  rw[zF d,zF d,zA V2,zD,show ix 1 8=O 1 from rfl];simp only[zG,aB,nbz,nbs,zC,zD];have D:n=((n.toNat:Nat):Int):=by omega
  have y:=at8 h I (m:=n.toNat) (L:=s.L) (p:=s.p) (q:=s.q) (c0:=s.c0) (c1:=s.c1) (c2:=s.c2) (c3:=s.c3) (z:=s.z) (sb:=(c.off 8:Int)) (sn:=c.ns) (sx:=(c.X.length:Int)) (lv:=s.lv) (pk:=s.pk) (bd:=c.words) V1 V1 V1;rw[<-D]at y;rw[y];simp only[zG];rw[e _ g];rfl
 .obtain⟨D,u,J⟩:=A V1;simp only[aD,reduceIte];rw[J];by_cases d:0<=iG c s.W n.toNat-1
  .rw[zE d,zE d,zB V2,zC];rfl
  rw[zF d,zF d,zA V2,zD,show ix 2 8=O 2 from rfl];simp only[zG,aB,nbz,nbs,zC,zD];have y:=bm9 h E hi u V1;rw[<-D]at y;rw[y];simp only[zG];rw[e _<|C _ _];rfl
 .obtain⟨D,u,J⟩:=A V1;simp only[aD,reduceIte];rw[J];by_cases d:iG c s.W n.toNat-1<0
  .rw[zE d,zE d,zB V2,zC];rfl
  rw[zF d,zF d,zA V2,zD,show ix 3 8=O 3 from rfl];simp only[zG,aB,nbz,nbs,zC,zD];have y:=aF8 h E hi u V1;rw[<-D]at y;rw[y];simp only[zG];rw[e _ g];rfl
 .obtain⟨D,u,J⟩:=A V1;simp only[aD,reduceIte];rw[J];by_cases d:iG c s.W n.toNat-1<0
  .rw[zE d,zE d,zB V2,zC];rfl
  rw[zF d,zF d,zA V2,zD,show ix 4 8=O 4 from rfl];simp only[zG,aB,nbz,nbs,zC,zD];have y:=bs2 h E hi u V1<|aB2 h hi<|aI4 u V1;rw[<-D]at y;rw[y];simp only[zG];rw[e _<|C _ _];rfl
 .simp only[aD,reduceIte];by_cases d:s.q≠ -1
  .rw[zE d,zE d,zB V2,zC];rfl
  rw[zF d,zF d];by_cases v:s.p≠s.L
  .rw[zE v,zE v,zB V2,zC];rfl
  rw[zF v,zF v,zA V2,zD,show ix 5 8=O 5 from rfl];simp only[zG,aB,nbz,nbs,zC,zD];rw[bu2 h I M F.1 V1 N];simp only[zG];rw[e _ g,ae (n:=s.c2+1) V1,ae (n:=s.c3+1) V1];rfl
 .simp only[aD,reduceIte];by_cases d:s.q≠ -1
  .rw[zE d,zE d,zB V2,zC];rfl
  rw[zF d,zF d];by_cases v:s.p≠s.L-1
  .rw[zE v,zE v,zB V2,zC];rfl
  rw[zF v,zF v,zA V2,zD,show ix 6 8=O 6 from rfl];simp only[zG,aB,nbz,nbs,zC,zD];rw[bq9 h I M F.1 V1 N];simp only[zG];rw[e _ g,ae (n:=s.c1+1) V1,ae (n:=s.c2+1) V1,ae (n:=s.c3+1) V1,ae (n:=s.c3+1+1) V1];rfl
 .simp only[aD,reduceIte];by_cases d:s.q<=0
  .rw[zE d,zE d,zB V2,zC];rfl
  rw[zF d,zF d];by_cases v:s.p≠s.q-1
  .rw[zE v,zE v,zB V2,zC];rfl
  rw[zF v,zF v,zA V2,zD,show ix 7 8=O 7 from rfl];simp only[zG,aB,nbz,nbs,zC,zD];rw[bF5 h I M F.1 V1 N];simp only[zG];rw[e _ g,ae (n:=s.c1+1) V1,ae (n:=s.c3+1) V1];rfl
end
end
section
open Go.IntKind renaming wrap->zH,i64->zI,u64->zJ
open Int renaming reduceEq->aB,le_max_left->cB,toNat_natCast->cD
open List renaming getD_eq_getElem?_getD->aD,range->bD,length_take->cK,countP_append->cM
open Nat renaming le_of_eq->bB,le_refl->cL
section
variable {c:Cx}
def fd (c:Cx)(W W':Zd):Prop:= ∀i,c.off 8<=i->W'[i]?=W[i]?
def fd.refl (W:Zd):fd c W W:=λ_ _=>rfl
def fd.trans {W'':Zd}(h:fd c W W')(d:fd c W' W''):fd c W W'':=λi hi=>(d i hi).trans<|h i hi
def fd.put (h:c.Ok)(d:fd c W W')(e:Wd c W')(hi:i<8)(y:hW w<=c.sz i):fd c W<|put W' (c.off i) w:=λj g=>by
 have u:=gJ (c:=c) (i:=i) (j:=8) hi;have v:=e.in' h (i:=i) V1;rw[aF2 V1<|.inr V1];exact d j g
def fd.rg (h:fd c W W')(hi:c.off 8<=i):rg W' (i:Int)=rg W (i:Int):=by
 unfold Go.V.rg;rw[cD,aD,aD,h i hi]
def fd.tag (h:fd c W W')(k:Nat):iG c W' k=iG c W k:=h.rg Zs
def fd.used (h:fd c W W'):kt c W'=kt c W:=by
 unfold kt
 congr 1
 funext k
 rw[h.tag k]
def fd.seg (h:fd c W W'){n:Nat}(d:c.off 8<=o):seg W' o n=seg W o n:=by
 apply List.ext_getElem?;intro i;rw[Ca,Ca];split
 .exact h _ V1
 rfl
def OT (h:c.Ok)(e:Wd c W)(u:hW c.X+hW c.T<=hW a)(d:hW a<=max (hX c.R) (hX c.Q)):fd c W<|Bc c W a:=by
 have⟨v,g,y⟩:=og h e u d;unfold Bc;refine fd.put h (fd.put h (fd.put h (fd.refl W) e V1 ?_) v V1 ?_) g V1 ?_
 .exact d
 .rw[cK];exact Nat.min_le_left _ _
 rw[qT,eV (n:=hW c.T)<|g.in' h (i:=6) V1];exact cL _
def JL (h:c.Ok)(d:Wd c W)(g:hW x=hW c.X):fd c W<|K0 c W x:=by
 have n:=h.num;have D:=n.R;have C:=n.Q;have A:=n.xtQ;have E:=n.x;have nm:=n.m;have⟨y,e,u⟩:=B5 h d g;have⟨v,I⟩:=Ey h d g;have⟨_,F,H⟩:=re h.pk e (a:=fill c.Q [1]) (t:=(lossR c W x).2.1) (fB V3) (bB u.symm) V1;exact(fd.put h (fd.refl W) d (i:=3) V1<|bB e).trans<|OT h v V1 V1
def Vt (h:c.Ok)(d:Wd c W)(e:hW r=hX c.R)(g:hW t=c.fl.n):fd c W<|PK c W r t:=by
 have n:=h.num;have A:=n.R;have y:=n.xtR;have D:=n.x;have C:=n.n;have⟨u,v⟩:=Kr h d e g;have⟨_,E,F⟩:=re h.pl e u (bB g.symm) V1;exact OT h d V1 V1
def Rb (h:c.Ok)(d:Wd c W)(p:Int):fd c W<|put W (c.off 2) (stepR c W p).1:=
 fd.put h (fd.refl W) d (i:=2) V1 (bB (iW h d p).2.1)
def M9 (h:c.Ok)(d:Wd c W)(p:Int):fd c W (ap3 c W p)/\Wd c (ap3 c W p):=by
 have⟨v,e,g⟩:=iW h d p;have u:=Az h d p;exact⟨(Rb h d p).trans<|Vt h u e g,(Kr h u e g).2⟩
def aq5 (h:c.Ok)(d:Wd c W)(p:Int):hW ((stepR c W p).1.take<|hW c.X)=hW c.X:=by
 have n:=h.num;have y:=n.R;have v:=n.xtR;have⟨e,g,u⟩:=iW h d p;rw[cK];omega
def JK (h:c.Ok)(d:Wd c W)(p:Int):fd c W (QN c W p)/\Wd c (QN c W p):=by
 have⟨A,e,g⟩:=iW h d p;have v:=Az h d p;have u:=aq5 h d p;have y:=(Ey h v u).2;exact⟨((Rb h d p).trans<|JL h v u).trans<|Vt h y e g,(Kr h y e g).2⟩
def aA4 (h:c.Ok)(d:Wd c W)(p:Int):fd c W<|adv1 c W p:=by
 have⟨_,e⟩:=GR h d p;have⟨g,u⟩:=SS h d p;refine fd.put h (fd.put h (fd.refl W) d (i:=2) V1<|bB e) g (i:=1) V1 ?_;rw[cK];exact Nat.min_le_left _ _
def M8 (h:c.Ok){W:Zd}(d:Wd c W)(p:Int): ∀i,fd c W (advW c W p i)
 |0=>fd.refl W
 |i+1=>(M8 h d p i).trans<|aA4 h (MZ h d p i) _
theorem Gq {P P':Nat->Bool}{k:Nat}: ∀{n:Nat},k<n->P k=Zb->P' k=Za->(∀j,j<n->j≠k->P' j=P j)->(bD n).countP P'=(bD n).countP P+1
 |n+1,A,u,v,h=>by
  rw[List.range_succ,cM,cM];by_cases g:k=n
  .subst g
   have e:(bD k).countP P'=(bD k).countP P:=List.countP_congr λj y=>by
    grind
   rw[e];simp[u,v]
  .rw[Gq (n:=n) V1 u v λj y d=>h j V1 d]
   grind
def ad5 (h:j<k):sp c j+(hW c.X+1)<=sp c k:=by
 have d:(j+1)*(hW c.X+1)<=k*(hW c.X+1):=Nat.mul_le_mul_right _ h;rw[Nat.succ_mul]at d;unfold sp;omega
def Ng (d:sp c k+hW w<=hW W)(g:hW w=hW c.X+1)(e:j≠k):iG c (put W (sp c k) w) j=iG c W j:=by
 unfold iG rg;rw[cD,aD,aD,aF2 d];rcases Nat.lt_or_ge j k with h|h
 .exact .inl (by have:=ad5 (c:=c) h;omega)
 exact .inr (by have:=ad5 (c:=c) (show k<j by omega);omega)
def Ak (d:sp c k+hW w<=hW W)(e:hW w=hW c.X+1):iG c (put W (sp c k) w) k=w.getD 0 0:=by
 unfold iG rg;rw[cD,aD,aD,J4 d,zE ⟨cL _,V1⟩,Nat.sub_self]
def Gy {d:Dy}(hi:Inv c s)(y:Wd c d.W)(v:fd c s.W d.W)(h:d.L=s.L)(A:0<=d.p/\d.p<=s.L)(C: -1<=d.q/\d.q<=s.L)(e:d.lv=s.lv)(g:s.pk<=d.pk/\d.pk<=c.words):Inv c d:=
 ⟨y,by rw[h];exact hi.L,by rw[h];exact A,by rw[h];exact C,λk u=>by rw[v.tag,h];exact hi.tag k u,by rw[e,v.used];exact hi.lv,by rw[e];exact⟨Int.le_trans hi.pk.1 g.1,g.2⟩⟩
theorem aN8 (h:c.Ok)(F:c.mode≠3)(hi:Inv c s)(a n:Int):Inv c (E6 c a n s).2:=by
 have nm:=h.num;have v:=hi.w;have hL:=hi.L;have E:=hi.p;have K:=hi.q;have H:=hi.pk;have hns:=h.ns;have nx:=nm.x;have⟨g1,g2,g3,g4⟩:=JQ h hi;have Z:=nm.tp;rw[zF F]at Z;have V:=nm.sl;rw[zF F]at V;have l1:hW (seg s.W (c.off 1)<|hW c.X)=hW c.X:=eV<|v.in' h (i:=1) V1;unfold E6;by_cases M:lW a n=Zb∨7<a
 .rw[zE M];exact hi
 rw[zF M];have⟨h2,hk⟩:=EL M;by_cases h4:(2<=a/\a<=4)/\c.ns<=n
 .rw[zE h4];exact hi
 rw[zF h4]
 have C:(2<=a/\a<=4)->hX n<hX c.ns:=λhs=>by
  have hn:=EM h2 ⟨V1,hs.2⟩;omega
 rcases hk with rfl|rfl|rfl|rfl|rfl|rfl|rfl
 .have hn:=EM h2 V1;simp only[aB,reduceIte];by_cases e:s.L-s.p<n
  .rw[zE e];exact hi
  rw[zF e];exact Gy hi (MZ h v _ _) (M8 h v _ _) rfl ⟨by show 0<=s.p+n;omega,by show s.p+n<=s.L;omega⟩ K rfl ⟨Int.le_refl _,H.2⟩
 .have d:=C V1;simp only[aB,reduceIte];by_cases e:0<=iG c s.W (hX n)-1
  .rw[zE e];exact hi
  rw[zF e];generalize hX n=k at*;have⟨s1,s2,s3⟩:=sM h F d;have⟨t1,t2⟩:=v.tk h;have I:=hi.tag k d;have J:hW (zH zJ (zH zI<|s.p+1)::seg s.W (c.off 1) (hW c.X))=hW c.X+1:=by simp[l1]
  have g:=Ak (c:=c) (W:=s.W) (k:=k) (w:=zH zJ (zH zI<|s.p+1)::seg s.W (c.off 1) (hW c.X)) V1 J
  have hv:(zH zJ (zH zI<|s.p+1)::seg s.W (c.off 1) (hW c.X)).getD 0 0=s.p+1:=by
   show zH zJ (zH zI<|s.p+1)=_;rw[Zi,Zj]
  rw[hv]at g;have u: ∀j,j≠k->iG c (put s.W (sp c k)<|zH zJ (zH zI<|s.p+1)::seg s.W (c.off 1) (hW c.X)) j=iG c s.W j:=λj y=>Ng V1 J y
  have N:=Rg h hi (Q5 d V1)
  have hu:kt c (put s.W (sp c k)<|zH zJ (zH zI<|s.p+1)::seg s.W (c.off 1) (hW c.X))=kt c s.W+1:=by
   unfold kt;exact Gq d (zA V1) (zB (by rw[g];omega)) λj _ y=>by rw[u j y]
  refine⟨v.put h V1,hL,E,K,λj y=> ?_, ?_, ?_⟩
  .by_cases A:j=k
   .subst A;rw[g];show 0<=s.p+1/\s.p+1<=s.L+1;omega
   rw[u j A];exact hi.tag j y
  .show s.lv+c.sl=c.fixed+c.sl*((kt c (put s.W (sp c k) _):Nat):Int);rw[hu,hi.lv]
   grind
  grind
 .have d:=C V1;simp only[aB,reduceIte];by_cases e:iG c s.W (hX n)-1<0
  .rw[zE e];exact hi
  rw[zF e];have⟨s1,s2,s3⟩:=sM h F d;have⟨t1,t2⟩:=v.tk h;have I:=hi.tag _ d;have l2:hW (seg s.W (sp c (hX n)+1)<|hW c.X)=hW c.X:=eV V1;have h1o:=gJ (c:=c) (i:=1) (j:=9) V1;have z1:c.sz 1=hW c.X:=rfl;exact Gy hi (v.put h (by rw[l2];omega)) (fd.put h (fd.refl s.W) v (i:=1) V1 (by rw[l2];exact cL _)) rfl ⟨by show 0<=iG c s.W (hX n)-1;omega,by show iG c s.W (hX n)-1<=s.L;omega⟩ K rfl ⟨Int.le_refl _,H.2⟩
 .have d:=C V1;simp only[aB,reduceIte];by_cases e:iG c s.W (hX n)-1<0
  .rw[zE e];exact hi
  rw[zF e];generalize hX n=k at*;have⟨s1,s2,s3⟩:=sM h F d;have⟨t1,t2⟩:=v.tk h;have I:=hi.tag k d;have J:hW (zeros<|hW c.X+1)=hW c.X+1:=cd _;have g:=Ak (c:=c) (W:=s.W) (k:=k) (w:=zeros<|hW c.X+1) V1 J;have hv:(zeros<|hW c.X+1).getD 0 0=0:=rfl;rw[hv]at g;have u: ∀j,j≠k->iG c (put s.W (sp c k)<|zeros<|hW c.X+1) j=iG c s.W j:=λj y=>Ng V1 J y
  have hu:kt c s.W=kt c (put s.W (sp c k)<|zeros<|hW c.X+1)+1:=by
   unfold kt;exact Gq d (zA V1) (zB V1) λj _ y=>by rw[u j y]
  refine⟨v.put h V1,hL,E,K,λj y=> ?_, ?_, ?_⟩
  .by_cases A:j=k
   .subst A;rw[g];show(0:Int)<=0/\0<=s.L+1;omega
   rw[u j A];exact hi.tag j y
  .show s.lv-c.sl=c.fixed+c.sl*((kt c (put s.W (sp c k)<|zeros<|hW c.X+1):Nat):Int);rw[hi.lv,hu]
   grind
  grind
 .simp only[aB,reduceIte];by_cases e:s.q≠ -1
  .rw[zE e];exact hi
  rw[zF e];by_cases D:s.p≠s.L
  .rw[zE D];exact hi
  rw[zF D];exact Gy hi (Ey h v l1).2 (JL h v l1) rfl E ⟨by show-1<=s.p;omega,E.2⟩ rfl ⟨cB _ _,by show max s.pk (s.lv+(c.fk.n:Int))<=c.words;omega⟩
 .simp only[aB,reduceIte];by_cases e:s.q≠ -1
  .rw[zE e];exact hi
  rw[zF e];by_cases D:s.p≠s.L-1
  .rw[zE D];exact hi
  rw[zF D];exact Gy hi (JK h v s.p).2 (JK h v s.p).1 rfl E ⟨by show-1<=s.p;omega,E.2⟩ rfl ⟨cB _ _,by show max s.pk (s.lv+((c.fl.n:Int)+c.fk.n))<=c.words;omega⟩
 simp only[aB,reduceIte];by_cases e:s.q<=0
 .rw[zE e];exact hi
 rw[zF e];by_cases D:s.p≠s.q-1
 .rw[zE D];exact hi
 rw[zF D];exact Gy hi (M9 h v s.p).2 (M9 h v s.p).1 rfl E ⟨by show-1<=s.p;omega,E.2⟩ rfl ⟨cB _ _,by show max s.pk (s.lv+(c.fl.n:Int))<=c.words;omega⟩
theorem aN7 (g:FL B s)(a n:Int):FL (B+65536) (E6 c a n s).2:=by
 have d:FL (B+65536) s:=by unfold FL at g⊢;omega
 unfold E6;by_cases e:lW a n=Zb∨7<a
 .rw[zE e];exact d
 rw[zF e];obtain⟨h,v⟩:=EL e;split
 .exact d
 split
 .rename_i u;have y:=EM h (by omega);split
  .exact d
  unfold FL at g⊢;simp only;omega
 repeat' split
 all_goals first|exact d|(unfold FL at g⊢;simp only;omega)
end
end
section
def ah0 (h:j<hW t):(t++r)[0+j]?=O (rg t (j:Int)):=by
 rw[Nat.zero_add,List.getElem?_append_left h,ig h]
def KK (h:j<hW r):(t++r)[hW t+j]?=O (rg r (j:Int)):=by
 rw[List.getElem?_append_right (Nat.le_add_right _ _),Nat.add_sub_cancel_left,ig h]
theorem ah1 {v:Int}:(t++r).set (hW t+j) v=t++r.set j v:=by
 grind
def stK (t:Zd)(p d:Nat)(l:Nat->Int)(s:BS):Int×Int×Int×Zd×Zd×Int×Int×Int×Int×Int×Int×Int×Int:=
 ((p:Int)-1,(d:Int),(s.2.2:Int),t++s.1,s.2.1,l 0,l 1,l 2,l 3,l 4,l 5,l 6,l 7)
def bg2 {code:List yG}(D:code.length<=8192){R:Int}(hR:1<=R/\R<=64){e0 e1:Int}(hN:t.length<=1000000)(hw:w.length=t.length+R.toNat):Backs (dk R (e0,w) (e1,code)) code (stK t) (rH t) (VdB R.toNat t.length) (Vp R.toNat)where
 op:=by
  intro p d l s m o C h hg A g F;obtain⟨I,v⟩:=lL D h;obtain⟨v1,v2,v3,v4⟩:=F;obtain⟨q1,q2⟩:=J3 o s.1 s.2.1<|rg t ((s.2.2-1:Nat):Int);refine⟨?_,by unfold rH;exact⟨by simp[v1,q1],by simp[v2,q2],by show m<=s.2.2-1;omega,by show s.2.2-1<=_;omega⟩⟩;obtain⟨u,H,J,e1,N,V,Z,g2,g3⟩:=B2 hg;unfold stK rH;simp only[dk];rw[show((p+1:Nat):Int)-1=(p:Int)by omega,Ze,zD,v];simp only[zG];rw[h];simp only[zG,cr];rw[Ze,zD,Ze,zD];simp only[Ff,zG];rw[ae (n:=(s.2.2:Int)-1) V1,show(s.2.2:Int)-1=((s.2.2-1:Nat):Int)by omega,ae (n:=(w.length:Int)-R) V1,show((w.length:Int)-R).toNat=t.length by omega,show(w.length:Int).toNat-t.length=R.toNat by omega,Nat.sub_zero];have M:s.2.2-1<t.length:=by omega
  generalize s.2.2-1=n at*;unfold FG;simp only[e1,N,V,Int.toNat_natCast];rw[bn (show u<s.2.1.length by omega)];simp only[zG];rw[ig (show u<s.2.1.length by omega)];simp only[zG];rw[bn M];simp only[zG];rw[ah0 M];simp only[zG];rw[bn Z];simp only[zG];rw[KK (show u<s.1.length by omega)];simp only[zG];rw[bn g2];simp only[zG];rw[ah1];have E: ∀x:Int,(s.1.set u x).length=s.1.length:=by simp
  have ha1:(s.2.1.set u 0).length=s.2.1.length:=by simp
  rw[KK (show H<(s.1.set u<|rg t (n:Int)).length by rw[E];omega)];simp only[zG];rw[bn g3];simp only[zG];rw[KK (show J<(s.1.set u<|rg t (n:Int)).length by rw[E];omega)];simp only[zG];rw[bn (show H<(s.2.1.set u 0).length by omega)];simp only[zG];rw[ig (show H<(s.2.1.set u 0).length by omega)];simp only[zG];generalize hP:par o _ _=P;generalize hA:(s.2.1.set u 0).set H _=A2;have hA2:A2.length=s.2.1.length:=by rw[<-hA];simp
  rw[bn (show J<A2.length by omega)];simp only[zG];rw[ig (show J<A2.length by omega)];simp only[zG];rw[ae (n:=(p:Int)-1) V1]
 rep:=by
  intro p q d l s m o e C h A K g F;obtain⟨I,v⟩:=lL D h;obtain⟨h3,h4⟩:=lL D K;unfold stK;simp only[dk];rw[show((p+1:Nat):Int)-1=(p:Int)by omega,Ze,zD,v];simp only[zG];rw[h];simp only[zG,cr];rw[zB A,zC,ae (n:=((q+1:Nat):Int)-1) V1,show((q+1:Nat):Int)-1=(q:Int)by omega,h4];simp only[zG];rw[K];simp only[zG,cr];rw[bn g];simp only[zG];rw[ae (n:=(p:Int)-1) V1,ae (n:=(d:Int)+1) V1];rfl
 nxt:=by
  intro p d l s m o C h hto A g hl hl2 F;obtain⟨I,v⟩:=lL D h;have y:=zl (upd l d<|l d-1) g;rw[pE]at y;unfold upd at y;unfold stK;simp only[dk];rw[show((p+1:Nat):Int)-1=(p:Int)by omega,Ze,zD,v];simp only[zG];rw[h];simp only[zG,cr];rw[Ze,zD,zB A,zC,ae (n:=((d+1:Nat):Int)-1) V1,show((d+1:Nat):Int)-1=(d:Int)by omega,bn g];simp only[zG];rw[zl l g,Zj,y,Zf,zC];rw[ae (n:=((C+1:Nat):Int)-2) V1,show((C+1:Nat):Int)-2=(C:Int)-1 by omega];rfl
 out:=by
  intro p d l s m o C h A g hl F;obtain⟨I,v⟩:=lL D h;have y:=zl (upd l d<|l d-1) g;rw[pE]at y;unfold upd at y;unfold stK;simp only[dk];rw[show((p+1:Nat):Int)-1=(p:Int)by omega,Ze,zD,v];simp only[zG];rw[h];simp only[zG,cr];rw[Ze,zD,zB A,zC,ae (n:=((d+1:Nat):Int)-1) V1,show((d+1:Nat):Int)-1=(d:Int)by omega,bn g];simp only[zG];rw[zl l g,Zj,y,Ze,zD,ae (n:=(p:Int)-1) V1];rfl
section
variable {R:Int} {l:List bx} {f:Fo}
def X5 (h:Prg R l f){e0 e1:Int}(J:hW r=hX R)(H:hW a=hX R)(K:f.n<=hW t)(u:hW t<=1000000)(M:hW w=hW t+hX R):
  ∃b0 b1 b2 b3 y C D E,am (dk R (e0,w) (e1,f.bare.code 0)) co (IntKind.i64.wrap<|(hW (f.bare.code 0):Int)-1,0,(f.n:Int),t++r,a,0,0,0,0,0,0,0,0)=O (t++(jV f r a t).1,(jV f r a t).2.1,b0,b1,b2,b3,y,C,D,E):=by
 have⟨g,_,v,F⟩:=Js (m:=0) (l:=λ_=>0) (s:=((r,a,f.n):BS)) (d:=0) (p:=0) (A:=[]) (B:=[]) (N6<|bg2 (e0:=e0) (e1:=e1) (t:=t) h.clen h.R1 u M) f.bare V2 rfl (Fo.bare_ok f h.ok) f.bare_pos h.hi h.good ⟨J,H,by rw[Fo.bare_n];exact Nat.le_refl _,K⟩;rw[Fo.bare_unroll]at v F;have I:=h.clen;rw[Fo.code_len]at I
 have:=wP v h.steps (c:=(t++(jV f r a t).1,(jV f r a t).2.1,g 0,g 1,g 2,g 3,g 4,g 5,g 6,g 7)) (by
  unfold stK;simp only[dk];rw[Zf,zC]
  rfl)
 have e:stK t (0+f.bare.len) 0 (λ_=>0) ((r,a,f.n):BS)=(IntKind.i64.wrap<|(hW (f.bare.code 0):Int)-1,0,(f.n:Int),t++r,a,0,0,0,0,0,0,0,0):=by
  unfold stK;rw[Fo.code_len,Zi,Nat.zero_add];rfl
 rw[e]at this;exact⟨_,_,_,_,_,_,_,_,this⟩
end
end
section
open Bool renaming not_true->aB
open Int renaming mul_le_mul_of_nonneg_left->aD,toNat_of_nonneg->cB
open List renaming length_append->bB,length_take->bD
section
variable {c:Cx}
def jC (c:Cx)(i:Nat):Nat:=c.off 8+i*hX c.sl
def jk (s:Dy):Int:=if s.q<0 then s.p else s.q
structure InvB (c:Cx)(s:Dy):Prop where
 w:Wd c s.W
 L:s.L=c.len
 p:0<=s.p/\s.p<=s.L
 q: -1<=s.q/\s.q<=s.L
 qp:0<=s.q->s.p=s.q
 lv:s.lv=c.fixed+c.sl*jk s
 pk:s.lv<=s.pk/\s.pk<=c.words
def yq (c:Cx)(W:Zd)(i:Nat):Zd:=seg W (jC c i) c.fl.n
def B9 (c:Cx)(W:Zd)(i:Nat):Zd:=seg W (jC c i+c.fl.n)<|hX c.R
def zk (c:Cx)(W:Zd)(i:Nat):BS:=jV c.fl (B9 c W i) (fill c.R<|seg W (c.off 5)<|hW c.X)<|yq c W i
def Hz (c:Cx)(a n:Int)(s:Dy):Int×Dy:=
 if a=8 then(if n≠0 then(2,s)else if 0<=s.q then(18,s)else if s.p=s.L then(17,s)else
  (0,{s with p:=s.p+1,c1:=s.c1+1,lv:=s.lv+c.sl,pk:=max s.pk<|s.lv+c.sl,W:=put (put (put s.W (c.off 2) (stepR c s.W s.p).1) (jC c<|hX s.p)<|(stepR c s.W s.p).2.1++(stepR c s.W s.p).1) (c.off 1)<|(stepR c s.W s.p).1.take<|hW c.X}))
 else if a=5 then(if n≠0 then(2,s)else if 0<=s.q then(18,s)else if s.p≠s.L then(17,s)else
  (0,{s with q:=s.L,c2:=s.c2+1,c3:=s.c3+1,z:=rg (lossR c s.W<|seg s.W (c.off 1)<|hW c.X).1 0,pk:=max s.pk<|s.lv+c.fk.n,W:=K0 c s.W<|seg s.W (c.off 1)<|hW c.X}))
 else if a=9 then(if n≠0 then(2,s)else if s.q<1 then(18,s)else
  (0,{s with p:=s.q-1,q:=s.q-1,c3:=s.c3+1,lv:=s.lv-c.sl,W:=put (Bc c s.W (zk c s.W<|hX<|s.q-1).2.1) (c.off 1)<|(zk c s.W<|hX<|s.q-1).1.take<|hW c.X}))
 else(2,s)
theorem DC (h:c.Ok)(u:c.mode=3)(hi:i<hX c.ns):hX c.sl=c.fl.n+hX c.R/\c.sl=(c.fl.n:Int)+c.R/\jC c i+hX c.sl<=c.off 9/\c.off 8<=jC c i:=by
 have n:=h.num;have d:=n.sl;rw[zE u]at d;have v:=h.ns;have A:=n.R
 have e:hX (c.sl*c.ns)=hX c.ns*hX c.sl:=by
  grind
 have y:c.off 9=c.off 8+hX c.ns*hX c.sl:=by rw[O6,e]
 have g:(i+1)*hX c.sl<=hX c.ns*hX c.sl:=Nat.mul_le_mul_right _ hi;rw[Nat.succ_mul]at g;unfold jC;omega
def WD (h:c.Ok)(g:c.mode=3)(hi:i<hX c.ns){a17:Int}{k:List bx}{b0 b1 b2 b3:Int}:jw (i:Int) a0 a1 c.sl a4 a5 a6 a7 a8 a9 a10 a11 a12 a13 a14 a15 a16 a17 X T l k c.P b0 b1 b2 b3 W=O (jC c i:Int):=by
 have⟨u,v,d,y⟩:=DC h g hi;have A:=h.off9_le;have n:=h.num;have C:=n.words;have D:=n.R;unfold jw;rw[show ix 8 (hW c.P)=O 8 from bn (k:=8) ZB,zG,Cx.P_get (show 8<10 by omega),zG];have e:(i:Int)*c.sl=((i*hX c.sl:Nat):Int):=by rw[Int.natCast_mul,cB V1]
 unfold jC at d;rw[e,ae (n:=((i*hX c.sl:Nat):Int)) V1,Zi];unfold jC
 congr 1
theorem XP (h:c.Ok)(u:c.mode=3)(hi:InvB c s):0<=s.lv/\s.lv+c.tp<=c.words/\c.words<=1048576/\0<=c.tp/\(jk s<c.ns->s.lv+c.sl<=c.words)/\(0<jk s->c.sl<=s.lv)/\c.ns=s.L:=by
 have n:=h.num;have C:=hi.lv;have D:=h.fit;have E:=n.fixed;have F:=h.ns;have y:=n.sl;rw[zE u]at y;have Z:=n.R;have V:=n.Q;have nw:=n.words;have K:=h.base u;have J:=hi.L;have M:=hi.p;have N:=hi.q;have g:0<=jk s/\jk s<=c.ns:=by unfold jk;split<;>omega
 have H:1<=c.sl:=by omega
 have e:c.sl*jk s<=c.sl*c.ns:=aD g.2 V1;have I:0<=c.sl*jk s:=Int.mul_nonneg V1 g.1;have d:0<=c.tp:=by rw[n.tp];split<;>omega
 refine⟨V1,V1,V1,d,λA=> ?_,λv=> ?_,V1⟩
 .have e:c.sl*(jk s+1)<=c.sl*c.ns:=aD V1 V1
  grind
 have e:c.sl*1<=c.sl*jk s:=aD V1 V1;omega
theorem LU (h:c.Ok)(y:c.mode=3)(u:Wd c W)(hi:i<hX c.ns):
  seg W (jC c i) (hX c.sl)=yq c W i++B9 c W i/\hW (yq c W i)=c.fl.n/\hW (B9 c W i)=hX c.R/\hW (fill c.R<|seg W (c.off 5)<|hW c.X)=hX c.R/\hW (zk c W i).1=hX c.R/\hW (zk c W i).2.1=hX c.R:=by
 have⟨D,E,F,H⟩:=DC h y hi;have⟨N,V⟩:=u.tk h;have n:=h.num;have K:=n.R;have J:=n.xtR;have M:=n.n;have I:hW (seg W (c.off 5)<|hW c.X)=hW c.X:=eV<|u.in' h (i:=5) V1;have d:hW (yq c W i)=c.fl.n:=eV V1;have e:hW (B9 c W i)=hX c.R:=eV V1;have g:hW (fill c.R<|seg W (c.off 5)<|hW c.X)=hX c.R:=fB V1;have⟨_,A,C⟩:=re h.pl e g (t:=yq c W i) (Nat.le_of_eq d.symm) V1;refine⟨?_,d,e,g,A,C⟩;apply List.ext_getElem?;intro j;rw[Ca];by_cases v:j<c.fl.n
 .rw[Zg,List.getElem?_append_left V1];unfold yq;rw[Ca,zE v]
 .rw[List.getElem?_append_right V1,d];unfold B9;rw[Ca]
  grind
def plain1 (h:c.Ok)(H:c.mode=3)(hi:InvB c s)(hc:FL B s)(hB:B<=2305843009213693952){a n:Int}:
  mj a n c.fixed c.tp c.sl c.ns c.mode c.R c.Q c.len c.words s.L s.p s.q s.c0 s.c1 s.c2 s.c3 s.z c.X c.T c.l c.k c.P c.tk s.lv s.pk c.words s.W=O (bh9 c<|Hz c a n s):=by
 have nm:=h.num;have D:=hi.w;have hL:=hi.L;have hp:=hi.p;have hq:=hi.q;have J:=hi.pk;have hns:=h.ns;have nR:=nm.R;have n1:=nm.xtR;have nx:=nm.x;have nt:=nm.t;have nn:=nm.n;have nlen:=nm.len;obtain⟨k0,k1,k2,k3⟩:=hc.in' hB;obtain⟨g1,g2,g3,g4,g5,g6,g7⟩:=XP h H hi;have htp:=nm.tp;rw[zE H]at htp;obtain⟨t1,t2⟩:=D.tk h;unfold mj Hz;by_cases a8:a=8
 .subst a8;rw[zB (show(8:Int)=8 from rfl),zA (show¬(8:Int)=5 by decide)];simp only[zC,zG,aB,zD,reduceIte];by_cases e:n≠0
  .rw[zE e,zB e];rfl
  rw[zF e,zA e];simp only[zD,zG];by_cases d:0<=s.q
  .rw[zE d,zB d];rfl
  rw[zF d,zA d];simp only[zD,zG];by_cases u:s.p=s.L
  .rw[zE u,zB u];rfl
  rw[zF u,zA u];simp only[BEq.rfl,aB,zD,zG,cg];have y:jk s=s.p:=by unfold jk;rw[Zg]
  have A:s.p.toNat<c.ns.toNat:=by omega
  have M:s.p=((s.p.toNat:Nat):Int):=by omega
  obtain⟨s1,s2,K,s4⟩:=DC h H A;obtain⟨f1,f2,f3⟩:=iW h D s.p;have w1:=Az h D s.p;have N:=g5 (by rw[y];omega);rw[rb V1 g1 N V1];simp only[zG];rw[bn1 h D];simp only[zG];have C:=WD h H A (a0:=c.fixed) (a1:=c.tp) (a4:=c.ns) (a5:=c.mode) (a6:=c.R) (a7:=c.Q) (a8:=c.len) (a9:=c.words) (a10:=s.L) (a11:=s.p) (a12:=s.q) (a13:=s.c0) (a14:=IntKind.i64.wrap<|s.c1+1) (a15:=s.c2) (a16:=s.c3) (a17:=s.z) (X:=c.X) (T:=c.T) (l:=c.l) (k:=c.k) (b0:=c.tk) (b1:=s.lv+c.sl) (b2:=max s.pk<|s.lv+c.sl) (b3:=c.words) (W:=put s.W (c.off 2) (stepR c s.W s.p).1);rw[<-M]at C;rw[C];simp only[zG];have I:((stepR c s.W s.p).2.1++(stepR c s.W s.p).1).length=c.sl.toNat:=by rw[bB];omega
  rw[bg V1 V1];obtain⟨u1,u2⟩:=w1.tk h;unfold Cx.tk;rw[tM (by rw[I];exact K) u1 u2];simp only[zG];rw[Zk,bp,show(c.X.length:Int).toNat-0=c.X.length by omega,List.drop_zero,show((c.off 9:Nat):Int)=c.tk from rfl,put1 (ii:=1) (i:=1) h (w1.put h (by rw[I];exact K)) rfl V1 ZO];simp only[zG];rw[ae (n:=s.p+1) V1,ae (n:=s.c1+1) V1];rfl
 rw[zA a8,zF a8];simp only[zD,zG];by_cases a5:a=5
 .subst a5;rw[zB (show(5:Int)=5 from rfl)];simp only[zC,aB,zD,reduceIte];by_cases e:n≠0
  .rw[zE e,zB e];rfl
  rw[zF e,zA e];simp only[zD,zG];by_cases d:0<=s.q
  .rw[zE d,zB d];rfl
  rw[zF d,zA d];simp only[zD,zG];by_cases u:s.p≠s.L
  .rw[zE u,zA u];rfl
  rw[zF u,zB (show s.p=s.L by omega)];simp only[BEq.rfl,aB,zD,zG,cg];rw[bu1 h D g1 J.1 V1 g3];simp only[zG];rw[ae (n:=s.c2+1) V1,ae (n:=s.c3+1) V1];rfl
 rw[zA a5,zF a5];simp only[zD,Bool.not_false,zC];by_cases a9:a=9
 .subst a9;rw[zA (show¬((9:Int)≠9)from λk=>k rfl)];simp only[reduceIte];by_cases e:n≠0
  .rw[zE e,zB e];rfl
  rw[zF e,zA e];simp only[zD,zG];by_cases E:s.q<1
  .rw[zE E,zB E];rfl
  rw[zF E,zA E];simp only[zD,zG,cg];have y:jk s=s.q:=by unfold jk;rw[Zh]
  have A:(s.q-1).toNat<c.ns.toNat:=by omega
  have M:s.q-1=(((s.q-1).toNat:Nat):Int):=by omega
  obtain⟨s1,s2,K,s4⟩:=DC h H A;obtain⟨b1,b2,b3,b4,b5,b6⟩:=LU h H D A;rw[ae (n:=s.q-1) V1];have C:=WD h H A (a0:=c.fixed) (a1:=c.tp) (a4:=c.ns) (a5:=c.mode) (a6:=c.R) (a7:=c.Q) (a8:=c.len) (a9:=c.words) (a10:=s.L) (a11:=s.q-1) (a12:=s.q-1) (a13:=s.c0) (a14:=s.c1) (a15:=s.c2) (a16:=s.c3) (a17:=s.z) (X:=c.X) (T:=c.T) (l:=c.l) (k:=c.k) (b0:=c.tk) (b1:=s.lv) (b2:=s.pk) (b3:=c.words) (W:=s.W);rw[<-M]at C;rw[C];simp only[zG]
  have hrd:ei (jC c (s.q-1).toNat:Int) c.sl c.tk s.W=O (0,yq c s.W (s.q-1).toNat++B9 c s.W (s.q-1).toNat):=by
   have:=Bb (W:=s.W) (o:=jC c (s.q-1).toNat) (n:=c.sl.toNat) K t1 t2;rw[cB V1,b1]at this;exact this
  rw[hrd];simp only[zG];generalize (s.q-1).toNat=i at*;have F:(yq c s.W i++B9 c s.W i).length=c.fl.n+c.R.toNat:=by rw[bB];omega
  have hwr:IntKind.i64.wrap (((yq c s.W i++B9 c s.W i).length:Int)-c.R)=(c.fl.n:Int):=by rw[F,Zi];omega
  simp only[hwr];rw[Zk,bp,Zk,bp,Vn (ii:=5) (i:=5) h D rfl V1];simp only[zG];have l5:(seg s.W (c.off 5) c.X.length).length=c.X.length:=eV<|D.in' h (i:=5) V1;rw[show c.sz 5=c.X.length from rfl,Nl nR V1];simp only[zG];rw[Hl h.pl,h.pl.writes];simp only[zG];rw[zA (show¬((0:Int)≠0)by simp),zD];rw[zA (show¬(((((yq c s.W i++B9 c s.W i).length:Int).toNat-(c.fl.n:Int).toNat:Nat):Int)≠c.R)by omega),zD,zA (show¬(((fill c.R<|seg s.W (c.off 5) c.X.length).length:Int)≠c.R)by omega),zD,zA (show¬((((c.fl.n:Int).toNat-0:Nat):Int)<(c.fl.n:Int))by omega),zD];obtain⟨z0,z1,z2,z3,z4,z5,z6,z7,hz⟩:=X5 h.pl (e0:=0) (e1:=0) (t:=yq c s.W i) (r:=B9 c s.W i) (a:=fill c.R<|seg s.W (c.off 5) c.X.length) (w:=yq c s.W i++B9 c s.W i) b3 b4 (Nat.le_of_eq b2.symm) V1 (by rw[F,b2])
  rw[hz];simp only[zG];have eK:jV c.fl (B9 c s.W i) (fill c.R<|seg s.W (c.off 5) c.X.length) (yq c s.W i)=zk c s.W i:=rfl;rw[eK];generalize zk c s.W i=v at*;obtain⟨v1,v2,v3⟩:=og h (a:=v.2.1) D V1 V1;rw[put1 (ii:=4) (i:=4) h D rfl V1 V6];simp only[zG];rw[Zk,bp,show(c.X.length:Int).toNat-0=c.X.length by omega,List.drop_zero,put1 (ii:=5) (i:=5) h v1 rfl V1 (by rw[bD,show c.sz 5=c.X.length from rfl];omega)];simp only[zG];rw[Vn (ii:=6) (i:=6) h v2 rfl V1];simp only[zG];rw[show c.sz 6=c.T.length from rfl];have hg:(seg (put (put s.W (c.off 4) v.2.1) (c.off 5)<|v.2.1.take c.X.length) (c.off 6) c.T.length).length=c.T.length:=eV<|v2.in' h (i:=6) V1;rw[Jo (f:=ck c.X v.2.1 _) (X:=c.X) (a:=v.2.1) (g:=seg (put (put s.W (c.off 4) v.2.1) (c.off 5)<|v.2.1.take c.X.length) (c.off 6) c.T.length) V1 V1 V1<|λs=>rfl]
  simp only[zG];rw[put1 (ii:=6) (i:=6) h v2 rfl V1 (by rw[qT,hg];exact Nat.le_refl _)];simp only[zG];have Z:(yq c s.W i++v.1).length=c.fl.n+c.R.toNat:=by rw[bB];omega
  rw[ae (n:=(c.fl.n:Int)+(c.X.length:Int)) V1,Zk,bp,show((c.fl.n:Int)+(c.X.length:Int)).toNat-(c.fl.n:Int).toNat=c.X.length by omega,Int.toNat_natCast];have V:(yq c s.W i++v.1).drop c.fl.n=v.1:=List.drop_left' b2;rw[V];have eB:put (put (put s.W (c.off 4) v.2.1) (c.off 5)<|v.2.1.take c.X.length) (c.off 6) (vw c.X.length (seg (put (put s.W (c.off 4) v.2.1) (c.off 5)<|v.2.1.take c.X.length) (c.off 6) c.T.length) v.2.1)=Bc c s.W v.2.1:=rfl;rw[eB,put1 (ii:=1) (i:=1) h v3 rfl V1 ZO];simp only[zG];rw[wN V1 (g6 (by rw[y];omega)) J.1 V1];simp only[zG];rw[ae (n:=s.c3+1) V1];rfl
 rw[zF a9,zB a9];by_cases e:n≠0
 .rw[zB e];rfl
 .rw[zA e];rfl
def do1 (h:c.Ok)(d:c.mode=3)(hi:InvB c s)(g:FL B s)(e:B<=2305843009213693952){a n:Int}:
  qi a n c.fixed c.tp c.sl c.ns c.mode c.R c.Q c.len c.words s.L s.p s.q s.c0 s.c1 s.c2 s.c3 s.z c.X c.T c.l c.k c.P c.tk s.lv s.pk c.words s.W=O (bh9 c<|Hz c a n s):=by
 unfold qi dj;simp only[zG];rw[zB d,zC,plain1 h d hi g e];rfl
end
end
section
open Int renaming le_refl->aB
open Nat renaming le_refl->aD,zero_add->bB
theorem ao2 {x t:Nat}{R:Int}{k:List bx}{n:Int}(u:OpsOk l)(g:OpsOk k)(h:(gP m x t R l Q k n b).2.2.2.2=0):
  sK m x t R l Q k n b=0/\∃e,gP m x t R l Q k n b=(sJ x t R Q,rS m l k,rR m x R l,e,0)/\(0<=e/\e<=1048576)/\sJ x t R Q+rS m l k+rR m x R l*e<=b/\(m=3->e=n):=by
 unfold gP at h⊢;by_cases d:sK m x t R l Q k n b≠0
 .grind
 rw[zF d]at h⊢;have d:sK m x t R l Q k n b=0:=by omega
 have s:=PC u g d;have f:=EC u g d;have D:=f.mode;have E:=f.len;have F:=f.bud;have H:=s.xs;have I:=s.ts;have J:=s.r;have K:=s.r';have M:=s.tp;have N:=s.sl;have C:0<=sJ x t R Q/\sJ x t R Q<=1000:=by unfold sJ;omega
 split at h
 .cases h
 rename_i c;rw[zF c];refine⟨d,_,rfl, ?_, ?_,λv=>zE v⟩
 .split
  .omega
  .rename_i c3;unfold least at c;rw[zF c3]at c;have A:(b-sJ x t R Q-rS m l k) / rR m x R l<=b-sJ x t R Q-rS m l k:=Int.ediv_le_self _ V1;have y:0<=(b-sJ x t R Q-rS m l k) / rR m x R l:=Int.ediv_nonneg V1 V1;omega
 .unfold least at c;split
  .rename_i c3
   grind
  .rename_i c3;rw[zF c3]at c;have:=Int.mul_ediv_self_le (x:=b-sJ x t R Q-rS m l k) (k:=rR m x R l) V1;omega
def bE5 {R:Int}{k:List bx}{n:Int}(u:OpsOk l)(g:OpsOk k)(h:(gP m (hW X) (hW T) R l Q k n b).2.2.2.2=0):
  ∃c:Cx,c.Ok/\c.mode=m/\c.X=X/\c.T=T/\c.R=R/\c.l=l/\c.Q=Q/\c.k=k/\c.len=n/\c.words=b/\gP m (hW X) (hW T) R l Q k n b=(c.fixed,c.tp,c.sl,c.ns,0):=by
 have⟨v,ns,C,D,E,F⟩:=ao2 u g h;have⟨H,I⟩:=ao0 (Hq v).1;have⟨A,e⟩:=aE6 u H;have⟨y,d⟩:=aE6 g I;exact⟨⟨m,R,Q,n,b,X,T,l,k,A,y,sJ (hW X) (hW T) R Q,rS m l k,rR m (hW X) R l,ns⟩,⟨u,g,v,e,d,rfl,rfl,rfl,D,E,F⟩,rfl,rfl,rfl,rfl,rfl,rfl,rfl,rfl,rfl,C⟩
section
variable {c:Cx}
def Cx.Ok.plan (h:c.Ok):gP c.mode (hW c.X) (hW c.T) c.R c.l c.Q c.k c.len c.words=(c.fixed,c.tp,c.sl,c.ns,0)->jA c.mode c.X c.T c.R c.l c.Q c.k c.len c.words=O (c.fixed,c.tp,c.sl,c.ns,0):=λe=>by
 rw[Rs h.hl h.hk,e]
def aT8 (h:c.Ok): ∀i,i<10->pre [((hW c.T:Nat):Int),((hW c.X:Nat):Int),c.R,c.Q,max c.R c.Q,((hW c.X:Nat):Int),((hW c.T:Nat):Int),c.tp,c.sl*c.ns] i=(c.off i:Int):=by
 have n:=h.num;have v:=n.R;have u:=n.Q;have nm:=n.mul;have e:0<=c.tp:=by rw[n.tp];split<;>omega
 have d: ∀i,i<9->([((hW c.T:Nat):Int),((hW c.X:Nat):Int),c.R,c.Q,max c.R c.Q,((hW c.X:Nat):Int),((hW c.T:Nat):Int),c.tp,c.sl*c.ns]:Zd).getD i 0=(c.sz i:Int):=λi hi=>by
  rcases(show i=0∨i=1∨i=2∨i=3∨i=4∨i=5∨i=6∨i=7∨i=8 by omega)with rfl|rfl|rfl|rfl|rfl|rfl|rfl|rfl|rfl
  .rfl
  .rfl
  .show c.R=(hX c.R:Int);omega
  .show c.Q=(hX c.Q:Int);omega
  .show max c.R c.Q=((max (hX c.R) (hX c.Q):Nat):Int);omega
  .rfl
  .rfl
  .show c.tp=(hX c.tp:Int);omega
  show c.sl*c.ns=(hX (c.sl*c.ns):Int);omega
 intro i;induction i with
 |zero=>intro _;rfl
 |succ i g=>
  intro hi;simp only[pre];rw[g V1,d i V1];rfl
def X4 (h:c.Ok)(e:gP c.mode c.X.length c.T.length c.R c.l c.Q c.k c.len c.words=(c.fixed,c.tp,c.sl,c.ns,0)):w8 c.mode c.X c.T c.R c.l c.Q c.k c.len c.words=O (0,c.P):=by
 have s:=PC h.hl h.hk h.hc;have g:SFacts c.X.length c.T.length c.R c.Q c.tp c.sl:=by rw[h.tp,h.sl];exact s
 unfold w8;rw[h.plan e];simp only[zG];rw[zA V2,zD,Pc h.hl h.hk h.hc];simp only[zG];have d:=Yp (n:=c.ns) g h.ns;rw[<-h.tp,<-h.sl,VY d];simp only[zG]
 congr 2
 unfold Cx.P;apply List.map_congr_left;intro i hi;exact aT8 h i<|cJ.1 hi
def QR (h:hW l<=4096):ga l=O l:=by
 unfold ga;rw[bg V1 V1]
def xY {l:Zd}(h:hW l<=1048576):aj l=O l:=by
 unfold aj;rw[bg V1 V1]
def J1 (h:c.Ok)(e:gP c.mode (hW c.X) (hW c.T) c.R c.l c.Q c.k c.len c.words=(c.fixed,c.tp,c.sl,c.ns,0)):
  su c.mode c.X c.T c.R c.l c.Q c.k c.len c.words=O (.inr (c.fixed,c.tp,c.sl,c.ns,c.mode,c.R,c.Q,c.len,c.words,c.len,c.X,c.T,c.l,c.k,c.P)):=by
 have n:=h.num;have g:=n.x;have d:=n.t;unfold su;rw[h.plan e,zG,zA V2,zD,QR h.hl.len,QR h.hk.len,xY V1,xY V1,zG,X4 h e];rfl
def Tv (c:Cx)(W:Zd):Zd:=put (put W (c.off 0) c.T) (c.off 1) c.X
def new1 (c:Cx):Dy:=⟨c.len,0,-1,0,0,0,0,0,c.fixed,c.fixed,Tv c<|zeros<|hX c.words⟩
def new2 (c:Cx):Dy:=⟨c.len,0,-1,0,0,0,0,0,c.fixed,c.fixed,Tv c<|put (zeros<|hX c.words) (c.off 8)<|zeros<|hX<|c.sl*c.ns⟩
def DF :Wd c<|zeros<|hX c.words:=cd _
def yf (h:c.Ok):0<=c.fixed/\c.fixed<=c.words/\1<=c.fixed/\c.fixed=(c.off 7:Int):=by
 have n:=h.num;have v:=n.R;have u:=n.Q;have e:=n.fixed;have nm:=n.mul;have g:=h.fit;have d:0<=c.tp:=by rw[n.tp];split<;>omega
 refine⟨V1,V1,V1, ?_⟩;rw[bt7,e];omega
def JW (h:c.Ok)(e:Wd c W):Wd c (put W (c.off 0) c.T)/\Wd c (Tv c W)/\fd c W (Tv c W):=by
 have y:=gJ (c:=c) (i:=0) (j:=9) V1;have A:=gJ (c:=c) (i:=1) (j:=9) V1;have u:c.sz 0=hW c.T:=rfl;have v:c.sz 1=hW c.X:=rfl;have d:=e.put h (w:=c.T) (o:=c.off 0) V1;have g:=d.put h (w:=c.X) (o:=c.off 1) V1;exact⟨d,g,fd.put h (fd.put h (fd.refl W) e (i:=0) V1<|Nat.le_of_eq u.symm) d (i:=1) V1<|Nat.le_of_eq v.symm⟩
def QK (h:c.Ok):xy c.words=O (zeros<|hX c.words):=by
 have f:=yf h;have n:=h.num;have d:=n.words;unfold xy sq;rw[Ze,zD,Ze,zD,zG,zA V2,zD,gdz V1];rfl
def Ri (h:c.Ok):BO c.words=O (0,0,c.words):=by
 have n:=h.num;have d:=n.words;unfold BO qx;rw[zA (show¬(0:Int)<0 by omega),zA (show¬c.words<0 by omega)];rfl
def HD {n:Nat}(h:o+n<=hW W)(d:hW W<=1048576):dn (n:Int) (o:Int) W=O ((o:Int),0,((o+n:Nat):Int)):=by
 unfold dn ti;rw[Ze,zD,zG,ae (n:=(hW W:Int)-o) V1,Ze,zD,ae (n:=(o:Int)+n) V1]
 congr 2
def bC6 (h:c.Ok)(y:c.mode=3)(e:gP c.mode c.X.length c.T.length c.R c.l c.Q c.k c.len c.words=(c.fixed,c.tp,c.sl,c.ns,0)):
  tF c.mode c.X c.T c.R c.l c.Q c.k c.len c.words=O (.inr<|.inl (c.fixed,c.tp,c.sl,c.ns,c.mode,c.R,c.Q,c.len,c.words,c.len,c.X,c.T,c.l,c.k,c.P,c.tk,c.fixed,c.fixed,c.words,(new1 c).W)):=by
 have f:=yf h;have n:=h.num;have D:=n.words;have nm:=n.mul;have C:=h.off9_le;have v:c.off 9=c.off 8+(c.sl*c.ns).toNat:=O6;have g:(zeros c.words.toNat).length=c.words.toNat:=cd _;obtain⟨A,E,F⟩:=JW h<|DF (c:=c);unfold tF;rw[J1 h e];simp only[zG,cg];rw[QK h,Ri h];simp only[zG];rw[rb V1 V1 V1 V1];simp only[zG];rw[show ix 8 c.P.length=O 8 from bn (k:=8) ZB];simp only[zG];rw[Cx.P_get (show 8<10 by omega)];simp only[zG];rw[show dn (c.off 8:Int) 0 (zeros c.words.toNat)=O (((0:Nat):Int),0,((0+c.off 8:Nat):Int))from HD (o:=0) (n:=c.off 8) (by rw[bB,g];omega) V1];unfold dj;simp only[zG];rw[zB y,zC,Int.mul_comm,ae (n:=c.sl*c.ns) V1,show c.sl*c.ns=((c.sl*c.ns).toNat:Int)by omega,HD V1 V1]
 simp only[zG,gr];have d:((0+c.off 8+(c.sl*c.ns).toNat:Nat):Int)=c.tk:=by unfold Cx.tk;omega
 rw[d,put1 (ii:=0) (i:=0) h DF rfl V1 (aD _)];simp only[zG];rw[put1 (ii:=1) (i:=1) h A rfl V1 (aD _)];simp only[zG];have u:(0:Int)+c.fixed=c.fixed:=by omega
 have em:max (0:Int) c.fixed=c.fixed:=by omega
 rw[u,em];rfl
def bq2 (h:c.Ok)(y:c.mode≠3)(e:gP c.mode c.X.length c.T.length c.R c.l c.Q c.k c.len c.words=(c.fixed,c.tp,c.sl,c.ns,0)):
  tF c.mode c.X c.T c.R c.l c.Q c.k c.len c.words=O (.inr<|.inr (c.fixed,c.tp,c.sl,c.ns,c.mode,c.R,c.Q,c.len,c.words,c.len,c.X,c.T,c.l,c.k,c.P,c.tk,(c.off 8:Int),c.ns,(c.X.length:Int),c.fixed,c.fixed,c.words,(new2 c).W)):=by
 have f:=yf h;have n:=h.num;have H:=n.words;have nm:=n.mul;have I:=n.x;have D:=h.ns;have F:=h.off9_le;have C:c.off 9=c.off 8+(c.sl*c.ns).toNat:=O6;have v:(zeros c.words.toNat).length=c.words.toNat:=cd _;have d:=n.sl;rw[zF y]at d;have w0:Wd c<|put (zeros c.words.toNat) (c.off 8)<|zeros (c.sl*c.ns).toNat:=(DF (c:=c)).put h Z7;obtain⟨E,J,K⟩:=JW h w0;unfold tF;rw[J1 h e];simp only[zG,cg];rw[QK h,Ri h];simp only[zG];rw[rb V1 V1 V1 V1];simp only[zG];rw[show ix 8 c.P.length=O 8 from bn (k:=8) ZB];simp only[zG];rw[Cx.P_get (show 8<10 by omega)];simp only[zG];rw[show dn (c.off 8:Int) 0 (zeros c.words.toNat)=O (((0:Nat):Int),0,((0+c.off 8:Nat):Int))from HD (o:=0) (n:=c.off 8) (by rw[bB,v];omega) V1];unfold dj
 simp only[zG];rw[zA y,zD];unfold FR my fp;rw[zB (show 0<=c.ns by omega),zB (show c.ns<=1048576 by omega),zB (show 1<=(c.X.length:Int)by omega),zB (show(c.X.length:Int)<=64 by omega)];simp only[zC,zD,Bool.not_true,zG];rw[ae (n:=(c.X.length:Int)+1) V1,<-d,Int.mul_comm c.ns,ae (n:=c.sl*c.ns) V1];have g:c.sl*c.ns=(((c.sl*c.ns).toNat:Nat):Int):=by omega
 rw[show dn (c.sl*c.ns) ((0+c.off 8:Nat):Int) (zeros c.words.toNat)=O (((0+c.off 8:Nat):Int),0,((0+c.off 8+(c.sl*c.ns).toNat:Nat):Int))from by
  conv=>lhs;rw[g]
  exact HD V1 V1]
 simp only[zG];rw[zA V2,zD,gdz V1,show List.replicate (c.sl*c.ns).toNat (0:Int)=zeros (c.sl*c.ns).toNat from rfl,tM (by rw[cd];exact aD _) V1 V1,bB];simp only[zG,cg];have u:((c.off 8+(c.sl*c.ns).toNat:Nat):Int)=c.tk:=by unfold Cx.tk;omega
 rw[u,Ln (ii:=0) (i:=0) h w0 rfl V1 (aD _)];simp only[zG];rw[Ln (ii:=1) (i:=1) h E rfl V1 (aD _)];simp only[zG];have A:(0:Int)+c.fixed=c.fixed:=by omega
 have em:max (0:Int) c.fixed=c.fixed:=by omega
 rw[A,em];rfl
def aC6 (h:c.Ok)(e:c.mode=3):InvB c<|new1 c:=by
 have f:=yf h;have n:=h.num;have g:=n.len;refine⟨(JW h DF).2.1,rfl,⟨aB _,by show 0<=c.len;omega⟩,⟨by show(-1:Int)<= -1;omega,by show(-1:Int)<=c.len;omega⟩,λd=> ?_, ?_,⟨aB _,f.2.1⟩⟩
 .have d:(0:Int)<= -1:=d;omega
 show c.fixed=c.fixed+c.sl*0;omega
theorem JV (h:c.Ok)(g:c.mode≠3)(e:k<hX c.ns):iG c (new2 c).W k=0:=by
 have v:=h.off9_le;have y:=h.num.words;have d:c.off 9=c.off 8+hX (c.sl*c.ns):=O6;have w0:Wd c<|put (zeros<|hX c.words) (c.off 8)<|zeros<|hX<|c.sl*c.ns:=(DF (c:=c)).put h Z7;have⟨C,D,u⟩:=JW h w0;show iG c (Tv c _) k=0;rw[u.tag];have⟨A,_,_⟩:=sM h g e;unfold iG rg;rw[Int.toNat_natCast,List.getD_eq_getElem?_getD,J4 (by rw[cd,cd];omega)];unfold zeros
 grind
def aC7 (h:c.Ok)(e:c.mode≠3):Inv c<|new2 c:=by
 have f:=yf h;have n:=h.num;have y:=n.len;have A:=n.words;have v:=h.off9_le;have g:c.off 9=c.off 8+hX (c.sl*c.ns):=O6;have w0:Wd c<|put (zeros<|hX c.words) (c.off 8)<|zeros<|hX<|c.sl*c.ns:=(DF (c:=c)).put h Z7
 have u:kt c (new2 c).W=0:=by
  unfold kt;rw[List.countP_eq_zero];intro k d;rw[JV h e<|cJ.1 d];decide
 refine⟨(JW h w0).2.1,⟨by show 0<=c.len;omega,by show c.len<=65535;omega⟩,⟨aB _,by show 0<=c.len;omega⟩,⟨by show(-1:Int)<= -1;omega,by show(-1:Int)<=c.len;omega⟩,λk d=> ?_, ?_,⟨aB _,f.2.1⟩⟩
 .rw[JV h e d];exact⟨aB _,by show(0:Int)<=c.len+1;omega⟩
 rw[u];show c.fixed=c.fixed+c.sl*0;omega
end
end
end Go.V
