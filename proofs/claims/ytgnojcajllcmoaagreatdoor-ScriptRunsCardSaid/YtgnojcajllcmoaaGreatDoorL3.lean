/- A part of the proof. No condition. -/
import Derived.Test.YtgnojcajllcmoaaGreatDoorL2
set_option linter.all false
namespace Go.V
open Go.Ab
open Option renaming some->O,none->Y
open Bool renaming true->Za,false->Zb
open Decidable renaming decide->Zc
open List renaming mem_range->cJ
open List renaming length->ft
open Int renaming toNat->fu
open Option renaming bind->gn
variable {T W W' X a r t w x:Zd}{B L Q a0 a1 a10 a11 a12 a13 a14 a15 a16 a2 a3 a4 a5 a6 a7 a8 a9 bd c0 c1 c2 c3 i0 ii lv p pk q sb sn sx z:Int}{i j k o:Nat}{l:List bx}
set_option maxRecDepth 100000
section
open Go.IntKind renaming wrap->zH,i64->zI,u64->zJ
def zq (f:Nat->Int): ∀{j:Nat},j<8->List.getD [f 0,f 1,f 2,f 3,f 4,f 5,f 6,f 7] j 0=f j
 |0,_=>rfl
 |1,_=>rfl
 |2,_=>rfl
 |3,_=>rfl
 |4,_=>rfl
 |5,_=>rfl
 |6,_=>rfl
 |7,_=>rfl
 |n+8,h=>by omega
def app (o:bx)(x y:Int):Int:=
 if o.1=1 then zH zJ (x+y)else if o.1=2 then zH zJ (x-y)else if o.1=3 then zH zJ (x*y)else if o.1=4 then zH zJ (0-x)else if o.1=5 then o.2.2.2.2 else if o.1=6 then x else 0
def Kc (o:bx)(x y:Int):qd o.1 o.2.1 o.2.2.1 o.2.2.2.1 o.2.2.2.2 x y=O (app o x y):=by
 unfold qd app;simp only[ah]
 repeat' split
 all_goals rfl
def VC (R:Nat)(o:bx):Prop:=(0<=o.2.1/\o.2.1<R)/\(0<=o.2.2.1/\o.2.2.1<R)/\0<=o.2.2.2.1/\o.2.2.2.1<R
def B6 {R:Nat}{o:bx}(h:VC R o): ∃d a b:Nat,o.2.1=d/\o.2.2.1=a/\o.2.2.2.1=b/\d<R/\a<R/\b<R:=by
 unfold VC at h;exact⟨fu o.2.1,fu o.2.2.1,fu o.2.2.2.1,V1,V1,V1,V1,V1,V1⟩
def rg (r:Zd)(k:Int):Int:=r.getD (fu k) 0
theorem ia (h:k<ft r):r[k]?=O (rg r (k:Int)):=by
 unfold rg
 grind
abbrev TS :=Zd×Zd×Nat
def iB (o:bx)(s:TS):TS:=(s.1.set (fu o.2.1)<|app o (rg s.1 o.2.2.1)<|rg s.1 o.2.2.2.1,s.2.1.set s.2.2<|rg s.1 o.2.1,s.2.2+1)
def VdT (R N m:Nat)(s:TS):Prop:=ft s.1=R/\ft s.2.1=N/\s.2.2+m<=N
def stT (p d:Nat)(l:Nat->Int)(s:TS):Int×Int×Int×Zd×Zd×Int×Int×Int×Int×Int×Int×Int×Int:=
 ((p:Int),(s.2.2:Int),(d:Int),s.1,s.2.1,l 0,l 1,l 2,l 3,l 4,l 5,l 6,l 7)
def lj {code:List yG}{p:Nat}{x:yG}(b:ft code<=8192)(h:code[p]?=O x):p<ft code/\ix (p:Int) (ft code)=O p:=by
 have:=(List.getElem?_eq_some_iff.1 h).1;exact⟨this,bl this⟩
def aq3 {code:List yG}(y:code.length<=8192){R N:Nat}(hN:N<=1000000):Runs (kN code) code stT iB (VdT R N) (VC R)where
 op:=by
  intro p d l s m o D h M v b A;obtain⟨C,g⟩:=lj y h;obtain⟨H,E,F,I,J,K,g1,g2,g3⟩:=B6 M;obtain⟨v1,v2,v3⟩:=A;refine⟨?_,by unfold iB;exact⟨by simp[v1],by simp[v2],by show s.2.2+1+m<=N;omega⟩⟩;unfold stT iB;simp only[kN];rw[Ze,zD,g];simp only[zG];rw[h];simp only[zG,cq];rw[Ze,zD,Ze,zD];simp only[Kc,zG];rw[I,J,K,bl (show H<s.1.length by omega)];simp only[zG];rw[ia (show H<s.1.length by omega)];simp only[zG];rw[bl (show s.2.2<s.2.1.length by omega)];simp only[zG];rw[ia (show s.2.2<s.2.1.length by omega)];simp only[zG];rw[bl (show E<s.1.length by omega)];simp only[zG];rw[ia (show E<s.1.length by omega)];simp only[zG];rw[bl (show F<s.1.length by omega)];simp only[zG];rw[ia (show F<s.1.length by omega)]
  simp only[zG];rw[ad (n:=(p:Int)+1) V1,ad (n:=(s.2.2:Int)+1) V1];rfl
 rep:=by
  intro p d l s m o D h v b A;obtain⟨C,g⟩:=lj y h;unfold stT;simp only[kN];rw[Ze,zD,g];simp only[zG];rw[h];simp only[zG,cq];rw[zB v,zC,bl b];simp only[zG];rw[ad (n:=(p:Int)+1) V1,ad (n:=(d:Int)+1) V1];rfl
 nxt:=by
  intro p d l s m e D h v b V Z A;obtain⟨C,g⟩:=lj y h;have u:=zq (upd l d<|l d-1) b;rw[oX]at u;unfold upd at u;unfold stT;simp only[kN];rw[Ze,zD,g];simp only[zG];rw[h];simp only[zG,cq];rw[Ze,zD,zB v,zC,ad (n:=((d+1:Nat):Int)-1) V1,show((d+1:Nat):Int)-1=(d:Int)by omega,bl b];simp only[zG];rw[zq l b,Zk,u,Zf,zC];rfl
 out:=by
  intro p d l s m e D h v b V A;obtain⟨C,g⟩:=lj y h;have u:=zq (upd l d<|l d-1) b;rw[oX]at u;unfold upd at u;unfold stT;simp only[kN];rw[Ze,zD,g];simp only[zG];rw[h];simp only[zG,cq];rw[Ze,zD,zB v,zC,ad (n:=((d+1:Nat):Int)-1) V1,show((d+1:Nat):Int)-1=(d:Int)by omega,bl b];simp only[zG];rw[zq l b,Zk,u,Ze,zD,ad (n:=(p:Int)+1) V1];rfl
abbrev FS :=Zd×Nat
def M6 (o:bx)(s:FS):FS:=(s.1.set (fu o.2.1)<|app o (rg s.1 o.2.2.1)<|rg s.1 o.2.2.2.1,s.2+1)
def VdF (R M m:Nat)(s:FS):Prop:=ft s.1=R/\s.2+m<=M
def stF (p d:Nat)(l:Nat->Int)(s:FS):Int×Int×Int×Zd×Int×Int×Int×Int×Int×Int×Int×Int:=
 ((p:Int),(s.2:Int),(d:Int),s.1,l 0,l 1,l 2,l 3,l 4,l 5,l 6,l 7)
def aH1 {code:List yG}(y:code.length<=8192){R M:Nat}(hM:M<=1000000):Runs (iI (-1) code) code stF M6 (VdF R M) (VC R)where
 op:=by
  intro p d l s m o D h N v b A;obtain⟨C,g⟩:=lj y h;obtain⟨H,E,F,I,J,K,g1,g2,g3⟩:=B6 N;obtain⟨v1,v2⟩:=A;refine⟨?_,by unfold M6;exact⟨by simp[v1],by show s.2+1+m<=M;omega⟩⟩;unfold stF M6;simp only[iI];rw[zA (show¬((p:Int)=(code.length:Int))by omega),zD,zA (show¬((s.2:Int)= -1)by omega),zD,g];simp only[zG];rw[h];simp only[zG,cq];rw[Ze,zD,Ze,zD];simp only[Kc,yz,zG];rw[I,J,K,bl (show E<s.1.length by omega)];simp only[zG];rw[ia (show E<s.1.length by omega)];simp only[zG];rw[bl (show F<s.1.length by omega)];simp only[zG];rw[ia (show F<s.1.length by omega)];simp only[zG];rw[bl (show H<s.1.length by omega)];simp only[zG];rw[ia (show H<s.1.length by omega)];simp only[zG]
  rw[ad (n:=(p:Int)+1) V1,ad (n:=(s.2:Int)+1) V1];rfl
 rep:=by
  intro p d l s m o D h v b A;obtain⟨C,g⟩:=lj y h;unfold stF;simp only[iI];rw[zA (show¬((p:Int)=(code.length:Int))by omega),zD,zA (show¬((s.2:Int)= -1)by omega),zD,g];simp only[zG];rw[h];simp only[zG,cq];rw[zB v,zC,bl b];simp only[zG];rw[ad (n:=(p:Int)+1) V1,ad (n:=(d:Int)+1) V1];rfl
 nxt:=by
  intro p d l s m e D h v b V Z A;obtain⟨C,g⟩:=lj y h;have u:=zq (upd l d<|l d-1) b;rw[oX]at u;unfold upd at u;unfold stF;simp only[iI];rw[zA (show¬((p:Int)=(code.length:Int))by omega),zD,zA (show¬((s.2:Int)= -1)by omega),zD,g];simp only[zG];rw[h];simp only[zG,cq];rw[Ze,zD,zB v,zC,ad (n:=((d+1:Nat):Int)-1) V1,show((d+1:Nat):Int)-1=(d:Int)by omega,bl b];simp only[zG];rw[zq l b,Zk,u,Zf,zC];rfl
 out:=by
  intro p d l s m e D h v b V A;obtain⟨C,g⟩:=lj y h;have u:=zq (upd l d<|l d-1) b;rw[oX]at u;unfold upd at u;unfold stF;simp only[iI];rw[zA (show¬((p:Int)=(code.length:Int))by omega),zD,zA (show¬((s.2:Int)= -1)by omega),zD,g];simp only[zG];rw[h];simp only[zG,cq];rw[Ze,zD,zB v,zC,ad (n:=((d+1:Nat):Int)-1) V1,show((d+1:Nat):Int)-1=(d:Int)by omega,bl b];simp only[zG];rw[zq l b,Zk,u,Ze,zD,ad (n:=(p:Int)+1) V1];rfl
def par (o:bx)(x y:Int):Int×Int:=
 if o.1=1 then(1,1)else if o.1=2 then(1,18446744073709551615)else if o.1=3 then(y,x)else if o.1=4 then(18446744073709551615,0)else if o.1=6 then(1,0)else(0,0)
def Fl (o:bx)(x y:Int):lN o.1 o.2.1 o.2.2.1 o.2.2.2.1 o.2.2.2.2 x y=O (par o x y):=by
 unfold lN par;simp only[ah]
 repeat' split
 all_goals rfl
def FN (o:bx)(r a:Zd)(t:Int):Zd×Zd:=
 let g:=rg a o.2.1
 let b:=r.set (fu o.2.1) t
 let a1:=a.set (fu o.2.1) 0
 let q:=par o (rg b o.2.2.1) (rg b o.2.2.2.1)
 let a2:=a1.set (fu o.2.2.1) (zH zJ<|rg a1 o.2.2.1+zH zJ (q.1*g))
 (b,a2.set (fu o.2.2.2.1)<|zH zJ<|rg a2 o.2.2.2.1+zH zJ (q.2*g))
def YW {o:bx}{n:Nat}(F:VC r.length o)(K:a.length=r.length)(u:n<t.length):
  oj o.1 o.2.1 o.2.2.1 o.2.2.2.1 o.2.2.2.2 (n:Int) r a t=O (FN o r a<|rg t (n:Int)):=by
 obtain⟨b,e,g,v,y,A,h,H,I⟩:=B6 F;unfold oj;simp only[Fl,zG];unfold FN;simp only[v,y,A,Int.toNat_natCast];rw[bl (show b<a.length by omega)];simp only[zG];rw[ia (show b<a.length by omega)];simp only[zG];rw[bl u];simp only[zG];rw[ia u];simp only[zG];rw[bl h];simp only[zG];rw[ia h];simp only[zG];have d: ∀x:Int,(r.set b x).length=r.length:=by simp
 have E:(a.set b 0).length=a.length:=by simp
 rw[bl (show e<(r.set b<|rg t (n:Int)).length by rw[d];omega)];simp only[zG];rw[ia (show e<(r.set b<|rg t (n:Int)).length by rw[d];omega)];simp only[zG];rw[bl (show g<(r.set b<|rg t (n:Int)).length by rw[d];omega)];simp only[zG];rw[ia (show g<(r.set b<|rg t (n:Int)).length by rw[d];omega)];simp only[zG];rw[bl (show e<(a.set b 0).length by omega)];simp only[zG];rw[ia (show e<(a.set b 0).length by omega)];simp only[zG];generalize J:par o _ _=P;generalize C:(a.set b 0).set e _=A2;have D:A2.length=a.length:=by rw[<-C];simp
 rw[bl (show g<A2.length by omega)];simp only[zG];rw[ia (show g<A2.length by omega)];simp only[zG]
abbrev BS :=Zd×Zd×Nat
def ri (t:Zd)(o:bx)(s:BS):BS:=((FN o s.1 s.2.1<|rg t ((s.2.2-1:Nat):Int)).1,(FN o s.1 s.2.1<|rg t ((s.2.2-1:Nat):Int)).2,s.2.2-1)
def VdB (R N m:Nat)(s:BS):Prop:=ft s.1=R/\ft s.2.1=R/\m<=s.2.2/\s.2.2<=N
def stB (p d:Nat)(l:Nat->Int)(s:BS):Int×Int×Int×Zd×Zd×Int×Int×Int×Int×Int×Int×Int×Int:=
 ((p:Int)-1,(d:Int),(s.2.2:Int),s.1,s.2.1,l 0,l 1,l 2,l 3,l 4,l 5,l 6,l 7)
def Kg (o:bx)(r a:Zd)(t:Int):ft (FN o r a t).1=ft r/\ft (FN o r a t).2=ft a:=by
 unfold FN;simp
def bt7 {code:List yG}(A:code.length<=8192){R:Nat}(hN:t.length<=1000000):Backs (ge t code) code stB (ri t) (VdB R t.length) (VC R)where
 op:=by
  intro p d l s m o y h I v b C;obtain⟨D,g⟩:=lj A h;obtain⟨F,Z,v3,v4⟩:=C;obtain⟨N,V⟩:=Kg o s.1 s.2.1<|rg t ((s.2.2-1:Nat):Int);refine⟨?_,by unfold ri;exact⟨by simp[F,N],by simp[Z,V],by show m<=s.2.2-1;omega,by show s.2.2-1<=_;omega⟩⟩;unfold stB ri;simp only[ge];rw[show((p+1:Nat):Int)-1=(p:Int)by omega,Ze,zD,g];simp only[zG];rw[h];simp only[zG,cq];rw[Ze,zD,Ze,zD,ad (n:=(s.2.2:Int)-1) V1,show(s.2.2:Int)-1=((s.2.2-1:Nat):Int)by omega,YW (by rw[F];exact I) V1 V1];simp only[zG];rw[ad (n:=(p:Int)-1) V1]
 rep:=by
  intro p q d l s m o e y h v E b C;obtain⟨D,g⟩:=lj A h;obtain⟨h3,H⟩:=lj A E;unfold stB;simp only[ge];rw[show((p+1:Nat):Int)-1=(p:Int)by omega,Ze,zD,g];simp only[zG];rw[h];simp only[zG,cq];rw[zB v,zC,ad (n:=((q+1:Nat):Int)-1) V1,show((q+1:Nat):Int)-1=(q:Int)by omega,H];simp only[zG];rw[E];simp only[zG,cq];rw[bl b];simp only[zG];rw[ad (n:=(p:Int)-1) V1,ad (n:=(d:Int)+1) V1];rfl
 nxt:=by
  intro p d l s m o y h M v b J K C;obtain⟨D,g⟩:=lj A h;have u:=zq (upd l d<|l d-1) b;rw[oX]at u;unfold upd at u;unfold stB;simp only[ge];rw[show((p+1:Nat):Int)-1=(p:Int)by omega,Ze,zD,g];simp only[zG];rw[h];simp only[zG,cq];rw[Ze,zD,zB v,zC,ad (n:=((d+1:Nat):Int)-1) V1,show((d+1:Nat):Int)-1=(d:Int)by omega,bl b];simp only[zG];rw[zq l b,Zk,u,Zf,zC];rw[ad (n:=((y+1:Nat):Int)-2) V1,show((y+1:Nat):Int)-2=(y:Int)-1 by omega];rfl
 out:=by
  intro p d l s m o y h v b J C;obtain⟨D,g⟩:=lj A h;have u:=zq (upd l d<|l d-1) b;rw[oX]at u;unfold upd at u;unfold stB;simp only[ge];rw[show((p+1:Nat):Int)-1=(p:Int)by omega,Ze,zD,g];simp only[zG];rw[h];simp only[zG,cq];rw[Ze,zD,zB v,zC,ad (n:=((d+1:Nat):Int)-1) V1,show((d+1:Nat):Int)-1=(d:Int)by omega,bl b];simp only[zG];rw[zq l b,Zk,u,Ze,zD,ad (n:=(p:Int)-1) V1];rfl
end
section
open Bool renaming and_eq_true->cB,not_eq_true'->cD
open List renaming getElem?_append_right->aD,append_assoc->bD
open Nat renaming le_refl->aB,sub_self->bB
theorem bt8 {w v c:Int}{n:Nat}(h:BP w v=O c)(d:0<=v)(e:w=(n:Int)):c=((n*fu v:Nat):Int):=by
 have b:((fu v:Nat):Int)=v:=Int.toNat_of_nonneg d;rw[Int.natCast_mul,b,<-e];unfold BP at h
 grind
def Y4 (l:List bx)(m S:Zd):Prop:=ft m=ft l/\ft S=ft l/\∀(A B:List bx) (o e:bx) (b:Fo),l=A++o::(b.src++e::B)->b.Ok->o.1=7->e.1=0->
 m[ft A]?=O ((ft A+1+b.len:Nat):Int)/\S[ft A]?=O ((b.n*rj o:Nat):Int)
theorem bc2 {m S R:Zd}(H:MOK l m)(Z:ft S=ft l)(J: ∀o∈l,UC o)(h: ∀j,j<ft l->∃a b,S[j]?=O a/\R[j]?=O b/\bh5 l j a b):Y4 l m S:=by
 refine⟨H.len,Z,λA B o e b v y I E=> ?_⟩;have F:ft l=ft A+1+(b.len+(ft B+1)):=by rw[v];simp[Fo.src_len];omega
 have g:ft A<ft l:=by omega
 have d:l[ft A]=o:=by
  grind
 have D:l.drop (ft A+1)=b.src++e::B:=by rw[v,List.drop_append,List.drop_of_length_le V1,show ft A+1-ft A=1 by omega];rfl
 refine⟨?_, ?_⟩
 .have:=H.at' (ft A) g (by rw[d];exact I) b.src e B D E<|Fo.scan0 y;rw[Fo.src_len]at this;exact this
 have⟨a,c,M,h2,N⟩:=h (ft A) g;have⟨V,C⟩:=(N g).1 (by rw[d];exact I) b.src e B D E<|Fo.scan0 y;have u: ∀x∈b.src,0<=x.2.2.2.2:=λx hx=>(J x (by rw[v];simp[hx])).1
 have K:=Fo.Q9_n b y u V;rw[d]at C;rw[M,bt8 C (J o (by rw[v];simp)).1 K];rfl
section
variable {l:List bx} {m S:Zd} {em es:Int}
def bu9 {op:Zd}{out:List yG}(g:ft l<=8192)(h:ft out<=8192){x:bx}(d:l[i]?=O x)(e:0<x.1/\x.1<7):
  fS l (em,m) (es,S) ((i:Int),op,out)=O (.inl (((i+1:Nat):Int),op,out++[cq x 0])):=by
 have⟨hi,b⟩:=List.getElem?_eq_some_iff.1 d;simp only[fS];rw[zB (show(i:Int)<(ft l:Int)by omega),zC,bq hi,b,zG,zA (show¬x.1=7 by omega),zA (show¬x.1=0 by omega)];simp only[zD,zG,ci];rw[au V1 V1,Zi];rfl
def aQ4 {op:Zd}{out:List yG}(A:ft l<=8192){x:bx}(v:l[i]?=O x)(u:x.1=7)(g:S[i]?=O 0)(e:m[i]?=O (j:Int))(y:j<=8192):
  fS l (em,m) (es,S) ((i:Int),op,out)=O (.inl (((j+1:Nat):Int),op,out)):=by
 have⟨hi,h⟩:=List.getElem?_eq_some_iff.1 v;have⟨b,_⟩:=List.getElem?_eq_some_iff.1 g;have⟨d,_⟩:=List.getElem?_eq_some_iff.1 e;simp only[fS];rw[zB (show(i:Int)<(ft l:Int)by omega),zC,bq hi,h,zG,zB u];simp only[zC];rw[bl b,zG,g];simp only[zG,gM];rw[decide_true,zC,bl d,zG,e];simp only[zG,gM];rw[Zi];rfl
def aQ3 {n:Int}{op:Zd}{out:List yG}(v:ft l<=8192)(y:ft out<=8192)(A:ft op<=8192){x:bx}(u:l[i]?=O x)(g:x.1=7)(d:S[i]?=O n)(h:n≠0):
  fS l (em,m) (es,S) ((i:Int),op,out)=O (.inl (((i+1:Nat):Int),op++[(ft out:Int)],out++[cq x 0])):=by
 have⟨hi,e⟩:=List.getElem?_eq_some_iff.1 u;have⟨b,_⟩:=List.getElem?_eq_some_iff.1 d;simp only[fS];rw[zB (show(i:Int)<(ft l:Int)by omega),zC,bq hi,e,zG,zB g];simp only[zC];rw[bl b,zG,d];simp only[zG,gM];rw[zA h,zD,au V1 V1];simp only[zG,gM,ci];rw[au V1 V1,Zi];rfl
theorem az4 {q:Nat}{op:Zd}{out:List yG}{o:bx}{t:Nat}(y:ft l<=8192)(A:ft out<=8192)(C:ft op<=8192){x:bx}(v:l[i]?=O x)(u:x.1=0)(g:out[q]?=O (cq o t)):
  fS l (em,m) (es,S) ((i:Int),op++[(q:Int)],out)=O (.inl (((i+1:Nat):Int),op,out.set q (cq o<|ft out+1)++[cq x<|q+1])):=by
 have⟨hi,h⟩:=List.getElem?_eq_some_iff.1 v;have⟨b,_⟩:=List.getElem?_eq_some_iff.1 g;have e:ft (op++[(q:Int)])=ft op+1:=by simp
 simp only[fS];rw[zB (show(i:Int)<(ft l:Int)by omega),zC,bq hi,h,zG,zA (show¬x.1=7 by omega),zB u];simp only[zD,zC,zG,ci];rw[ad (n:=(ft (op++[(q:Int)]):Int)-1) V1,show(ft (op++[(q:Int)]):Int)-1=(ft op:Int)by omega,bl (show ft op<(ft<|op++[(q:Int)]) by omega),zG,aD<|aB _,bB];simp only[List.getElem?_cons_zero,zG];rw[Zl,bp,bl b,zG,g,zG,au V3 V1];simp only[zG,gM,ci]
 have d:(op++[(q:Int)]).take (fu (ft op:Int)-0)=op:=by
  simp_all
 rw[d,ad (n:=(i:Int)+1) V1,ad (n:=(ft out:Int)+1) V1,ad (n:=(q:Int)+1) V1];rfl
theorem OO (g:ft l<=8192)(y:Y4 l m S): ∀(f:Fo) (A B:List bx) (op:Zd) (out:List yG),l=A++f.src++B->f.Ok->ft op<=ft A->ft out<=ft A->
  ∃k,k<=f.len/\Reach (fS l (em,m) (es,S)) k ((ft A:Int),op,out) (((ft A+f.len:Nat):Int),op,out++f.bare.code (ft out))
 | .nil,A,B,op,out,d,_,_,_=>by
  refine⟨0,aB _, ?_⟩;simp only[Fo.bare,Fo.code,Fo.len,List.append_nil,Nat.add_zero];exact Reach.refl
 | .op o r,A,B,op,out,d,F,hp,ho=>by
  have K:ft (A++[o])=ft A+1:=by simp
  have Z:ft l=ft A+(r.len+1)+ft B:=by rw[d];simp[Fo.src,Fo.src_len];omega
  have H:l[ft A]?=O o:=by rw[d,bD,aD<|aB _,bB];rfl
  have⟨k,I,D⟩:=OO g y r (A++[o]) B op (out++[cq o 0]) ZH F.2 V1 V3;refine⟨1+k,by simp only[Fo.len];omega, ?_⟩;have E:=(Reach.one<|bu9 (em:=em) (es:=es) (op:=op) (out:=out) g V1 H F.1).trans (show Reach _ k _ _ from by rw[K]at D;exact D);simp only[Fo.bare,Fo.code,Fo.len]
  grind
 | .rep o b e r,A,B,op,out,d,F,hp,ho=>by
  have⟨⟨I,D⟩,k3,k4⟩:=F;have Z:ft l=ft A+(b.len+r.len+2)+ft B:=by rw[d];simp[Fo.src,Fo.src_len];omega
  have H:l[ft A]?=O o:=by rw[d,bD,aD<|aB _,bB];rfl
  have⟨hm,N⟩:=y.2.2 A (r.src++B) o e b ZH k3 I D;have M:ft (A++o::b.src)=ft A+1+b.len:=by simp[Fo.src_len];omega
  have hxe:l[ft A+1+b.len]?=O e:=by
   rw[show l=(A++o::b.src)++(e::(r.src++B))by rw[d];simp[Fo.src],<-M,aD<|aB _,bB];rfl
  have h:ft (A++o::(b.src++[e]))=ft A+1+b.len+1:=by simp[Fo.src_len];omega
  simp only[Fo.bare,Fo.len];by_cases hz:b.n*rj o=0
  .rw[zE hz];rw[hz]at N;have⟨k,g1,v⟩:=OO g y r (A++o::(b.src++[e])) B op out ZH k4 V1 V1;refine⟨1+k,V1, ?_⟩;have E:=(Reach.one<|aQ4 (em:=em) (es:=es) (op:=op) (out:=out) g H I N hm V1).trans (show Reach _ k _ _ from by rw[h]at v;exact v)
   grind
  .rw[zF hz];have K:ft (A++[o])=ft A+1:=by simp
   have⟨kb,b1,b2⟩:=OO g y b (A++[o]) (e::(r.src++B)) (op++[(ft out:Int)]) (out++[cq o 0]) ZH k3 V3 V3;rw[K]at b2;have hbl:=b.bare_len;have hrl:=r.bare_len;have u:ft (out++[cq o 0]++b.bare.code (ft<|out++[cq o 0]))=ft out+1+b.bare.len:=by simp[Fo.code_len];omega
   have hq:(out++[cq o 0]++b.bare.code (ft<|out++[cq o 0]))[ft out]?=O (cq o 0):=by
    rw[bD,aD<|aB _,bB];rfl
   have J:=az4 (em:=em) (es:=es) (m:=m) (S:=S) (op:=op) g V1 V1 hxe D hq;rw[u]at J
   have C:(out++[cq o 0]++b.bare.code (ft<|out++[cq o 0])).set (ft out) (cq o<|ft out+1+b.bare.len+1)=out++cq o (ft out+1+b.bare.len+1)::b.bare.code (ft out+1):=by
    simp_all
   rw[C]at J;have⟨k,g1,v⟩:=OO g y r (A++o::(b.src++[e])) B op (out++cq o (ft out+1+b.bare.len+1)::b.bare.code (ft out+1)++[cq e<|ft out+1]) ZH k4 V1 (by rw[h];simp[Fo.code_len];omega);rw[h]at v;refine⟨1+kb+1+k,V1, ?_⟩;have E:=(((Reach.one<|aQ3 (em:=em) (es:=es) (m:=m) (op:=op) (out:=out) g V1 V1 H I N V1).trans b2).trans<|Reach.one J).trans v;rw[show ft A+(b.len+r.len+2)=ft A+1+b.len+1+r.len by omega]
   have e1:out++cq o (ft out+1+b.bare.len+1)::b.bare.code (ft out+1)++[cq e<|ft out+1]++r.bare.code (ft<|out++cq o (ft out+1+b.bare.len+1)::b.bare.code (ft out+1)++[cq e<|ft out+1])=out++(Fo.rep o b.bare e r.bare).code (ft out):=by
    have V:ft (out++cq o (ft out+1+b.bare.len+1)::b.bare.code (ft out+1)++[cq e<|ft out+1])=ft out+b.bare.len+2:=by simp[Fo.code_len];omega
    rw[V];simp only[Fo.code];rw[show ft out+1+b.bare.len+1=ft out+b.bare.len+2 by omega];simp
   rw[e1]at E;exact E
end
def QS :DR l=gn (kL l) λr=>O (r.2.1,r.2.2.1):=rfl
def am2 {R:Int}(h:Bv R l=0):J5 l=0/\Jb R l=0/\Jc l=0/\IP l=0:=by
 unfold Bv at h;omega
structure Prg (R:Int)(l:List bx)(f:Fo):Prop where
 ops:OpsOk l
 ok:f.Ok
 src:f.src=l
 z:Bv R l=0
 R1:1<=R/\R<=64
 deep:f.hi<=8
 n:f.n<=65536
 w:eb l=((f.n:Int),0)
 regs: ∀o∈l,0<o.1/\o.1<7->VC (fu R) o
theorem aF6 {R:Int}(h:OpsOk l)(I:Bv R l=0): ∃f,Prg R l f:=by
 have⟨E,F,J,K⟩:=am2 I
 have e:JV l=Za:=by
  unfold J5 at E;split at E
  .assumption
  omega
 have g:Kn R l=Za:=by
  unfold Jb at F;split at F
  .assumption
  omega
 unfold JV at e;rw[cB,decide_eq_true_eq,cD]at e;have⟨hs,hr⟩:=e;unfold Kn at g;rw[cB,decide_eq_true_eq,cD]at g;have⟨N,Z⟩:=g;have⟨f,y,u⟩:=Fo.parse _ l (aB _) hs
 have hq: ∃t,Q9 l=O t/\t<=65536:=by
  unfold IP eb at K
  grind
 have⟨t,ht,V⟩:=hq;have hn:t=(f.n:Int):=Fo.Q9_n f y (λx hx=>(h.v x<|u▸hx).1) (by rw[u];exact ht);refine⟨f,h,y,u,I,N, ?_,V1, ?_,λo H D=> ?_⟩
 .have M:=Fo.hi_le y;rw[u]at M;unfold Jc OE at J
  grind
 .unfold eb
  grind
 have A:=List.any_eq_false.1 hr o H;have C:=List.any_eq_false.1 Z o H;have A:wO o=Za:=by simpa using A
 have C:TJ R o=Zb:=by simpa using C
 have⟨k,d,a,b,v⟩:=o;have D:k=1∨k=2∨k=3∨k=4∨k=5∨k=6:=by simp only at D;omega
 unfold VC
 rcases D with rfl|rfl|rfl|rfl|rfl|rfl<;>
  .simp[wO,FO,bu]at A;simp[TJ,bu]at C;simp only;omega
def Hx {R:Int}{f:Fo}(b:Prg R l f):nE R l=O (0,f.bare.code 0):=by
 unfold nE;rw[QF b.ops];simp only[zG];rw[b.z,zA V2,zD];have K:=b.ops.len;have E:bt l 0=O 0:=by rw[<-b.src];exact Fo.scan0 b.ok
 obtain⟨m,A,y⟩:=MZ (l:=l) V1 E;obtain⟨r,D,N,V,e⟩:=Ku (l:=l) V1 b.ops.v;rw[A,QS,D];simp only[zG];have F:=b.w;rcases e with⟨e,_⟩|⟨_,_,I,Z,J⟩
 .rw[F]at e;exact(e rfl).elim
 have u:=bc2 y I (λo C=>b.ops.v o C) J;obtain⟨k,M,H⟩:=OO (em:=0) (es:=r.2.1) V1 u f [] [] [] [] (by simp[b.src]) b.ok V2 V2;have g:f.len=l.length:=by rw[<-Fo.src_len,b.src]
 have h:=H<|18446744073709551616-k;rw[show 18446744073709551616-k+k=cj by unfold cj;omega,show 18446744073709551616-k=(18446744073709551615-k)+1 by omega]at h
 have d:am (fS l (0,m) (r.2.1,r.2.2.1)) cj ((0:Int),([]:Zd),([]:List yG))=O (f.bare.code 0):=by
  refine h.trans ?_;rw[bh];simp only[fS];rw[zA (by rw[g];simp),zD];rfl
 rw[d];rfl
end
section
open List renaming replicate->aB
def wN {α γ:Type}{g:α->Option (α⊕γ)}{s d:α}{c:γ}(h:Reach g k s d)(u:k<=1000000000)(e:g d=O (.inr c)):am g cj s=O c:=by
 have b:=h<|18446744073709551616-k;rw[show 18446744073709551616-k+k=cj by unfold cj;omega,show 18446744073709551616-k=(18446744073709551615-k)+1 by omega]at b;refine b.trans ?_;rw[bh,e];rfl
section
variable {R:Int} {l:List bx} {f:Fo}
def Prg.len (h:Prg R l f):f.len<=4096:=by
 have:=h.ops.len;rw[<-Fo.src_len,h.src];exact this
def Prg.clen (h:Prg R l f):ft (f.bare.code 0)<=8192:=by
 have b:=h.len;have d:=f.bare_len;rw[Fo.code_len];omega
def Prg.steps (h:Prg R l f):f.bare.steps<=1000000000:=by
 have b:=Fo.steps_le f.bare f.bare_pos;rw[Fo.bare_n]at b;have e:=h.len;have g:=f.bare_len;have d:=h.n;have u:(2*f.bare.len+1)*f.n<=8193*65536:=Nat.mul_le_mul V1 d;omega
def Prg.good (h:Prg R l f): ∀o∈f.bare.src,(0<o.1/\o.1<7->VC (fu R) o)/\UC o:=λo b=>by
 have:=Fo.bare_mem f b;rw[h.src]at this;exact⟨h.regs o this,h.ops.v o this⟩
def Prg.hi (h:Prg R l f):0+f.bare.hi<=8:=by
 have b:=h.deep;have d:=f.bare_hi;omega
def Prg.writes (h:Prg R l f):gz l=O ((f.n:Int),0):=by
 rw[yp (by have:=h.ops.len;omega) h.ops.v,h.w]
def bb9 (R:Nat)(o:bx):Prop:=0<o.1/\o.1<7->VC R o
def RU {Z γ S:Type}{g:Z->Option (Z⊕γ)}{code:List yG}{st:Nat->Nat->(Nat->Int)->S->Z}{b:bx->S->S}{Vd:Nat->S->Prop}{R:Nat}(h:Runs g code st b Vd<|VC R):Runs g code st b Vd<|bb9 R:=
 ⟨λe u d v y=>h.op e (u d) d v y,h.rep,h.nxt,h.out⟩
def Oh {Z γ S:Type}{g:Z->Option (Z⊕γ)}{code:List yG}{st:Nat->Nat->(Nat->Int)->S->Z}{b:bx->S->S}{Vd:Nat->S->Prop}{R:Nat}(h:Backs g code st b Vd<|VC R):Backs g code st b Vd<|bb9 R:=
 ⟨λe u d v y=>h.op e (u d) d v y,h.rep,h.nxt,h.out⟩
def tO (f:Fo)(r t:Zd):TS:=pG iB f.unroll (r,t,0)
def ar4 (h:Prg R l f)(y:ft r=fu R)(C:f.n<=ft t)(u:ft t<=1000000):
  BW (f.bare.code 0) r t=O (((tO f r t).2.2:Int),(tO f r t).1,(tO f r t).2.1)/\ft (tO f r t).1=fu R/\ft (tO f r t).2.1=ft t:=by
 have⟨b,_,v,g⟩:=PD (m:=0) (l:=λ_=>0) (s:=((r,t,0):TS)) (d:=0) (p:=0) (A:=[]) (B:=[]) (RU<|aq3 (R:=fu R) (N:=ft t) h.clen u) f.bare V2 rfl (Fo.bare_ok f h.ok) f.bare_pos h.hi h.good ⟨y,rfl,by rw[Fo.bare_n];show 0+(f.n+0)<=_;omega⟩;rw[Fo.bare_unroll]at v g;refine⟨?_,g.1,g.2.1⟩;unfold BW
 have:=wN v h.steps (c:=(((tO f r t).2.2:Int),(tO f r t).1,(tO f r t).2.1,b 0,b 1,b 2,b 3,b 4,b 5,b 6,b 7)) (by
  unfold stT;simp only[kN];rw[zB (by rw[Fo.code_len];omega),zC]
  rfl)
 have e:stT 0 0 (λ_=>0) ((r,t,0):TS)=(0,0,0,r,t,0,0,0,0,0,0,0,0):=rfl;rw[e]at this;rw[this];rfl
def tM (h:Prg R l f)(u:ft r=fu R)(v:f.n<=ft t)(b:ft t<=1000000):
  mp R l r t=O (((tO f r t).2.2:Int),0,(tO f r t).1,(tO f r t).2.1)/\ft (tO f r t).1=fu R/\ft (tO f r t).2.1=ft t:=by
 have⟨d,e,g⟩:=ar4 h u v b;refine⟨?_,e,g⟩;unfold mp DS;rw[Hx h,h.writes];have y:=h.R1;simp only[zG];rw[zA (show¬((0:Int)≠0)by simp),zD,zA (show¬((ft r:Int)≠R)by omega),zD,zA (show¬((ft t:Int)<(f.n:Int))by omega),zD,zG,zA (show¬((0:Int)≠0)by simp),zD,d];rfl
def EU (f:Fo)(r:Zd):Zd:=(pG M6 f.unroll (r,0)).1
def Tw (h:Prg R l f)(v:ft r=fu R):uc (-1) (f.bare.code 0) r=O (EU f r)/\ft (EU f r)=fu R:=by
 have⟨b,_,g,u⟩:=PD (m:=0) (l:=λ_=>0) (s:=((r,0):FS)) (d:=0) (p:=0) (A:=[]) (B:=[]) (RU<|aH1 (R:=fu R) (M:=65536) h.clen V1) f.bare V2 rfl (Fo.bare_ok f h.ok) f.bare_pos h.hi h.good ⟨v,by rw[Fo.bare_n];show 0+(f.n+0)<=_;have:=h.n;omega⟩;rw[Fo.bare_unroll]at g u;refine⟨?_,u.1⟩;unfold uc
 have:=wN g h.steps (c:=(EU f r,b 0,b 1,b 2,b 3,b 4,b 5,b 6,b 7)) (by
  unfold stF;simp only[iI];rw[zB (by rw[Fo.code_len];omega),zC]
  rfl)
 have e:stF 0 0 (λ_=>0) ((r,0):FS)=(0,0,0,r,0,0,0,0,0,0,0,0):=rfl;rw[e]at this;rw[this];rfl
def fill (R:Int)(r:Zd):Zd:=r++aB (fu R-ft r) 0
theorem fA {R:Int}(h:ft r<=fu R):ft (fill R r)=fu R:=by
 unfold fill
 grind
def aj6 {R:Int}(h:ft r<=fu R):Dh (aB (fu R) (0:Int)) 0 (ft<|aB (fu R) (0:Int)) r=fill R r:=by
 unfold Dh fill;rw[List.length_replicate,List.take_zero,List.nil_append,Nat.zero_add,Nat.min_eq_right h,List.take_of_length_le h,List.drop_replicate]
theorem Vu (h:Prg R l f)(b:ft r<=fu R):oZ R l r=O (0,EU f<|fill R r)/\ft (EU f<|fill R r)=fu R:=by
 have⟨e,d⟩:=Tw h<|fA b;refine⟨?_,d⟩;have g:=h.R1;unfold oZ yA;rw[Hx h,zG,zA (show¬((0:Int)≠0)by simp),zD,zA (show¬(R<(ft r:Int))by omega),zD,zB (show 0<=R by omega),zB (show R<=R by omega),zB (show 8*R<=140737488355328 by omega),aj6 b];show((gd Za _).bind _)=_;rw[bp]
 grind
def jM (f:Fo)(r a t:Zd):BS:=Fc (ri t) f.unroll (r,a,f.n)
def YV (h:Prg R l f)(D:ft r=fu R)(y:ft a=fu R)(E:f.n<=ft t)(u:ft t<=1000000):
  oi (f.n:Int) r a t (f.bare.code 0)=O ((jM f r a t).1,(jM f r a t).2.1)/\ft (jM f r a t).1=fu R/\ft (jM f r a t).2.1=fu R:=by
 have⟨b,_,v,g⟩:=JK (m:=0) (l:=λ_=>0) (s:=((r,a,f.n):BS)) (d:=0) (p:=0) (A:=[]) (B:=[]) (Oh<|bt7 (R:=fu R) (t:=t) h.clen u) f.bare V2 rfl (Fo.bare_ok f h.ok) f.bare_pos h.hi h.good ⟨D,y,by rw[Fo.bare_n];exact Nat.le_refl _,E⟩;rw[Fo.bare_unroll]at v g;refine⟨?_,g.1,g.2.1⟩;unfold oi;have C:=h.clen;rw[Fo.code_len]at C
 have:=wN v h.steps (c:=((jM f r a t).1,(jM f r a t).2.1,b 0,b 1,b 2,b 3,b 4,b 5,b 6,b 7)) (by
  unfold stB;simp only[ge];rw[Zf,zC]
  rfl)
 have e:stB (0+f.bare.len) 0 (λ_=>0) ((r,a,f.n):BS)=(IntKind.i64.wrap<|(ft (f.bare.code 0):Int)-1,0,(f.n:Int),r,a,0,0,0,0,0,0,0,0):=by
  unfold stB;rw[Fo.code_len,Zi,Nat.zero_add];rfl
 rw[e]at this;rw[this];rfl
def qJ (h:Prg R l f)(v:r.length=R.toNat)(u:a.length=R.toNat)(y:f.n<=t.length)(b:t.length<=1000000):
  oh R l r a t=O (0,(jM f r a t).1,(jM f r a t).2.1)/\(jM f r a t).1.length=R.toNat/\(jM f r a t).2.1.length=R.toNat:=by
 obtain⟨d,e,g⟩:=YV h v u y b;refine⟨?_,e,g⟩;have A:=h.R1;unfold oh;rw[Hx h,h.writes];simp only[zG];rw[zA (show¬((0:Int)≠0)by simp),zD,zA (show¬((r.length:Int)≠R)by omega),zD,zA (show¬((a.length:Int)≠R)by omega),zD,zA (show¬((t.length:Int)<(f.n:Int))by omega),zD,d];rfl
end
end
section
open List renaming take_length->aB,length_take->aD,ext_getElem?->bB,getElem?_take->bD,getElem_mem->cB
def seg (W:Zd)(o n:Nat):Zd:=(W.drop o).take n
def put (W:Zd)(o:Nat)(w:Zd):Zd:=W.take o++(w++W.drop (o+ft w))
theorem Cf (W:Zd)(o n i:Nat):(seg W o n)[i]?=if i<n then W[o+i]? else Y:=by
 unfold seg
 grind
theorem Kh (h:o+ft w<=ft W)(i:Nat):(put W o w)[i]?=if o<=i/\i<o+ft w then w[i-o]? else W[i]?:=by
 unfold put;have b:ft (W.take o)=o:=by rw[aD];omega
 grind
theorem ew {n:Nat}(h:o+n<=ft W):ft (seg W o n)=n:=by
 unfold seg
 grind
theorem aW0 (h:o+ft w<=ft W):ft (put W o w)=ft W:=by
 unfold put
 grind
theorem I1 {n:Nat}(h:o+ft w<=ft W)(b:n<=ft w):seg (put W o w) o n=w.take n:=by
 apply bB;intro i;rw[Cf,bD,Kh h]
 grind
def vH (h:o+ft w<=ft W):seg (put W o w) o (ft w)=w:=by
 rw[I1 h<|Nat.le_refl _,aB]
def oG {b n:Nat}(h:o+ft w<=ft W)(d:b+n<=o∨o+ft w<=b):seg (put W o w) b n=seg W b n:=by
 apply bB;intro i;rw[Cf,Cf];split
 .rw[Kh h,Zh]
 rfl
def aG1 (h:o+ft w<=ft W)(b:i<o∨o+ft w<=i):(put W o w)[i]?=W[i]?:=by
 rw[Kh h,Zh]
def aw7 (h:o+ft w<=ft W):Dh W o (ft w) w=put W o w:=by
 unfold Dh put;rw[aB,Nat.min_self]
def Be {n tk:Nat}(h:o+n<=tk)(b:tk<=ft W)(d:ft W<=1048576):ec (o:Int) (n:Int) (tk:Int) W=O (0,seg W o n):=by
 unfold ec;rw[Ze,zD,Ze,zD,Ze,zD,ad (n:=(tk:Int)-o) V1,Ze,zD,ad (n:=(o:Int)+n) V1,Zl,bp];unfold aj;rw[show(fu<|(o:Int)+n)-fu (o:Int)=n by omega,show(fu (o:Int))=o by omega,au V9 V1];rfl
theorem ai7 {tk:Nat}(h:o<tk)(d:tk<=ft W)(e:ft W<=1048576):gh (o:Int) (tk:Int) W=O (rg W (o:Int),0):=by
 unfold gh;rw[Ze,zD,Ze,zD,ad (n:=(tk:Int)-o) V1,Ze,zD,ad (n:=(o:Int)+1) V1,Zl,bp];unfold aj;rw[show(fu<|(o:Int)+1)-fu (o:Int)=1 by omega,show(fu (o:Int))=o by omega,au V9 V1]
 have b:(W.drop o).take 1=[rg W (o:Int)]:=by
  apply bB;intro i;rw[bD,List.getElem?_drop];rcases Nat.eq_zero_or_pos i with rfl|hi
  .rw[Zg,Nat.add_zero,ia V1];rfl
  grind
 rw[b];rfl
def tD {tk:Nat}(h:o+ft w<=tk)(b:tk<=ft W)(d:ft W<=1048576):eu (o:Int) w (tk:Int) W=O (0,put W o w):=by
 unfold eu;rw[Ze,zD,Ze,zD,Ze,zD,ad (n:=(tk:Int)-o) V1,Ze,zD,ad (n:=(o:Int)+ft w) V1,Zl,bp,show(fu<|(o:Int)+ft w)-fu (o:Int)=(ft w) by omega,show(fu (o:Int))=o by omega,aw7 V1]
def qH {n:Int}(h:0<=n)(e:0<=lv)(d:lv+n<=bd)(b:bd<=1048576):cv n lv pk bd=O (0,lv+n,max pk<|lv+n,bd):=by
 unfold cv nT jZ;rw[Ze,zD,zG,ad (n:=bd-lv) V1,Zf,ad (n:=lv+n) V1];rfl
def wL {n:Int}(h:0<=n)(d:n<=lv)(e:lv<=pk)(b:lv<=1048576):bj n lv pk bd=O (0,lv-n,pk,bd):=by
 unfold bj jZ;rw[Ze,zD,Ze,zD,zG,ad (n:=0-n) V1,Zi,show lv+(0-n)=lv-n by omega,Int.max_eq_left V1]
theorem am3 (ls:List Zd)(h: ∀l∈ls,ft l<=100000):ft ls.flatten<=100000*ft ls:=by
 induction ls with
 |nil=>simp
 |cons a r b=>
  grind
def R4 {ls:List<|Zd}(h:i<ft ls):(ls.take<|i+1).flatten=(ls.take i).flatten++ls[i]:=by
 rw[List.take_succ_eq_append_getElem h,List.flatten_append];simp
def ar3 (ls:List Zd)(h: ∀l∈ls,ft l<=100000)(b:ft ls<=1000)(i:Nat):ft (ls.take i).flatten<=100000000:=by
 have d:=am3 (ls.take i) λl b=>h l (List.mem_of_mem_take b)
 rw[aD]at d;omega
theorem Rb {ls:List<|Zd}(h: ∀l∈ls,l.length<=100000)(v:ls.length<=1000):fH ls=O ls.flatten:=by
 have b:=ar3 ls h v
 have A:am (gj ls) cj (0,0)=O (((ls.take ls.length).flatten.length:Nat):Int):=by
  refine bz (n:=ls.length) (λi=>(((ls.take i).flatten.length:Nat):Int)) V1 (λi hi=> ?_) ?_
  .unfold gj;have d:=b i;have g:=h ls[i]<|cB hi;simp only;rw[zB (show(i:Int)<(ls.length:Int)by omega),zC,bq hi];simp only[zG];rw[ad (n:=(((ls.take i).flatten.length:Nat):Int)+((ls[i].length:Nat):Int)) V1,Ze,zD,ad (n:=(i:Int)+1) V1,R4 hi,List.length_append];rfl
  unfold gj
  grind
 have e: ∀(f:Int×Zd->Option ((Int×Zd)⊕Zd)),(∀s,f s=cond (Zc<|s.1<((ls.length:Nat):Int)) ((rd ls s.1).bind λx=>gd (dh (s.2.length+x.length) 8)<|O<|.inl (IntKind.i64.wrap<|s.1+1,s.2++x)) (O<|.inr s.2))->
   am f cj (0,[])=O (ls.take ls.length).flatten:=by
  intro f u;refine bz (n:=ls.length) (λi=>(ls.take i).flatten) V1 (λi hi=> ?_) ?_
  .rw[u];have d:=b i;have g:=h ls[i]<|cB hi;rw[zB (show(i:Int)<(ls.length:Int)by omega),zC,bq hi];simp only[zG];rw[au V1 V1,ad (n:=(i:Int)+1) V1,R4 hi];rfl
  .grind
 unfold fH;rw[A];rw[aB];simp only[zG];have d:=b ls.length;rw[aB]at d;rw[Ze,zD,ad (n:=((ls.flatten.length:Nat):Int)-0) V1,ah];split
 .rw[Int.sub_zero]
  have y:lZ 8 ((ls.flatten.length:Nat):Int)=Za:=by
   generalize ls.flatten.length=N at d⊢;unfold lZ
   grind
  rw[y,bp,au ZJ V1,Zl,bp,List.take_zero,e (gm ls) λs=>rfl,aB];rfl
 rw[e (gm ls) λs=>rfl,aB];rfl
end
section
open List renaming length_append->aB,length_replicate->aD
structure Cx where
 mode:Int
 R:Int
 Q:Int
 len:Int
 words:Int
 X:Zd
 T:Zd
 l:List bx
 k:List bx
 fl:Fo
 fk:Fo
 fixed:Int
 tp:Int
 sl:Int
 ns:Int
namespace Cx
def sz (c:Cx):Nat->Nat
 |0=>ft c.T
 |1=>ft c.X
 |2=>fu c.R
 |3=>fu c.Q
 |4=>max (fu c.R) (fu c.Q)
 |5=>ft c.X
 |6=>ft c.T
 |7=>fu c.tp
 |8=>fu (c.sl*c.ns)
 |_=>0
def off (c:Cx):Nat->Nat
 |0=>0
 |i+1=>c.off i+c.sz i
def P (c:Cx):Zd:=(List.range 10).map λi=>(c.off i:Int)
def tk (c:Cx):Int:=(c.off 9:Int)
structure Ok (c:Cx):Prop where
 hl:OpsOk c.l
 hk:OpsOk c.k
 hc:su c.mode (ft c.X) (ft c.T) c.R c.l c.Q c.k c.len c.words=0
 pl:Prg c.R c.l c.fl
 pk:Prg c.Q c.k c.fk
 fixed:c.fixed=sr (ft c.X) (ft c.T) c.R c.Q
 tp:c.tp=rB c.mode c.l c.k
 sl:c.sl=rA c.mode (ft c.X) c.R c.l
 ns:0<=c.ns/\c.ns<=1048576
 fit:c.fixed+c.tp+c.sl*c.ns<=c.words
 base:c.mode=3->c.ns=c.len
end Cx
structure Num (c:Cx):Prop where
 mode:1<=c.mode/\c.mode<=3
 R:1<=c.R/\c.R<=64
 Q:1<=c.Q/\c.Q<=64
 x:1<=ft c.X/\ft c.X<=64
 t:ft c.T<=64
 xtR:(ft c.X:Int)+ft c.T+1<=c.R
 xtQ:(ft c.X:Int)+ft c.T<=c.Q
 len:0<=c.len/\c.len<=65535
 words:0<=c.words/\c.words<=1048576
 n:c.fl.n<=65536
 m:c.fk.n<=65536
 tp:c.tp=(if c.mode=3 then(c.fk.n:Int)else c.fl.n+c.fk.n)
 sl:c.sl=(if c.mode=3 then(c.fl.n:Int)+c.R else ft c.X+1)
 fixed:c.fixed=2*ft c.T+2*ft c.X+c.R+c.Q+max c.R c.Q
 mul:0<=c.sl*c.ns
def HB {m:Int}{x t:Nat}{R:Int}{k:List bx}{n b:Int}(h:su m x t R l Q k n b=0):mw R l Q k=0/\yf R Q x t=0:=by
 unfold su at h;omega
def ao9 {R:Int}{k:List bx}(h:mw R l Q k=0):Bv R l=0/\Bv Q k=0:=by
 unfold mw at h
 repeat' split at h
 all_goals first|(exact absurd h ZW)|skip
 unfold Bv;constructor
 .repeat' split
  all_goals first|(rename_i c;exact V1)|omega
 repeat' split
 all_goals first|(rename_i c;exact V1)|omega
def Re {R:Int}{x t:Nat}(d:x<=64)(b:t<=64)(h:yf R Q x t=0):(x:Int)+t+1<=R/\(x:Int)+t<=Q:=by
 unfold yf at h;rw[ad (n:=(x:Int)+t) V1,ad (n:=(x:Int)+t+1) V1]at h
 repeat' split at h
 all_goals omega
def Cx.Ok.num {c:Cx}(h:c.Ok):Num c:=by
 have f:=EG h.hl h.hk h.hc;have⟨v,d⟩:=HB h.hc;have⟨e,g⟩:=Re f.xs.2 f.ts d;have b:=h.pl.w;have u:=h.pk.w;have s:=PL h.hl h.hk h.hc;refine⟨f.mode,f.regs,f.regs',f.xs,f.ts,e,g,f.len,f.bud,h.pl.n,h.pk.n, ?_, ?_, ?_, ?_⟩
 .rw[h.tp];unfold rB;rw[b,u]
 .rw[h.sl];unfold rA;rw[b]
 .rw[h.fixed];unfold sr;rfl
 rw[h.sl];exact(TF (by have:=s.sl;omega) h.ns).1
section
variable {c:Cx}
def bH8 :c.off 1=ft c.T:=Nat.zero_add _
def bH9 :c.off 2=ft c.T+ft c.X:=by show c.off 1+_=_;rw[bH8];rfl
def bI0 :c.off 3=ft c.T+ft c.X+fu c.R:=by show c.off 2+_=_;rw[bH9];rfl
def bI1 :c.off 4=ft c.T+ft c.X+fu c.R+fu c.Q:=by show c.off 3+_=_;rw[bI0];rfl
def bI2 :c.off 5=ft c.T+ft c.X+fu c.R+fu c.Q+max (fu c.R) (fu c.Q):=by show c.off 4+_=_;rw[bI1];rfl
def bI3 :c.off 6=ft c.T+ft c.X+fu c.R+fu c.Q+max (fu c.R) (fu c.Q)+ft c.X:=by show c.off 5+_=_;rw[bI2];rfl
def bw9 :c.off 7=ft c.T+ft c.X+fu c.R+fu c.Q+max (fu c.R) (fu c.Q)+ft c.X+ft c.T:=by show c.off 6+_=_;rw[bI3];rfl
def bI4 :c.off 8=c.off 7+fu c.tp:=rfl
def Pk :c.off 9=c.off 8+fu (c.sl*c.ns):=rfl
theorem aD8 (h:i<=j):c.off i<=c.off j:=by
 induction j with
 |zero=>rw[Nat.le_zero.1 h];exact Nat.le_refl _
 |succ j b=>
  rcases Nat.lt_or_ge i (j+1)with h1|h1
  .exact Nat.le_trans (b V1) (Nat.le_add_right _ _)
  grind
def gH (h:i<j):c.off i+c.sz i<=c.off j:=aD8 (c:=c) (i:=i+1) h
def Cx.Ok.off9_le (h:c.Ok):(c.off 9:Int)<=c.words:=by
 have n:=h.num;have e:=n.R;have g:=n.Q;have u:=n.fixed;have b:=n.tp;have v:=n.mul;have y:=h.fit;have d:0<=c.tp:=by rw[b];split<;>omega
 rw[Pk,bI4,bw9];omega
theorem Cx.P_get (h:i<10):c.P[i]?=O (c.off i:Int):=by
 unfold Cx.P
 grind
def Cx.P_len :ft c.P=10:=by unfold Cx.P;simp
def Wd (c:Cx)(W:Zd):Prop:=ft W=fu c.words
def Wd.tk (h:c.Ok)(b:Wd c W):c.off 9<=ft W/\ft W<=1048576:=by
 have:=h.off9_le;have:=h.num.words;unfold Wd at b;omega
def Wd.put (h:c.Ok)(b:Wd c W)(d:o+ft w<=c.off 9):Wd c<|put W o w:=by
 have:=b.tk h;unfold Wd at b⊢;rw[aW0 V1,b]
def VA {k:List bx}(h:c.Ok)(u:Wd c W)(hi:ii=(i:Int))(b:i<9):
  br ii a0 a1 a2 a3 a4 a5 a6 a7 a8 a9 a10 a11 a12 a13 a14 a15 a16 X T l k c.P c.tk lv pk bd W=O (seg W (c.off i)<|c.sz i):=by
 subst hi;have d:=u.tk h;have g:=gH (c:=c) (i:=i) (j:=9) b;unfold br;rw[bl (show i<c.P.length by rw[Cx.P_len];omega)];simp only[zG];rw[Cx.P_get (show i<10 by omega)];simp only[zG];rw[ad (n:=(i:Int)+1) V1,show(i:Int)+1=((i+1:Nat):Int)by omega,bl (show i+1<c.P.length by rw[Cx.P_len];omega)];simp only[zG];rw[Cx.P_get (show i+1<10 by omega)];simp only[zG]
 have e:IntKind.i64.wrap ((c.off (i+1):Int)-(c.off i:Int))=(c.sz i:Int):=by
  have:c.off (i+1)=c.off i+c.sz i:=rfl;rw[Zi];omega
 rw[e];unfold Cx.tk;rw[Be g d.1 d.2];rfl
def put1 {k:List bx}(h:c.Ok)(e:Wd c W)(hi:ii=(i:Int))(b:i<9)(u:ft w<=c.sz i):
  aq ii w a0 a1 a2 a3 a4 a5 a6 a7 a8 a9 a10 a11 a12 a13 a14 a15 a16 X T l k c.P c.tk lv pk bd W=O (put W (c.off i) w):=by
 subst hi;have d:=e.tk h;have g:=gH (c:=c) (i:=i) (j:=9) b;unfold aq;rw[bl (show i<(ft c.P) by rw[Cx.P_len];omega),zG,Cx.P_get (show i<10 by omega),zG];unfold Cx.tk;rw[tD V1 d.1 d.2];rfl
def QN {k:List bx}(h:c.Ok)(u:Wd c W)(hi:ii=(i:Int))(b:i<9):
  bi ii a0 a1 a2 a3 a4 a5 a6 a7 a8 a9 a10 a11 a12 a13 a14 a15 a16 X T l k c.P c.tk sb sn sx lv pk bd W=O (seg W (c.off i)<|c.sz i):=by
 subst hi;have d:=u.tk h;have g:=gH (c:=c) (i:=i) (j:=9) b;unfold bi;rw[bl (show i<c.P.length by rw[Cx.P_len];omega)];simp only[zG];rw[Cx.P_get (show i<10 by omega)];simp only[zG];rw[ad (n:=(i:Int)+1) V1,show(i:Int)+1=((i+1:Nat):Int)by omega,bl (show i+1<c.P.length by rw[Cx.P_len];omega)];simp only[zG];rw[Cx.P_get (show i+1<10 by omega)];simp only[zG]
 have e:IntKind.i64.wrap ((c.off (i+1):Int)-(c.off i:Int))=(c.sz i:Int):=by
  have:c.off (i+1)=c.off i+c.sz i:=rfl;rw[Zi];omega
 rw[e];unfold Cx.tk;rw[Be g d.1 d.2];rfl
def LC {k:List bx}(h:c.Ok)(e:Wd c W)(hi:ii=(i:Int))(b:i<9)(u:ft w<=c.sz i):
  ap ii w a0 a1 a2 a3 a4 a5 a6 a7 a8 a9 a10 a11 a12 a13 a14 a15 a16 X T l k c.P c.tk sb sn sx lv pk bd W=O (put W (c.off i) w):=by
 subst hi;have d:=e.tk h;have g:=gH (c:=c) (i:=i) (j:=9) b;unfold ap;rw[bl (show i<(ft c.P) by rw[Cx.P_len];omega),zG,Cx.P_get (show i<10 by omega),zG];unfold Cx.tk;rw[tD V1 d.1 d.2];rfl
def Nw {R:Int}(d:1<=R/\R<=64)(e:(ft a:Int)<=R):ki R l a=O (fill R a):=by
 unfold ki aj;rw[au V1 V1,zG,ad (n:=R-(ft a:Int)) V1]
 have b:lZ 8 (R-(ft a:Int))=Za:=by
  unfold lZ;rw[Zf,Zf,Zf];rfl
 rw[b,bp,au V9 V1,show(fu<|R-(ft a:Int))=fu R-(ft a) by omega];rfl
theorem av8 {R:Int}{g:List bx}{b:Zd}{k:List bx}(h:c.Ok)(u:Wd c W)(C:1<=R/\R<=64)(H:(ft x:Int)+ft c.T+ft b<=R):
  ig R g x b a0 a1 a2 a3 a4 a5 a6 a7 a8 a9 a10 a11 a12 a13 a14 a15 a16 X T l k c.P c.tk lv pk bd W=O (fill R<|x++(seg W 0 (ft c.T)++b)):=by
 have E:=u.tk h;have A:=gH (c:=c) (i:=0) (j:=9) V1;have v:ft (seg W 0<|ft c.T)=ft c.T:=ew ZO;unfold ig;rw[VA (ii:=0) (i:=0) h u rfl V1,zG];have d:seg W (c.off 0) (c.sz 0)=seg W 0 (ft c.T):=rfl
 rw[d,Rb (λa D=>by
  grind) V2]
 simp only[zG];have e:[x,seg W 0<|ft c.T,b].flatten=x++(seg W 0 (ft c.T)++b):=by simp
 have F:ft (x++(seg W 0 (ft c.T)++b))=ft x+ft c.T+ft b:=by rw[aB,aB,v];omega
 rw[e];generalize x++(seg W 0 (ft c.T)++b)=a at*;rw[ad (n:=R-(ft a:Int)) V1]
 have y:lZ 8 (R-(ft a:Int))=Za:=by
  unfold lZ;rw[Zf,Zf,Zf];rfl
 rw[y,bp,au V9 V1,show(fu<|R-(ft a:Int))=fu R-(ft a) by omega];rfl
theorem XI {R:Int}{g:List bx}{b:Zd}{k:List bx}(h:c.Ok)(u:Wd c W)(C:1<=R/\R<=64)(H:(ft x:Int)+ft c.T+ft b<=R):
  gC R g x b a0 a1 a2 a3 a4 a5 a6 a7 a8 a9 a10 a11 a12 a13 a14 a15 a16 X T l k c.P c.tk sb sn sx lv pk bd W=O (fill R<|x++(seg W 0 (ft c.T)++b)):=by
 have E:=u.tk h;have A:=gH (c:=c) (i:=0) (j:=9) V1;have v:ft (seg W 0<|ft c.T)=ft c.T:=ew ZO;unfold gC;rw[QN (ii:=0) (i:=0) h u rfl V1,zG];have d:seg W (c.off 0) (c.sz 0)=seg W 0 (ft c.T):=rfl
 rw[d,Rb (λa D=>by
  grind) V2]
 simp only[zG];have e:[x,seg W 0<|ft c.T,b].flatten=x++(seg W 0 (ft c.T)++b):=by simp
 have F:ft (x++(seg W 0 (ft c.T)++b))=ft x+ft c.T+ft b:=by rw[aB,aB,v];omega
 rw[e];generalize x++(seg W 0 (ft c.T)++b)=a at*;rw[ad (n:=R-(ft a:Int)) V1]
 have y:lZ 8 (R-(ft a:Int))=Za:=by
  unfold lZ;rw[Zf,Zf,Zf];rfl
 rw[y,bp,au V9 V1,show(fu<|R-(ft a:Int))=fu R-(ft a) by omega];rfl
end
end
section
open Go.IntKind renaming wrap->zH,i64->zI,u64->zJ
open List renaming range->bB,replicate->bD,length_append->cB,length_take->cD,drop_zero->cK,ext_getElem?->cL
open Nat renaming le_refl->aB,le_of_eq->aD
def gdz {β:Type}{n:Int}{y:Option β}(h:0<=n/\n<=1048576):gd (Nat.beq 1 (Sh.w<|.int .u64)&&Zc (0<=n)&&Zc (n<=n)&&Zc ((8:Int)*n<=140737488355328)&&Nat.ble 1 8) y=y:=by
 rw[zB h.1,zB<|Int.le_refl n,Zf];rfl
section
variable {c:Cx}
def Cx.Ok.of (h:c.Ok):i7 c.mode c.X c.T c.R c.l c.Q c.k c.len c.words=O ((c.fl.n:Int),(c.fk.n:Int)):=by
 rw[ae5 h.hl h.hk,zF (λk=>k h.hc),h.pl.w,h.pk.w]
def zeros (n:Nat):Zd:=bD n 0
def stepR (c:Cx)(W:Zd)(p:Int):TS:=tO c.fl (fill c.R<|seg W (c.off 1) (ft c.X)++(seg W 0 (ft c.T)++[zH zJ p]))<|zeros c.fl.n
def lossR (c:Cx)(W x:Zd):TS:=tO c.fk (fill c.Q<|x++(seg W 0 (ft c.T)++[]))<|zeros c.fk.n
def vq (x:Nat)(g a:Zd):Zd:=(bB<|ft g).map λ(i:Nat)=>IntKind.u64.wrap<|rg g (i:Int)+rg a ((x+i:Nat):Int)
def Bf (c:Cx)(W a:Zd):Zd:=
 put (put (put W (c.off 4) a) (c.off 5)<|a.take<|ft c.X) (c.off 6) (vq (ft c.X) (seg (put (put W (c.off 4) a) (c.off 5)<|a.take<|ft c.X) (c.off 6)<|ft c.T) a)
def qz (x:Nat)(g a:Zd):ft (vq x g a)=ft g:=by unfold vq;simp
def Wd.in' (h:c.Ok)(b:Wd c W)(hi:i<9):c.off i+c.sz i<=ft W:=by
 have:=b.tk h;have:=gH (c:=c) (i:=i) (j:=9) hi;omega
theorem JH {g:Zd}{f:Int×Zd->Option ((Int×Zd)⊕Zd)}(J:g.length<=64)(H:X.length<=64)(I:X.length+g.length<=a.length)(C: ∀s,f s=cond (Zc<|s.1<((g.length:Nat):Int))
   ((ix s.1 s.2.length).bind λj=>(s.2[j]?).bind λy=>(ix (zH zI<|((X.length:Nat):Int)+s.1) a.length).bind λD=>(a[D]?).bind λE=>(ix s.1 s.2.length).bind λh=>(s.2[h]?).bind λF=>O<|.inl (zH zI<|s.1+1,s.2.set h<|zH zJ<|y+E))
   (O<|.inr s.2)):am f cj (0,g)=O (vq X.length g a):=by
 have A: ∀i,((bB g.length).map λ(j:Nat)=>if j<i then zH zJ (rg g (j:Int)+rg a ((X.length+j:Nat):Int))else rg g (j:Int)).length=g.length:=λi=>by simp
 have b: ∀i j,j<g.length->((bB g.length).map λ(j:Nat)=>if j<i then zH zJ (rg g (j:Int)+rg a ((X.length+j:Nat):Int))else rg g (j:Int))[j]?=O (if j<i then zH zJ (rg g (j:Int)+rg a ((X.length+j:Nat):Int))else rg g (j:Int)):=λi j d=>by
  grind
 have u:g=(bB g.length).map λ(j:Nat)=>if j<0 then zH zJ (rg g (j:Int)+rg a ((X.length+j:Nat):Int))else rg g (j:Int):=by
  apply cL;intro j;by_cases d:j<g.length
  .rw[b 0 j d,Zh,ia d]
  grind
 have v:vq X.length g a=(bB g.length).map λ(j:Nat)=>if j<g.length then zH zJ (rg g (j:Int)+rg a ((X.length+j:Nat):Int))else rg g (j:Int):=by
  unfold vq;apply List.map_congr_left
  grind
 rw[v];refine Eq.trans (congrArg (λy=>am f cj (0,y)) u) ?_;refine bz (n:=g.length) (λi=>(bB g.length).map λ(j:Nat)=>if j<i then zH zJ (rg g (j:Int)+rg a ((X.length+j:Nat):Int))else rg g (j:Int)) V1 (λi hi=> ?_) ?_
 .rw[C];rw[zB (show(i:Int)<((g.length:Nat):Int)by omega),zC,bl (by rw[A];exact hi)];simp only[zG];rw[b i i hi];simp only[zG];rw[zF<|Nat.lt_irrefl i,ad (n:=((X.length:Nat):Int)+(i:Int)) V1,show((X.length:Nat):Int)+(i:Int)=((X.length+i:Nat):Int)by omega,bl (show X.length+i<a.length by omega)];simp only[zG];rw[ia (show X.length+i<a.length by omega)];simp only[zG];rw[ad (n:=(i:Int)+1) V1]
  congr 3
  apply cL;intro j;by_cases d:j<g.length
  .rw[b (i+1) j d];by_cases e:i=j
   .subst e
    grind
   .rw[List.getElem?_set_ne e,b i j d]
    congr 1
    omega
  grind
 .grind
def cb (n:Nat):ft (zeros n)=n:=List.length_replicate
def iS (h:c.Ok)(d:Wd c W)(p:Int):ft (fill c.R<|seg W (c.off 1) (ft c.X)++(seg W 0 (ft c.T)++[zH zJ p]))=fu c.R/\ft (stepR c W p).1=fu c.R/\ft (stepR c W p).2.1=c.fl.n:=by
 have n:=h.num;have u:=d.in' h (i:=1) V1;have g:=d.in' h (i:=0) V1;have A:ft (seg W (c.off 1)<|ft c.X)=ft c.X:=ew u;have y:ft (seg W 0<|ft c.T)=ft c.T:=ew g
 have e:ft (fill c.R<|seg W (c.off 1) (ft c.X)++(seg W 0 (ft c.T)++[zH zJ p]))=fu c.R:=by
  apply fA;rw[cB,cB,A,y];have:=n.xtR;simp;omega
 have⟨_,v,b⟩:=tM h.pl e (t:=zeros c.fl.n) ZB (by rw[cb];have:=n.n;omega);rw[cb]at b;exact⟨e,v,b⟩
def Ca (h:c.Ok)(u:Wd c W)(v:ft x=ft c.X):ft (fill c.Q<|x++(seg W 0 (ft c.T)++[]))=fu c.Q/\ft (lossR c W x).1=fu c.Q/\ft (lossR c W x).2.1=c.fk.n:=by
 have n:=h.num;have e:=u.in' h (i:=0) V1;have y:ft (seg W 0<|ft c.T)=ft c.T:=ew e
 have d:ft (fill c.Q<|x++(seg W 0 (ft c.T)++[]))=fu c.Q:=by
  apply fA;rw[cB,cB,y,v];have:=n.xtQ;simp;omega
 have⟨_,g,b⟩:=tM h.pk d (t:=zeros c.fk.n) ZB (by rw[cb];have:=n.m;omega);rw[cb]at b;exact⟨d,g,b⟩
def nG (h:c.Ok)(e:Wd c W)(A:ft c.X+ft c.T<=ft a)(g:ft a<=max (fu c.R) (fu c.Q)):
  Wd c (put W (c.off 4) a)/\Wd c (put (put W (c.off 4) a) (c.off 5)<|a.take<|ft c.X)/\Wd c (Bf c W a):=by
 have u:=gH (c:=c) (i:=4) (j:=9) V1;have v:=gH (c:=c) (i:=5) (j:=9) V1;have y:=gH (c:=c) (i:=6) (j:=9) V1;have C:c.sz 4=max (fu c.R) (fu c.Q):=rfl;have D:c.sz 5=ft c.X:=rfl;have E:c.sz 6=ft c.T:=rfl;have d:=e.put h (w:=a) (o:=c.off 4) V1;have b:=d.put h (w:=a.take<|ft c.X) (o:=c.off 5) (by rw[cD];omega);refine⟨d,b, ?_⟩;unfold Bf;refine b.put h ?_;rw[qz,ew (n:=ft c.T)<|b.in' h (i:=6) V1];omega
def bq0 (h:c.Ok)(b:Wd c W):
  ij c.fixed c.tp c.sl c.ns c.mode c.R c.Q c.len c.words L p q c0 c1 c2 c3 z c.X c.T c.l c.k c.P c.tk lv pk bd W=O (c.fixed,c.tp,c.sl,c.ns,c.mode,c.R,c.Q,c.len,c.words,L,p,q,c0,zH zI<|c1+1,c2,c3,z,put W (c.off 2) (stepR c W p).1,(stepR c W p).1,(stepR c W p).2.1):=by
 have n:=h.num;have⟨d,y,A⟩:=iS h b p;have e:=b.in' h (i:=1) V1;have g:ft (seg W (c.off 1)<|ft c.X)=ft c.X:=ew e;unfold ij;rw[h.of,zG];have C:=n.n;rw[gdz V1,VA (ii:=1) (i:=1) h b rfl V1,zG,gdz V1,av8 h b n.R Z8,zG,gdz V1,show c.sz 1=ft c.X from rfl,show bD (fu (c.fl.n:Int)) (0:Int)=zeros c.fl.n from rfl];have⟨u,v,D⟩:=tM h.pl d (t:=zeros c.fl.n) ZB Z5;rw[u,zG,put1 (ii:=2) (i:=2) h b rfl V1 ZL];rfl
def aI6 (h:c.Ok)(b:Wd c W):
  gD c.fixed c.tp c.sl c.ns c.mode c.R c.Q c.len c.words L p q c0 c1 c2 c3 z c.X c.T c.l c.k c.P c.tk sb sn sx lv pk bd W=O (c.fixed,c.tp,c.sl,c.ns,c.mode,c.R,c.Q,c.len,c.words,L,p,q,c0,zH zI<|c1+1,c2,c3,z,put W (c.off 2) (stepR c W p).1,(stepR c W p).1,(stepR c W p).2.1):=by
 have n:=h.num;have⟨d,y,A⟩:=iS h b p;have e:=b.in' h (i:=1) V1;have g:ft (seg W (c.off 1)<|ft c.X)=ft c.X:=ew e;unfold gD;rw[h.of,zG];have C:=n.n;rw[gdz V1,QN (ii:=1) (i:=1) h b rfl V1,zG,gdz V1,XI h b n.R Z8,zG,gdz V1,show c.sz 1=ft c.X from rfl,show bD (fu (c.fl.n:Int)) (0:Int)=zeros c.fl.n from rfl];have⟨u,v,D⟩:=tM h.pl d (t:=zeros c.fl.n) ZB Z5;rw[u,zG,LC (ii:=2) (i:=2) h b rfl V1 ZL];rfl
def bi5 (h:c.Ok)(u:Wd c W)(C:r.length=c.Q.toNat)(y:a.length=c.Q.toNat)(D:t.length=c.fk.n):
  mE c.Q c.fixed c.tp c.sl c.ns c.mode c.R c.Q c.len c.words L p q c0 c1 c2 c3 z c.k r a t c.X c.T c.l c.P c.tk lv pk bd W=O (c.fixed,c.tp,c.sl,c.ns,c.mode,c.R,c.Q,c.len,c.words,L,p,q,c0,c1,c2,zH zI<|c3+1,z,(jM c.fk r a t).1,(jM c.fk r a t).2.1,Bf c W (jM c.fk r a t).2.1):=by
 have n:=h.num;obtain⟨E,V,Z⟩:=qJ h.pk C y (aD D.symm) ZS;have K:=n.R;have J:=n.Q;have H:=n.xtR;have I:=n.xtQ;have N:=n.x;have M:=n.t;unfold mE;rw[E];simp only[zG];generalize jM c.fk r a t=d at*;have b:=nG h (a:=d.2.1) u V1 V1;obtain⟨v,e,F⟩:=b;rw[put1 (ii:=4) (i:=4) h u rfl V1 V6];simp only[zG];rw[Zl,bp,show(c.X.length:Int).toNat-0=c.X.length by omega,cK,put1 (ii:=5) (i:=5) h v rfl V1 Z7];simp only[zG];rw[VA (ii:=6) (i:=6) h e rfl V1];simp only[zG];rw[show c.sz 6=c.T.length from rfl];have A:(seg (put (put W (c.off 4) d.2.1) (c.off 5)<|d.2.1.take c.X.length) (c.off 6) c.T.length).length=c.T.length:=ew<|e.in' h (i:=6) V1;rw[JH (f:=fM c.X (0,d.1,d.2.1) _) (X:=c.X) (a:=d.2.1) (g:=seg (put (put W (c.off 4) d.2.1) (c.off 5)<|d.2.1.take c.X.length) (c.off 6) c.T.length) V1 V1 V1<|λs=>rfl]
 simp only[zG];rw[put1 (ii:=6) (i:=6) h e rfl V1 Zs];rfl
def bi6 (h:c.Ok)(u:Wd c W)(C:r.length=c.Q.toNat)(y:a.length=c.Q.toNat)(D:t.length=c.fk.n):
  kY c.Q c.fixed c.tp c.sl c.ns c.mode c.R c.Q c.len c.words L p q c0 c1 c2 c3 z c.k r a t c.X c.T c.l c.P c.tk sb sn sx lv pk bd W=O (c.fixed,c.tp,c.sl,c.ns,c.mode,c.R,c.Q,c.len,c.words,L,p,q,c0,c1,c2,zH zI<|c3+1,z,(jM c.fk r a t).1,(jM c.fk r a t).2.1,Bf c W (jM c.fk r a t).2.1):=by
 have n:=h.num;obtain⟨E,V,Z⟩:=qJ h.pk C y (aD D.symm) ZS;have K:=n.R;have J:=n.Q;have H:=n.xtR;have I:=n.xtQ;have N:=n.x;have M:=n.t;unfold kY;rw[E];simp only[zG];generalize jM c.fk r a t=d at*;have b:=nG h (a:=d.2.1) u V1 V1;obtain⟨v,e,F⟩:=b;rw[LC (ii:=4) (i:=4) h u rfl V1 V6];simp only[zG];rw[Zl,bp,show(c.X.length:Int).toNat-0=c.X.length by omega,cK,LC (ii:=5) (i:=5) h v rfl V1 Z7];simp only[zG];rw[QN (ii:=6) (i:=6) h e rfl V1];simp only[zG];rw[show c.sz 6=c.T.length from rfl];have A:(seg (put (put W (c.off 4) d.2.1) (c.off 5)<|d.2.1.take c.X.length) (c.off 6) c.T.length).length=c.T.length:=ew<|e.in' h (i:=6) V1;rw[JH (f:=fM c.X (0,d.1,d.2.1) _) (X:=c.X) (a:=d.2.1) (g:=seg (put (put W (c.off 4) d.2.1) (c.off 5)<|d.2.1.take c.X.length) (c.off 6) c.T.length) V1 V1 V1<|λs=>rfl]
 simp only[zG];rw[LC (ii:=6) (i:=6) h e rfl V1 Zs];rfl
def bi7 (h:c.Ok)(u:Wd c W)(C:r.length=c.R.toNat)(y:a.length=c.R.toNat)(D:t.length=c.fl.n):
  kZ c.R c.fixed c.tp c.sl c.ns c.mode c.R c.Q c.len c.words L p q c0 c1 c2 c3 z c.l r a t c.X c.T c.k c.P c.tk sb sn sx lv pk bd W=O (c.fixed,c.tp,c.sl,c.ns,c.mode,c.R,c.Q,c.len,c.words,L,p,q,c0,c1,c2,zH zI<|c3+1,z,(jM c.fl r a t).1,(jM c.fl r a t).2.1,Bf c W (jM c.fl r a t).2.1):=by
 have n:=h.num;obtain⟨E,V,Z⟩:=qJ h.pl C y (aD D.symm) ZS;have K:=n.R;have J:=n.Q;have H:=n.xtR;have I:=n.xtQ;have N:=n.x;have M:=n.t;unfold kZ;rw[E];simp only[zG];generalize jM c.fl r a t=d at*;have b:=nG h (a:=d.2.1) u V1 V1;obtain⟨v,e,F⟩:=b;rw[LC (ii:=4) (i:=4) h u rfl V1 V6];simp only[zG];rw[Zl,bp,show(c.X.length:Int).toNat-0=c.X.length by omega,cK,LC (ii:=5) (i:=5) h v rfl V1 Z7];simp only[zG];rw[QN (ii:=6) (i:=6) h e rfl V1];simp only[zG];rw[show c.sz 6=c.T.length from rfl];have A:(seg (put (put W (c.off 4) d.2.1) (c.off 5)<|d.2.1.take c.X.length) (c.off 6) c.T.length).length=c.T.length:=ew<|e.in' h (i:=6) V1;rw[JH (f:=fM c.X (0,d.1,d.2.1) _) (X:=c.X) (a:=d.2.1) (g:=seg (put (put W (c.off 4) d.2.1) (c.off 5)<|d.2.1.take c.X.length) (c.off 6) c.T.length) V1 V1 V1<|λs=>rfl]
 simp only[zG];rw[LC (ii:=6) (i:=6) h e rfl V1 Zs];rfl
def Lg (c:Cx)(W x:Zd):Zd:=Bf c (put W (c.off 3) (lossR c W x).1) (jM c.fk (lossR c W x).1 (fill c.Q [1]) (lossR c W x).2.1).2.1
def EC (h:c.Ok)(b:Wd c W)(u:ft x=ft c.X):Wd c (put W (c.off 3) (lossR c W x).1)/\Wd c (Lg c W x):=by
 have n:=h.num;have⟨v,e,g⟩:=Ca h b u;have D:=n.R;have C:=n.Q;have A:=n.xtQ;have F:=n.x;have E:=n.m;have y:=gH (c:=c) (i:=3) (j:=9) V1;have J:c.sz 3=fu c.Q:=rfl;have d:=b.put h (w:=(lossR c W x).1) (o:=c.off 3) V1;have⟨_,H,I⟩:=qJ h.pk e (a:=fill c.Q [1]) (t:=(lossR c W x).2.1) (fA V3) (aD g.symm) V1;exact⟨d,(nG h d V1 V1).2.2⟩
def bH3 (h:c.Ok)(b:Wd c W)(g:ft x=ft c.X):
  kF x c.fixed c.tp c.sl c.ns c.mode c.R c.Q c.len c.words L p q c0 c1 c2 c3 z c.X c.T c.l c.k c.P c.tk lv pk bd W=O (c.fixed,c.tp,c.sl,c.ns,c.mode,c.R,c.Q,c.len,c.words,L,p,q,c0,c1,zH zI<|c2+1,zH zI<|c3+1,rg (lossR c W x).1 0,Lg c W x):=by
 have n:=h.num;have⟨u,d,v⟩:=Ca h b g;have⟨C,M⟩:=EC h b g;have F:=n.R;have E:=n.Q;have D:=n.xtQ;have I:=n.x;have H:=n.m;unfold kF;rw[h.of,zG,gdz V1,av8 h b n.Q V3,zG,gdz V1,show bD (fu (c.fk.n:Int)) (0:Int)=zeros c.fk.n from rfl];have⟨A,J,K⟩:=tM h.pk u (t:=zeros c.fk.n) ZB Z5;rw[A,zG];have e:tO c.fk (fill c.Q<|x++(seg W 0 (ft c.T)++[])) (zeros c.fk.n)=lossR c W x:=rfl;rw[e];have i0:ix 0 (ft (lossR c W x).1)=O 0:=bl (k:=0) V1;have y:(lossR c W x).1[0]?=O (rg (lossR c W x).1 0):=ia (k:=0) V1;rw[i0,zG,y,zG,put1 (ii:=3) (i:=3) h b rfl V1 ZM,zG,Nw n.Q V3]
 simp only[zG];rw[bi5 h C d (fA V3) v];rfl
def bx2 (h:c.Ok)(b:Wd c W)(u:0<=lv)(y:lv<=pk)(g:lv+c.fk.n<=bd)(d:bd<=1048576):
  jY i0 c.fixed c.tp c.sl c.ns c.mode c.R c.Q c.len c.words L p q c0 c1 c2 c3 z c.X c.T c.l c.k c.P c.tk lv pk bd W=O (c.fixed,c.tp,c.sl,c.ns,c.mode,c.R,c.Q,c.len,c.words,L,p,q,c0,c1,zH zI<|c2+1,zH zI<|c3+1,rg (lossR c W<|seg W (c.off 1) c.X.length).1 0,lv,max pk<|lv+c.fk.n,bd,Lg c W<|seg W (c.off 1) c.X.length):=by
 have n:=h.num;have e:=b.in' h (i:=1) V1;have v:(seg W (c.off 1) c.X.length).length=c.X.length:=ew e;unfold jY;rw[h.of];simp only[zG];rw[qH V1 u g d];simp only[zG];rw[VA (ii:=1) (i:=1) h b rfl V1];simp only[zG];rw[show c.sz 1=c.X.length from rfl,bH3 h b v];simp only[zG];rw[wL V1 V1 V1 V1];simp only[zG];rw[show lv+(c.fk.n:Int)-c.fk.n=lv by omega]
def bu3 (h:c.Ok)(b:Wd c W)(g:ft x=ft c.X):
  jq x c.fixed c.tp c.sl c.ns c.mode c.R c.Q c.len c.words L p q c0 c1 c2 c3 z c.X c.T c.l c.k c.P c.tk sb sn sx lv pk bd W=O (c.fixed,c.tp,c.sl,c.ns,c.mode,c.R,c.Q,c.len,c.words,L,p,q,c0,c1,zH zI<|c2+1,zH zI<|c3+1,rg (lossR c W x).1 0,Lg c W x):=by
 have n:=h.num;have⟨u,d,v⟩:=Ca h b g;have⟨C,M⟩:=EC h b g;have F:=n.R;have E:=n.Q;have D:=n.xtQ;have I:=n.x;have H:=n.m;unfold jq;rw[h.of,zG,gdz V1,XI h b n.Q V3,zG,gdz V1,show bD (fu (c.fk.n:Int)) (0:Int)=zeros c.fk.n from rfl];have⟨A,J,K⟩:=tM h.pk u (t:=zeros c.fk.n) ZB Z5;rw[A,zG];have e:tO c.fk (fill c.Q<|x++(seg W 0 (ft c.T)++[])) (zeros c.fk.n)=lossR c W x:=rfl;rw[e];have i0:ix 0 (ft (lossR c W x).1)=O 0:=bl (k:=0) V1;have y:(lossR c W x).1[0]?=O (rg (lossR c W x).1 0):=ia (k:=0) V1;rw[i0,zG,y,zG,LC (ii:=3) (i:=3) h b rfl V1 ZM,zG,Nw n.Q V3]
 simp only[zG];rw[bi6 h C d (fA V3) v];rfl
def bx3 (h:c.Ok)(b:Wd c W)(u:0<=lv)(y:lv<=pk)(g:lv+c.fk.n<=bd)(d:bd<=1048576):
  iU i0 c.fixed c.tp c.sl c.ns c.mode c.R c.Q c.len c.words L p q c0 c1 c2 c3 z c.X c.T c.l c.k c.P c.tk sb sn sx lv pk bd W=O (c.fixed,c.tp,c.sl,c.ns,c.mode,c.R,c.Q,c.len,c.words,L,p,q,c0,c1,zH zI<|c2+1,zH zI<|c3+1,rg (lossR c W<|seg W (c.off 1) c.X.length).1 0,lv,max pk<|lv+c.fk.n,bd,Lg c W<|seg W (c.off 1) c.X.length):=by
 have n:=h.num;have e:=b.in' h (i:=1) V1;have v:(seg W (c.off 1) c.X.length).length=c.X.length:=ew e;unfold iU;rw[h.of];simp only[zG];rw[qH V1 u g d];simp only[zG];rw[QN (ii:=1) (i:=1) h b rfl V1];simp only[zG];rw[show c.sz 1=c.X.length from rfl,bu3 h b v];simp only[zG];rw[wL V1 V1 V1 V1];simp only[zG];rw[show lv+(c.fk.n:Int)-c.fk.n=lv by omega]
end
end
section
open Go.IntKind renaming wrap->zH,i64->zI,u64->zJ
open List renaming length_take->aB
open Nat renaming le_of_eq->aD
section
variable {c:Cx}
def PU (c:Cx)(W r t:Zd):Zd:=Bf c W (jM c.fl r (fill c.R<|seg W (c.off 5)<|ft c.X) t).2.1
def KF (h:c.Ok)(b:Wd c W)(g:ft r=fu c.R)(u:ft t=c.fl.n):ft (fill c.R<|seg W (c.off 5)<|ft c.X)=fu c.R/\Wd c (PU c W r t):=by
 have n:=h.num;have A:=n.R;have y:=n.xtR;have D:=n.x;have C:=n.n;have e:=b.in' h (i:=5) V1;have v:ft (seg W (c.off 5)<|ft c.X)=ft c.X:=ew e;have d:ft (fill c.R<|seg W (c.off 5)<|ft c.X)=fu c.R:=fA V1;have⟨_,E,F⟩:=qJ h.pl g d (aD u.symm) V1;exact⟨d,(nG h b V1 V1).2.2⟩
def bd1 (h:c.Ok)(b:Wd c W)(d:ft r=fu c.R)(e:ft t=c.fl.n):
  iV c.fixed c.tp c.sl c.ns c.mode c.R c.Q c.len c.words L p q c0 c1 c2 c3 z r t c.X c.T c.l c.k c.P c.tk sb sn sx lv pk bd W=O (c.fixed,c.tp,c.sl,c.ns,c.mode,c.R,c.Q,c.len,c.words,L,p,q,c0,c1,c2,zH zI<|c3+1,z,(jM c.fl r (fill c.R<|seg W (c.off 5)<|ft c.X) t).1,PU c W r t):=by
 have n:=h.num;have v:=n.R;have C:=n.xtR;have⟨g,y⟩:=KF h b d e;have u:=b.in' h (i:=5) V1;have A:ft (seg W (c.off 5)<|ft c.X)=ft c.X:=ew u;unfold iV;rw[QN (ii:=5) (i:=5) h b rfl V1,zG,show c.sz 5=ft c.X from rfl,Nw v V1,zG,bi7 h b d g e];rfl
def aq2 (c:Cx)(W:Zd)(p:Int):Zd:=PU c (put W (c.off 2) (stepR c W p).1) (stepR c W p).1 (stepR c W p).2.1
def AB (h:c.Ok)(b:Wd c W)(p:Int):Wd c<|put W (c.off 2) (stepR c W p).1:=by
 have⟨_,d,_⟩:=iS h b p;have e:=gH (c:=c) (i:=2) (j:=9) V1;have g:c.sz 2=fu c.R:=rfl;exact b.put h V1
def bI5 (h:c.Ok)(b:Wd c W)(v:0<=lv)(A:lv<=pk)(u:lv+c.fl.n<=bd)(d:bd<=1048576):
  jh i0 c.fixed c.tp c.sl c.ns c.mode c.R c.Q c.len c.words L p q c0 c1 c2 c3 z c.X c.T c.l c.k c.P c.tk sb sn sx lv pk bd W=O (c.fixed,c.tp,c.sl,c.ns,c.mode,c.R,c.Q,c.len,c.words,L,p,q,c0,zH zI<|c1+1,c2,zH zI<|c3+1,z,lv,max pk<|lv+c.fl.n,bd,aq2 c W p):=by
 obtain⟨y,e,g⟩:=iS h b p;unfold jh;rw[h.of];simp only[zG];rw[qH V1 v u d];simp only[zG];rw[aI6 h b];simp only[zG];rw[bd1 h (AB h b p) e g];simp only[zG];rw[wL V1 V1 V1 V1];simp only[zG];rw[show lv+(c.fl.n:Int)-c.fl.n=lv by omega];rfl
def Q6 (c:Cx)(W:Zd)(p:Int):Zd:=PU c (Lg c (put W (c.off 2) (stepR c W p).1)<|(stepR c W p).1.take<|ft c.X) (stepR c W p).1 (stepR c W p).2.1
def bu0 (h:c.Ok)(b:Wd c W)(A:0<=lv)(D:lv<=pk)(y:lv+(c.fl.n+c.fk.n)<=bd)(d:bd<=1048576):
  ld i0 c.fixed c.tp c.sl c.ns c.mode c.R c.Q c.len c.words L p q c0 c1 c2 c3 z c.X c.T c.l c.k c.P c.tk sb sn sx lv pk bd W=O (c.fixed,c.tp,c.sl,c.ns,c.mode,c.R,c.Q,c.len,c.words,L,p,q,c0,zH zI<|c1+1,zH zI<|c2+1,zH zI<|zH zI (c3+1)+1,rg (lossR c (put W (c.off 2) (stepR c W p).1)<|(stepR c W p).1.take c.X.length).1 0,lv,max pk<|lv+(c.fl.n+c.fk.n),bd,Q6 c W p):=by
 have n:=h.num;have F:=n.R;have E:=n.xtR;have I:=n.n;have H:=n.m;obtain⟨C,u,v⟩:=iS h b p;have g:=AB h b p;have e:((stepR c W p).1.take c.X.length).length=c.X.length:=by rw[aB];omega
 unfold ld;rw[h.of];simp only[zG];rw[ad (n:=(c.fl.n:Int)+(c.fk.n:Int)) V1,qH V1 A y d];simp only[zG];rw[aI6 h b];simp only[zG];rw[Zl,bp,show(c.X.length:Int).toNat-0=c.X.length by omega,List.drop_zero,bu3 h g e];simp only[zG];rw[bd1 h (EC h g e).2 u v];simp only[zG];rw[wL V1 V1 V1 V1];simp only[zG];rw[show lv+((c.fl.n:Int)+c.fk.n)-(c.fl.n+c.fk.n)=lv by omega];rfl
def Mx (c:Cx)(W:Zd)(p:Int):Zd:=EU c.fl<|fill c.R<|seg W (c.off 1) (ft c.X)++(seg W 0 (ft c.T)++[zH zJ p])
def adv1 (c:Cx)(W:Zd)(p:Int):Zd:=put (put W (c.off 2)<|Mx c W p) (c.off 1)<|(Mx c W p).take<|ft c.X
def advW (c:Cx)(W:Zd)(p:Int):Nat->Zd
 |0=>W
 |i+1=>adv1 c (advW c W p i)<|p+i
def am1 {R:Int}(h:ft r=fu R):fill R r=r:=by
 unfold fill;rw[h,Nat.sub_self];simp
def G4 (h:c.Ok)(d:Wd c W)(p:Int):oZ c.R c.l (fill c.R<|seg W (c.off 1) (ft c.X)++(seg W 0 (ft c.T)++[zH zJ p]))=O (0,Mx c W p)/\ft (Mx c W p)=fu c.R:=by
 have⟨b,_,_⟩:=iS h d p;have:=Vu h.pl (r:=fill c.R<|seg W (c.off 1) (ft c.X)++(seg W 0 (ft c.T)++[zH zJ p]))<|aD b;rw[am1 b]at this;exact this
def Tb (h:c.Ok)(b:Wd c W)(p:Int):Wd c (put W (c.off 2)<|Mx c W p)/\Wd c (adv1 c W p):=by
 have n:=h.num;have y:=n.R;have v:=n.xtR;have⟨_,e⟩:=G4 h b p;have g:=gH (c:=c) (i:=1) (j:=9) V1;have u:=gH (c:=c) (i:=2) (j:=9) V1;have A:c.sz 1=ft c.X:=rfl;have C:c.sz 2=fu c.R:=rfl;have d:=b.put h (w:=Mx c W p) (o:=c.off 2) V1;exact⟨d,d.put h Z4⟩
def Nc (h:c.Ok){W:Zd}(b:Wd c W)(p:Int): ∀i,Wd c (advW c W p i)
 |0=>b
 |i+1=>(Tb h (Nc h b p i) _).2
theorem au6 (h:c.Ok)(u:Wd c W){m:Nat}(D:m<=65536)(E:0<=p/\p<=65536)(C:0<=c0/\c0<=4611686018427387904):
  jf (m:Int) c.fixed c.tp c.sl c.ns c.mode c.R c.Q c.len c.words L p q c0 c1 c2 c3 z c.X c.T c.l c.k c.P c.tk sb sn sx lv pk bd W=O (c.fixed,c.tp,c.sl,c.ns,c.mode,c.R,c.Q,c.len,c.words,L,p,q,c0+m,c1,c2,c3,z,advW c W p m):=by
 have n:=h.num;have y:=n.R;have F:=n.xtR;have H:=n.x;unfold jf
 have d:am (iw (m:Int) c.X c.T c.l c.k c.P c.tk sb sn sx lv pk bd) cj (0,c.fixed,c.tp,c.sl,c.ns,c.mode,c.R,c.Q,c.len,c.words,L,p,q,c0+((0:Nat):Int),c1,c2,c3,z,advW c W p 0)=O (c.fixed,c.tp,c.sl,c.ns,c.mode,c.R,c.Q,c.len,c.words,L,p,q,c0+m,c1,c2,c3,z,advW c W p m):=by
  refine bz (n:=m) (λi=>(c.fixed,c.tp,c.sl,c.ns,c.mode,c.R,c.Q,c.len,c.words,L,p,q,c0+(i:Int),c1,c2,c3,z,advW c W p i)) V1 (λi hi=> ?_) ?_
  .have b:=Nc h u p i;obtain⟨e,g⟩:=G4 h b<|p+i;obtain⟨A,I⟩:=Tb h b<|p+i;have v:(seg (advW c W p i) (c.off 1) c.X.length).length=c.X.length:=ew<|b.in' h (i:=1) V1;simp only[iw];rw[zB (show(i:Int)<(m:Int)by omega),zC,QN (ii:=1) (i:=1) h b rfl V1];simp only[zG];rw[show c.sz 1=c.X.length from rfl,ad (n:=p+(i:Int)) V1,XI h b y (by rw[v];simp;omega)];simp only[zG];rw[e];simp only[zG];rw[LC (ii:=2) (i:=2) h b rfl V1 (by rw[show c.sz 2=c.R.toNat from rfl];exact aD g)];simp only[zG];rw[Zl,bp,show(c.X.length:Int).toNat-0=c.X.length by omega,List.drop_zero,LC (ii:=1) (i:=1) h A rfl V1 (by rw[aB,show c.sz 1=c.X.length from rfl];omega)];simp only[zG];rw[ad (n:=(i:Int)+1) V1,ad (n:=c0+(i:Int)+1) V1,show c0+(i:Int)+1=c0+((i+1:Nat):Int)by omega]
   rfl
  .simp only[iw]
   grind
 rw[show c0+((0:Nat):Int)=c0 by omega,show advW c W p 0=W from rfl]at d;rw[d];rfl
end
end
section
open List renaming range->aB
def jb (a n:Int):Bool:=if a<1 then Zb else if 9<a then Zb else if a=1 then Zc (1<=n/\n<65536)else if a<=4 then Zc (0<=n/\n<1048576)else Zc<|n=0
theorem S9 (a n:Int):pY a n=O (jb a n):=by
 unfold pY jb pK
 grind
section
variable {c:Cx}
def sp (c:Cx)(k:Nat):Nat:=c.off 8+k*(ft c.X+1)
def ib (c:Cx)(W:Zd)(k:Nat):Int:=rg W (sp c k:Int)
def iC (c:Cx)(W:Zd):Zd:=(aB<|fu c.ns).map λ(k:Nat)=>ib c W k-1
structure Dy where
 L:Int
 p:Int
 q:Int
 c0:Int
 c1:Int
 c2:Int
 c3:Int
 z:Int
 lv:Int
 pk:Int
 W:Zd
def jz (c:Cx)(W:Zd):Nat:=(aB<|fu c.ns).countP λ(k:Nat)=>Zc<|0<ib c W k
structure Inv (c:Cx)(s:Dy):Prop where
 w:Wd c s.W
 L:0<=s.L/\s.L<=65535
 p:0<=s.p/\s.p<=s.L
 q: -1<=s.q/\s.q<=s.L
 tag: ∀k,k<fu c.ns->0<=ib c s.W k/\ib c s.W k<=s.L+1
 lv:s.lv=c.fixed+c.sl*jz c s.W
 pk:s.lv<=s.pk/\s.pk<=c.words
theorem sw (h:c.Ok)(u:c.mode≠3)(g:k<fu c.ns):sp c k+(ft c.X+1)<=c.off 9/\fu c.ns*(ft c.X+1)+c.off 8=c.off 9/\fu c.ns<=524288:=by
 have n:=h.num;have b:=n.sl;rw[zF u]at b;have v:=h.ns
 have e:fu (c.sl*c.ns)=fu c.ns*(ft c.X+1):=by
  grind
 have D:c.off 9=c.off 8+fu c.ns*(ft c.X+1):=by rw[Pk,e]
 have d:(k+1)*(ft c.X+1)<=fu c.ns*(ft c.X+1):=Nat.mul_le_mul_right _ g;rw[Nat.succ_mul]at d;have y:=h.off9_le;have A:=n.words;have C:fu c.ns*2<=fu c.ns*(ft c.X+1):=Nat.mul_le_mul_left _ (by have:=n.x;omega);unfold sp;omega
def Bu (h:c.Ok)(g:c.mode≠3)(d:k<fu c.ns):eg (c.off 8:Int) c.ns (ft c.X:Int) (k:Int)=O (sp c k:Int):=by
 have⟨b,u,v⟩:=sw h g d;have y:=h.off9_le;have A:=h.num.words;have C:=h.num.x;unfold sp at b;unfold eg fi;simp only[zG];have e:(k:Int)*((ft c.X:Int)+1)=((k*(ft c.X+1):Nat):Int):=by rw[Int.natCast_mul];congr 1
 rw[ad (n:=(ft c.X:Int)+1) V1,e,ad (n:=((k*(ft c.X+1):Nat):Int)) V1,Zi];unfold sp
 congr 1
def Kz (h:c.Ok)(u:c.mode≠3)(e:Wd c W)(g:k<fu c.ns):gh (sp c k:Int) c.tk W=O (ib c W k,0):=by
 have⟨v,_,_⟩:=sw h u g;have⟨b,d⟩:=e.tk h;exact ai7 V1 b d
theorem KA (h:c.Ok)(b:c.mode≠3)(d:Wd c W)(g: ∀k,k<fu c.ns->0<=ib c W k/\ib c W k<=65536):iq (c.off 8:Int) c.ns (ft c.X:Int) c.tk W=O (iC c W):=by
 unfold iq;have e:=h.ns
 have v:am (jK (c.off 8:Int) c.ns (ft c.X:Int) c.tk W) cj (0,(aB 0).map λ(k:Nat)=>ib c W k-1)=O (iC c W):=by
  refine bz (n:=fu c.ns) (λi=>(aB i).map λ(k:Nat)=>ib c W k-1) V1 (λi hi=> ?_) ?_
  .have u:=g i hi;unfold jK;simp only;rw[Zf,zC,Bu h b hi,zG,Kz h b d hi,zG,au V3 V1,ad (n:=(i:Int)+1) V1,ad (n:=ib c W i) V1,ad (n:=ib c W i-1) V1,List.range_succ,List.map_append];rfl
  unfold jK;simp only;rw[Ze,zD];rfl
 grind
theorem G7 (b:k<fu c.ns):(iC c W)[k]?=O (ib c W k-1):=by
 unfold iC
 simp_all
def oW :ft (iC c W)=fu c.ns:=by unfold iC;simp
theorem QH {l:Zd}(d:ft l<1000000)(h: ∀t∈l,-1<=t/\t<=L):gv l L=O Zb:=by
 unfold gv jT
 have b:am (gw l L) cj 0=O (.inr ()):=by
  refine nr (n:=ft l) V1 (λi hi=> ?_) ?_
  .have:=h l[i]<|List.getElem_mem hi;unfold gw mI;rw[Zf,zC,bq hi,zG,Ze,zD,zG,Ze,zD,Zi];rfl
  unfold gw
  grind
 rw[b];rfl
def EH {l:Zd}(d:0<=L/\L<=65535)(e:0<=p/\p<=L)(g: -1<=q/\q<=L)(b:ft l<1000000)(h: ∀t∈l,-1<=t/\t<=L):kn L p q l=O (.inr (p,q,L,l)):=by
 unfold kn AF mI;rw[zB (show 0<=L by omega),zB (show L<65536 by omega)];simp only[zC,zG,Bool.not_true,zD];rw[zA (show¬(1048576<(ft l:Int))by omega),zA (show¬p= -1 by omega),zA (show¬p< -1 by omega),zA (show¬L<p by omega),zA (show¬q< -1 by omega),zA (show¬L<q by omega)];simp only[zD,zG];rw[QH b h];simp only[zG,zD];unfold aj;rw[au V1 V1];rfl
end
end
variable {s:Dy}
section
open Bool renaming not_true->aB
open Int renaming mul_le_mul_of_nonneg_left->aD
open List renaming countP_le_length->bB
section
variable {c:Cx}
def yg (c:Cx)(a n:Int)(s:Dy):Int×Dy:=
 if jb a n=Zb∨7<a then(2,s)
 else if(2<=a/\a<=4)/\c.ns<=n then(2,s)
 else if a=1 then(if s.L-s.p<n then(17,s)else(0,{s with p:=s.p+n,c0:=s.c0+n,W:=advW c s.W s.p<|fu n}))
 else if a=2 then(if 0<=ib c s.W (fu n)-1 then(15,s)else(0,{s with lv:=s.lv+c.sl,pk:=max s.pk<|s.lv+c.sl,W:=put s.W (sp c<|fu n)<|IntKind.u64.wrap (IntKind.i64.wrap<|s.p+1)::seg s.W (c.off 1) (ft c.X)}))
 else if a=3 then(if ib c s.W (fu n)-1<0 then(16,s)else(0,{s with p:=ib c s.W (fu n)-1,W:=put s.W (c.off 1)<|seg s.W (sp c (fu n)+1)<|ft c.X}))
 else if a=4 then(if ib c s.W (fu n)-1<0 then(16,s)else(0,{s with lv:=s.lv-c.sl,W:=put s.W (sp c<|fu n)<|zeros<|ft c.X+1}))
 else if a=5 then(if s.q≠ -1 then(18,s)else if s.p≠s.L then(17,s)else(0,{s with q:=s.p,c2:=s.c2+1,c3:=s.c3+1,z:=rg (lossR c s.W<|seg s.W (c.off 1)<|ft c.X).1 0,pk:=max s.pk<|s.lv+c.fk.n,W:=Lg c s.W<|seg s.W (c.off 1)<|ft c.X}))
 else if a=6 then(if s.q≠ -1 then(18,s)else if s.p≠s.L-1 then(17,s)else(0,{s with q:=s.p,c1:=s.c1+1,c2:=s.c2+1,c3:=s.c3+1+1,z:=rg (lossR c (put s.W (c.off 2) (stepR c s.W s.p).1)<|(stepR c s.W s.p).1.take<|ft c.X).1 0,pk:=max s.pk<|s.lv+(c.fl.n+c.fk.n),W:=Q6 c s.W s.p}))
 else(if s.q<=0 then(18,s)else if s.p≠s.q-1 then(17,s)else(0,{s with q:=s.p,c1:=s.c1+1,c3:=s.c3+1,pk:=max s.pk<|s.lv+c.fl.n,W:=aq2 c s.W s.p}))
def bk5 (c:Cx)(r:Int×Dy):Int×Int×Int×Int×Int×Int×Int×Int×Int×Int×Int×Int×Int×Int×Int×Int×Int×Int×Int×Int×Int×Zd:=
 (r.1,c.fixed,c.tp,c.sl,c.ns,c.mode,c.R,c.Q,c.len,c.words,r.2.L,r.2.p,r.2.q,r.2.c0,r.2.c1,r.2.c2,r.2.c3,r.2.z,r.2.lv,r.2.pk,c.words,r.2.W)
def FT (B:Int)(s:Dy):Prop:=(0<=s.c0/\s.c0<=B)/\(0<=s.c1/\s.c1<=B)/\(0<=s.c2/\s.c2<=B)/\(0<=s.c3/\s.c3<=B)
def ag3 (c:Cx)(W:Zd):jz c W<=fu c.ns:=by
 unfold jz;exact Nat.le_trans bB V2
def J4 (h:c.Ok)(hi:Inv c s):0<=s.lv/\s.lv+c.tp<=c.words/\c.words<=1048576/\0<=c.tp:=by
 have n:=h.num;have e:=hi.lv;have g:=ag3 c s.W;have u:=h.fit;have v:=n.fixed;have y:=h.ns;have d:=n.sl;have A:1<=c.sl:=by rw[d];have:=n.R;split<;>omega
 have C:c.sl*(jz c s.W:Int)<=c.sl*c.ns:=aD V1 V1;have D:0<=c.sl*(jz c s.W:Int):=Int.mul_nonneg V1 V1;have b:0<=c.tp:=by rw[n.tp];split<;>omega
 have:=n.R;have:=n.Q;have:=n.words;omega
theorem Ry (h:c.Ok)(hi:Inv c s)(A:jz c s.W<fu c.ns):s.lv+c.sl<=c.words:=by
 have n:=h.num;have e:=hi.lv;have g:=h.fit;have u:=h.ns;have d:=n.sl;have v:1<=c.sl:=by rw[d];have:=n.R;split<;>omega
 have y:c.sl*((jz c s.W:Int)+1)<=c.sl*c.ns:=aD V1 V1;have b:0<=c.tp:=by rw[n.tp];split<;>omega
 grind
def al2 {l:List Nat}{P:Nat->Bool}(d:k∈l)(b:P k=Zb):l.countP P<ft l:=by
 rcases Nat.lt_or_ge (l.countP P) (ft l) with h|h
 .exact h
 have:=List.countP_eq_length.1 (Nat.le_antisymm bB h) k d;rw[b]at this;cases this
def Ro (b:k<fu c.ns)(d:ib c W k<=0):jz c W<fu c.ns:=by
 have:=al2 (l:=List.range<|fu c.ns) (P:=λ(k:Nat)=>Zc<|0<ib c W k) (k:=k) (cJ.2 b)<|zA V1;rw[List.length_range]at this;exact this
theorem X4 (b:k<fu c.ns):jL sb c.ns sx (k:Int)=O Za:=by
 unfold jL
 grind
def bp7 (h:c.Ok)(e:c.mode≠3)(hi:Inv c s)(b:k<fu c.ns)(A:ib c s.W k<=0):
  kg (k:Int) c.fixed c.tp c.sl c.ns c.mode c.R c.Q c.len c.words s.L s.p s.q s.c0 s.c1 s.c2 s.c3 s.z c.X c.T c.l c.k c.P c.tk (c.off 8:Int) c.ns (ft c.X:Int) s.lv s.pk c.words s.W=O (s.lv+c.sl,max s.pk<|s.lv+c.sl,c.words,put s.W (sp c k)<|IntKind.u64.wrap (IntKind.i64.wrap<|s.p+1)::seg s.W (c.off 1) (ft c.X)):=by
 have n:=h.num;have d:=hi.w;have⟨v,F,H⟩:=J4 h hi;have y:=Ry h hi<|Ro b A;have g:=n.sl;rw[zF e]at g;have K:=n.x;have J:=hi.p;have I:=hi.L;have C:=(hi.tag k b).1;have⟨M,N,V⟩:=sw h e b;have⟨D,E⟩:=d.tk h;have u:ft (seg s.W (c.off 1)<|ft c.X)=ft c.X:=ew<|d.in' h (i:=1) V1;unfold kg;rw[qH V1 v y V1,zG,QN (ii:=1) (i:=1) h d rfl V1,zG,show c.sz 1=ft c.X from rfl];unfold pn;rw[X4 b];simp only[zG,aB,zD];rw[Bu h e b,zG,Kz h e d b,zG,zA (show¬s.p<0 by omega),zD,zA (show¬65536<=s.p by omega)];simp only[zG,zD];rw[u,zA (λk=>k rfl),zD,zA (show¬(ib c s.W k≠0)by omega),zD,au V1 V1]
 unfold Cx.tk;rw[tD (by simp[u];omega) D E];rfl
def aG7 (h:c.Ok)(e:c.mode≠3)(hi:Inv c s)(b:k<c.ns.toNat)(C:0<ib c s.W k):
  jg (k:Int) c.fixed c.tp c.sl c.ns c.mode c.R c.Q c.len c.words s.L s.p s.q s.c0 s.c1 s.c2 s.c3 s.z c.X c.T c.l c.k c.P c.tk (c.off 8:Int) c.ns (c.X.length:Int) s.lv s.pk c.words s.W=O (put s.W (c.off 1)<|seg s.W (sp c k+1) c.X.length):=by
 have n:=h.num;have d:=hi.w;have A:=hi.L;have g:=(hi.tag k b).2;obtain⟨D,E,F⟩:=sw h e b;obtain⟨v,y⟩:=d.tk h;have u:(seg s.W (sp c k+1) c.X.length).length=c.X.length:=ew V1;unfold jg mW;rw[X4 b];simp only[zG,aB,zD];rw[Bu h e b];simp only[zG];rw[Kz h e d b];simp only[zG];rw[zA (show¬ib c s.W k=0 by omega),zD,ad (n:=(sp c k:Int)+1) V1,show(sp c k:Int)+1=((sp c k+1:Nat):Int)by omega];unfold Cx.tk;rw[Be V1 v y];simp only[zG];rw[show((c.off 9:Nat):Int)=c.tk from rfl,LC (ii:=1) (i:=1) h d rfl V1 (by rw[u];exact Nat.le_refl _)];rfl
def bv2 (h:c.Ok)(d:c.mode≠3)(hi:Inv c s)(b:k<c.ns.toNat)(F:0<ib c s.W k)(e:c.sl<=s.lv):
  lf (k:Int) c.fixed c.tp c.sl c.ns c.mode c.R c.Q c.len c.words s.L s.p s.q s.c0 s.c1 s.c2 s.c3 s.z c.X c.T c.l c.k c.P c.tk (c.off 8:Int) c.ns (c.X.length:Int) s.lv s.pk c.words s.W=O (s.lv-c.sl,s.pk,c.words,put s.W (sp c k)<|zeros<|c.X.length+1):=by
 have n:=h.num;have v:=hi.w;have H:=n.x;have u:=n.sl;rw[zF d]at u;obtain⟨C,D,E⟩:=J4 h hi;have g:=hi.pk;obtain⟨I,J,K⟩:=sw h d b;obtain⟨y,A⟩:=v.tk h;unfold lf qm;rw[X4 b];simp only[zG,aB,zD];rw[Bu h d b];simp only[zG];rw[Kz h d v b];simp only[zG];rw[zA (show¬ib c s.W k=0 by omega),zD];unfold fi;simp only[zG];rw[ad (n:=(c.X.length:Int)+1) V1,gdz V1,show List.replicate (((c.X.length:Int)+1).toNat) (0:Int)=zeros (c.X.length+1)from rfl];unfold Cx.tk;rw[tD Z5 y A];simp only[zG];rw[wL V1 e g.1 V1];rfl
end
end
section
open Int renaming reduceEq->aD
open Nat renaming reduceSub->aB
def bm9 (a n p q L b:Int)(l:Zd):Int×Int×Int×Int×Int×Zd:=
 if jb a n=Zb∨7<a then(2,p,q,L,b,l)
 else if(2<=a/\a<=4)/\(ft l:Int)<=n then(2,p,q,L,b,l)
 else if a=1 then(if L-p<n then(17,p,q,L,b,l)else(0,p+n,q,L,b+n,l))
 else if a=2 then(if 0<=rg l n then(15,p,q,L,b,l)else(0,p,q,L,b,l.set (fu n) p))
 else if a=3 then(if rg l n<0 then(16,p,q,L,b,l)else(0,rg l n,q,L,b,l))
 else if a=4 then(if rg l n<0 then(16,p,q,L,b,l)else(0,p,q,L,b,l.set (fu n)<|-1))
 else if a=5 then(if q≠ -1 then(18,p,q,L,b,l)else if p≠L then(17,p,q,L,b,l)else(0,p,p,L,b,l))
 else if a=6 then(if q≠ -1 then(18,p,q,L,b,l)else if p≠L-1 then(17,p,q,L,b,l)else(0,p,p,L,b,l))
 else(if q<=0 then(18,p,q,L,b,l)else if p≠q-1 then(17,p,q,L,b,l)else(0,p,p,L,b,l))
def nbz :Nat.beq 0 0=Za:=rfl
def nbs (n:Nat):Nat.beq (n+1) 0=Zb:=rfl
theorem ER {a n:Int}(h: ¬(jb a n=Zb∨7<a)):jb a n=Za/\(a=1∨a=2∨a=3∨a=4∨a=5∨a=6∨a=7):=by
 have b:jb a n=Za:=by
  grind
 refine⟨b, ?_⟩;have e: ¬a<1:=λd=>by unfold jb at b;rw[zE d]at b;cases b
 omega
theorem ES {a n:Int}(h:jb a n=Za)(b:1<=a/\a<=4):0<=n/\n<1048576/\(a=1->1<=n/\n<65536):=by
 unfold jb at h
 grind
theorem Ya {a n d:Int}{l:Zd}(N:0<=L/\L<=65535)(V:0<=p/\p<=L)(Z: -1<=q/\q<=L)(ht:0<=d/\d<=1000000000000):jv a n p q L d l=O (bm9 a n p q L d l):=by
 unfold jv bm9;rw[S9];simp only[zG];by_cases y:jb a n=Zb∨7<a
 .rw[zE y]
  have e:(cond (!jb a n) (O Za)<|O<|Zc<|7<a)=O Za:=by
   grind
  rw[e];rfl
 rw[zF y];obtain⟨A,K⟩:=ER y;have J: ¬7<a:=λh=>y (.inr h)
 rw[A,zA J];simp only[Bool.not_true,zD,zG];by_cases v:(2<=a/\a<=4)/\(l.length:Int)<=n
 .rw[zE v,zB v.1.1,zB v.1.2,zB v.2];rfl
 rw[zF v]
 have e:(cond (Zc<|2<=a) (cond (Zc<|a<=4) (cond (Zc<|(l.length:Int)<=n) (O<|Sum.inl ())<|O<|Sum.inr ())<|O<|Sum.inr ()) (O<|Sum.inr ()):Option<|Unit⊕Unit)=O (.inr ()):=by
  grind
 rw[e];simp only[zG,ci,mJ]
 have b:(2<=a/\a<=4)->0<=n/\n.toNat<l.length/\ix n l.length=O n.toNat/\l[n.toNat]?=O (rg l n):=λM=>by
  have D:=ES A ⟨V1,M.2⟩
  have u:n.toNat<l.length:=by
   omega
  have C:n=((n.toNat:Nat):Int):=by omega
  refine⟨D.1,u, ?_, ?_⟩
  .conv=>lhs;rw[C]
   exact bl u
  have:=ia u;rw[<-C]at this;exact this
 rcases K with rfl|rfl|rfl|rfl|rfl|rfl|rfl
 .have D:=ES A V1;rw[show ix 1 8=O 1 from rfl];simp only[zG,aB,nbz,nbs,zC,zD];rw[zE trivial];unfold lx;rw[ad (n:=L-p) V1,ah];by_cases g:L-p<n
  .rw[zE g,zE g];rfl
  rw[zF g,zF g,ad (n:=p+n) V1,ad (n:=d+n) V1];rfl
 .obtain⟨E,F,H,I⟩:=b V1;rw[show ix 2 8=O 2 from rfl];simp only[zG,aB,nbz,nbs,zC,zD];rw[zF V5,zE trivial];unfold mK
  grind
 .obtain⟨E,F,H,I⟩:=b V1;rw[show ix 3 8=O 3 from rfl];simp only[zG,aB,nbz,nbs,zC,zD];rw[zF V5,zF V5,zE trivial];unfold ly
  grind
 .obtain⟨E,F,H,I⟩:=b V1;rw[show ix 4 8=O 4 from rfl];simp only[zG,aB,nbz,nbs,zC,zD];rw[zF V5,zF V5,zF V5,zE trivial];unfold nP
  grind
 .rw[show ix 5 8=O 5 from rfl];simp only[zG,aB,nbz,nbs,zC,zD];rw[zF V5,zF V5,zF V5,zF V5,zE trivial];unfold nS il;rw[ad (n:=L-0) V1,ah]
  grind
 .rw[show ix 6 8=O 6 from rfl];simp only[zG,aB,nbz,nbs,zC,zD];rw[zF V5,zF V5,zF V5,zF V5,zF V5,zE trivial];unfold nO il;rw[ad (n:=L-1) V1,ah]
  grind
 rw[show ix 7 8=O 7 from rfl];simp only[zG,aB,nbz,nbs,zC,zD];rw[zF V5,zF V5,zF V5,zF V5,zF V5,zF V5];unfold lz;rw[ah];by_cases g:q<=0
 .rw[zE g,zE g];rfl
 rw[zF g,zF g,ad (n:=q-1) V1,ah]
 grind
section
variable {c:Cx}
theorem KB (d: ∀k,k<fu c.ns->0<=ib c W k/\ib c W k<=L+1): ∀t∈iC c W,-1<=t/\t<=L:=λt b=>by
 unfold iC at b
 grind
theorem aW5 {n:Int}(h:0<=n)(b:fu n<fu c.ns):rg (iC c W) n=ib c W (fu n)-1:=by
 have d:=G7 (c:=c) (W:=W) b;have e:=ia (r:=iC c W) (k:=fu n) (by rw[oW];exact b)
 grind
def FT.in' (h:FT B s)(b:B<=2305843009213693952):(0<=s.c0/\s.c0<=2305843009213693952)/\(0<=s.c1/\s.c1<=2305843009213693952)/\(0<=s.c2/\s.c2<=2305843009213693952)/\(0<=s.c3/\s.c3<=2305843009213693952):=by
 unfold FT at h;omega
def aJ1 (b:k<fu c.ns)(d:0<ib c W k):0<jz c W:=by
 unfold jz;exact List.countP_pos_iff.2 ⟨k,cJ.2 b,zB d⟩
def aB9 (h:c.Ok)(hi:Inv c s)(v:0<jz c s.W):c.sl<=s.lv:=by
 have n:=h.num;have d:=hi.lv;have e:=n.fixed;have b:=n.sl;have g:1<=c.sl:=by rw[b];have:=n.R;split<;>omega
 have u:c.sl*1<=c.sl*(jz c s.W:Int):=Int.mul_le_mul_of_nonneg_left V1 V1;have:=n.R;have:=n.Q;omega
def do2 (h:c.Ok)(D:c.mode≠3)(hi:Inv c s)(hc:FT B s)(hB:B<=2305843009213693952){a n:Int}:
  jX a n c.fixed c.tp c.sl c.ns c.mode c.R c.Q c.len c.words s.L s.p s.q s.c0 s.c1 s.c2 s.c3 s.z c.X c.T c.l c.k c.P c.tk (c.off 8:Int) c.ns (c.X.length:Int) s.lv s.pk c.words s.W=O (bk5 c<|yg c a n s):=by
 have nm:=h.num;have H:=hi.w;have hL:=hi.L;have hp:=hi.p;have hq:=hi.q;have E:=hi.pk;have V:=h.ns;obtain⟨k0,k1,k2,k3⟩:=hc.in' hB;obtain⟨K,g2,M,g4⟩:=J4 h hi;have Z:=nm.tp;rw[zF D]at Z
 have e:(iC c s.W).length<1000000:=by
  rw[oW];rcases Nat.eq_zero_or_pos c.ns.toNat with h0|h0
  .omega
  .have:=(sw h D h0).2.2;omega
 unfold jX lu;simp only[zG];rw[zA D,zD];unfold fB;rw[KA h D H (λk N=>by have:=hi.tag k N;omega)];simp only[zG];rw[EH hL hp hq e<|KB hi.tag];simp only[zG,ci];rw[Ya hL hp hq V1];simp only[zG];unfold bm9 yg;by_cases F:jb a n=Zb∨7<a
 .rw[zE F,zE F,zB V2,zC];rfl
 rw[zF F,zF F];obtain⟨h2,N⟩:=ER F;rw[oW,Int.toNat_of_nonneg V.1];by_cases J:(2<=a/\a<=4)/\c.ns<=n
 .rw[zE J,zE J,zB V2,zC];rfl
 rw[zF J,zF J]
 have y:(2<=a/\a<=4)->n=((n.toNat:Nat):Int)/\n.toNat<c.ns.toNat/\rg (iC c s.W) n=ib c s.W n.toNat-1:=λhs=>by
  have hn:=ES h2 ⟨V1,hs.2⟩
  have g:n.toNat<c.ns.toNat:=by
   omega
  exact⟨V1,g,aW5 hn.1 g⟩
 simp only[nL,bk,aj,zG];have d: ∀l:Zd,l.length<1000000->gd (dh (0+l.length) 8) (O l)=O l:=λl hl=>au V1 V1
 have A: ∀(i:Nat) (x:Int),((iC c s.W).set i x).length<1000000:=λi x=>by simp only[List.length_set];exact e
 rcases N with rfl|rfl|rfl|rfl|rfl|rfl|rfl
 .have hn:=ES h2 V1;simp only[aD,reduceIte];by_cases b:s.L-s.p<n
  .rw[zE b,zE b,zB V2,zC];rfl
  rw[zF b,zF b,zA V2,zD,show ix 1 8=O 1 from rfl];simp only[zG,aB,nbz,nbs,zC,zD];have C:n=((n.toNat:Nat):Int):=by omega
  have v:=au6 h H (m:=n.toNat) (L:=s.L) (p:=s.p) (q:=s.q) (c0:=s.c0) (c1:=s.c1) (c2:=s.c2) (c3:=s.c3) (z:=s.z) (sb:=(c.off 8:Int)) (sn:=c.ns) (sx:=(c.X.length:Int)) (lv:=s.lv) (pk:=s.pk) (bd:=c.words) V1 V1 V1;rw[<-C]at v;rw[v];simp only[zG];rw[d _ e];rfl
 .obtain⟨C,g,I⟩:=y V1;simp only[aD,reduceIte];rw[I];by_cases b:0<=ib c s.W n.toNat-1
  .rw[zE b,zE b,zB V2,zC];rfl
  rw[zF b,zF b,zA V2,zD,show ix 2 8=O 2 from rfl];simp only[zG,aB,nbz,nbs,zC,zD];have v:=bp7 h D hi g V1;rw[<-C]at v;rw[v];simp only[zG];rw[d _<|A _ _];rfl
 .obtain⟨C,g,I⟩:=y V1;simp only[aD,reduceIte];rw[I];by_cases b:ib c s.W n.toNat-1<0
  .rw[zE b,zE b,zB V2,zC];rfl
  rw[zF b,zF b,zA V2,zD,show ix 3 8=O 3 from rfl];simp only[zG,aB,nbz,nbs,zC,zD];have v:=aG7 h D hi g V1;rw[<-C]at v;rw[v];simp only[zG];rw[d _ e];rfl
 .obtain⟨C,g,I⟩:=y V1;simp only[aD,reduceIte];rw[I];by_cases b:ib c s.W n.toNat-1<0
  .rw[zE b,zE b,zB V2,zC];rfl
  rw[zF b,zF b,zA V2,zD,show ix 4 8=O 4 from rfl];simp only[zG,aB,nbz,nbs,zC,zD];have v:=bv2 h D hi g V1<|aB9 h hi<|aJ1 g V1;rw[<-C]at v;rw[v];simp only[zG];rw[d _<|A _ _];rfl
 .simp only[aD,reduceIte];by_cases b:s.q≠ -1
  .rw[zE b,zE b,zB V2,zC];rfl
  rw[zF b,zF b];by_cases u:s.p≠s.L
  .rw[zE u,zE u,zB V2,zC];rfl
  rw[zF u,zF u,zA V2,zD,show ix 5 8=O 5 from rfl];simp only[zG,aB,nbz,nbs,zC,zD];rw[bx3 h H K E.1 V1 M];simp only[zG];rw[d _ e,ad (n:=s.c2+1) V1,ad (n:=s.c3+1) V1];rfl
 .simp only[aD,reduceIte];by_cases b:s.q≠ -1
  .rw[zE b,zE b,zB V2,zC];rfl
  rw[zF b,zF b];by_cases u:s.p≠s.L-1
  .rw[zE u,zE u,zB V2,zC];rfl
  rw[zF u,zF u,zA V2,zD,show ix 6 8=O 6 from rfl];simp only[zG,aB,nbz,nbs,zC,zD];rw[bu0 h H K E.1 V1 M];simp only[zG];rw[d _ e,ad (n:=s.c1+1) V1,ad (n:=s.c2+1) V1,ad (n:=s.c3+1) V1,ad (n:=s.c3+1+1) V1];rfl
 .simp only[aD,reduceIte];by_cases b:s.q<=0
  .rw[zE b,zE b,zB V2,zC];rfl
  rw[zF b,zF b];by_cases u:s.p≠s.q-1
  .rw[zE u,zE u,zB V2,zC];rfl
  rw[zF u,zF u,zA V2,zD,show ix 7 8=O 7 from rfl];simp only[zG,aB,nbz,nbs,zC,zD];rw[bI5 h H K E.1 V1 M];simp only[zG];rw[d _ e,ad (n:=s.c1+1) V1,ad (n:=s.c3+1) V1];rfl
end
end
section
open Go.IntKind renaming wrap->zH,i64->zI,u64->zJ
open Int renaming reduceEq->aB,le_max_left->cB,toNat_natCast->cD
open List renaming getD_eq_getElem?_getD->aD,range->bD,length_take->cK,countP_append->cM
open Nat renaming le_of_eq->bB,le_refl->cL
section
variable {c:Cx}
def eY (c:Cx)(W W':Zd):Prop:= ∀i,c.off 8<=i->W'[i]?=W[i]?
def eY.refl (W:Zd):eY c W W:=λ_ _=>rfl
def eY.trans {W'':Zd}(h:eY c W W')(b:eY c W' W''):eY c W W'':=λi hi=>(b i hi).trans<|h i hi
def eY.put (h:c.Ok)(b:eY c W W')(d:Wd c W')(hi:i<8)(v:ft w<=c.sz i):eY c W<|put W' (c.off i) w:=λj e=>by
 have g:=gH (c:=c) (i:=i) (j:=8) hi;have u:=d.in' h (i:=i) V1;rw[aG1 V1<|.inr V1];exact b j e
def eY.rg (h:eY c W W')(hi:c.off 8<=i):rg W' (i:Int)=rg W (i:Int):=by
 unfold Go.V.rg;rw[cD,aD,aD,h i hi]
def eY.tag (h:eY c W W')(k:Nat):ib c W' k=ib c W k:=h.rg ZZ
def eY.used (h:eY c W W'):jz c W'=jz c W:=by
 unfold jz
 congr 1
 funext k
 rw[h.tag k]
def eY.seg (h:eY c W W'){n:Nat}(b:c.off 8<=o):seg W' o n=seg W o n:=by
 apply List.ext_getElem?;intro i;rw[Cf,Cf];split
 .exact h _ V1
 rfl
def O5 (h:c.Ok)(d:Wd c W)(g:ft c.X+ft c.T<=ft a)(b:ft a<=max (fu c.R) (fu c.Q)):eY c W<|Bf c W a:=by
 have⟨u,e,v⟩:=nG h d g b;unfold Bf;refine eY.put h (eY.put h (eY.put h (eY.refl W) d V1 ?_) u V1 ?_) e V1 ?_
 .exact b
 .rw[cK];exact Nat.min_le_left _ _
 rw[qz,ew (n:=ft c.T)<|e.in' h (i:=6) V1];exact cL _
def J0 (h:c.Ok)(b:Wd c W)(e:ft x=ft c.X):eY c W<|Lg c W x:=by
 have n:=h.num;have C:=n.R;have A:=n.Q;have y:=n.xtQ;have E:=n.x;have D:=n.m;have⟨v,d,g⟩:=Ca h b e;have⟨u,I⟩:=EC h b e;have⟨_,F,H⟩:=qJ h.pk d (a:=fill c.Q [1]) (t:=(lossR c W x).2.1) (fA V3) (bB g.symm) V1;exact(eY.put h (eY.refl W) b (i:=3) V1<|bB d).trans<|O5 h u V1 V1
def VF (h:c.Ok)(b:Wd c W)(d:ft r=fu c.R)(e:ft t=c.fl.n):eY c W<|PU c W r t:=by
 have n:=h.num;have y:=n.R;have v:=n.xtR;have C:=n.x;have A:=n.n;have⟨g,u⟩:=KF h b d e;have⟨_,D,E⟩:=qJ h.pl d g (bB e.symm) V1;exact O5 h b V1 V1
def Rs (h:c.Ok)(b:Wd c W)(p:Int):eY c W<|put W (c.off 2) (stepR c W p).1:=
 eY.put h (eY.refl W) b (i:=2) V1 (bB (iS h b p).2.1)
def Nm (h:c.Ok)(b:Wd c W)(p:Int):eY c W (aq2 c W p)/\Wd c (aq2 c W p):=by
 have⟨u,d,e⟩:=iS h b p;have g:=AB h b p;exact⟨(Rs h b p).trans<|VF h g d e,(KF h g d e).2⟩
def ar1 (h:c.Ok)(b:Wd c W)(p:Int):ft ((stepR c W p).1.take<|ft c.X)=ft c.X:=by
 have n:=h.num;have v:=n.R;have u:=n.xtR;have⟨d,e,g⟩:=iS h b p;rw[cK];omega
def JZ (h:c.Ok)(b:Wd c W)(p:Int):eY c W (Q6 c W p)/\Wd c (Q6 c W p):=by
 have⟨y,d,e⟩:=iS h b p;have u:=AB h b p;have g:=ar1 h b p;have v:=(EC h u g).2;exact⟨((Rs h b p).trans<|J0 h u g).trans<|VF h v d e,(KF h v d e).2⟩
def aB1 (h:c.Ok)(b:Wd c W)(p:Int):eY c W<|adv1 c W p:=by
 have⟨_,d⟩:=G4 h b p;have⟨e,g⟩:=Tb h b p;refine eY.put h (eY.put h (eY.refl W) b (i:=2) V1<|bB d) e (i:=1) V1 ?_;rw[cK];exact Nat.min_le_left _ _
def Nl (h:c.Ok){W:Zd}(b:Wd c W)(p:Int): ∀i,eY c W (advW c W p i)
 |0=>eY.refl W
 |i+1=>(Nl h b p i).trans<|aB1 h (Nc h b p i) _
theorem GA {P P':Nat->Bool}{k:Nat}: ∀{n:Nat},k<n->P k=Zb->P' k=Za->(∀j,j<n->j≠k->P' j=P j)->(bD n).countP P'=(bD n).countP P+1
 |n+1,y,h,u,g=>by
  rw[List.range_succ,cM,cM];by_cases d:k=n
  .subst d
   have e:(bD k).countP P'=(bD k).countP P:=List.countP_congr λj v=>by
    grind
   rw[e];simp[h,u]
  .rw[GA (n:=n) V1 h u λj v b=>g j V1 b]
   grind
def af5 (h:j<k):sp c j+(ft c.X+1)<=sp c k:=by
 have b:(j+1)*(ft c.X+1)<=k*(ft c.X+1):=Nat.mul_le_mul_right _ h;rw[Nat.succ_mul]at b;unfold sp;omega
def Ns (b:sp c k+ft w<=ft W)(e:ft w=ft c.X+1)(d:j≠k):ib c (put W (sp c k) w) j=ib c W j:=by
 unfold ib rg;rw[cD,aD,aD,aG1 b];rcases Nat.lt_or_ge j k with h|h
 .exact .inl (by have:=af5 (c:=c) h;omega)
 exact .inr (by have:=af5 (c:=c) (show k<j by omega);omega)
def Am (b:sp c k+ft w<=ft W)(d:ft w=ft c.X+1):ib c (put W (sp c k) w) k=w.getD 0 0:=by
 unfold ib rg;rw[cD,aD,aD,Kh b,zE ⟨cL _,V1⟩,Nat.sub_self]
def GI {b:Dy}(hi:Inv c s)(v:Wd c b.W)(u:eY c s.W b.W)(g:b.L=s.L)(y:0<=b.p/\b.p<=s.L)(A: -1<=b.q/\b.q<=s.L)(d:b.lv=s.lv)(e:s.pk<=b.pk/\b.pk<=c.words):Inv c b:=
 ⟨v,by rw[g];exact hi.L,by rw[g];exact y,by rw[g];exact A,λk h=>by rw[u.tag,g];exact hi.tag k h,by rw[d,u.used];exact hi.lv,by rw[d];exact⟨Int.le_trans hi.pk.1 e.1,e.2⟩⟩
theorem aP3 (h:c.Ok)(E:c.mode≠3)(hi:Inv c s)(a n:Int):Inv c (yg c a n s).2:=by
 have nm:=h.num;have u:=hi.w;have hL:=hi.L;have D:=hi.p;have J:=hi.q;have F:=hi.pk;have hns:=h.ns;have nx:=nm.x;have⟨g1,g2,g3,g4⟩:=J4 h hi;have V:=nm.tp;rw[zF E]at V;have N:=nm.sl;rw[zF E]at N;have l1:ft (seg s.W (c.off 1)<|ft c.X)=ft c.X:=ew<|u.in' h (i:=1) V1;unfold yg;by_cases K:jb a n=Zb∨7<a
 .rw[zE K];exact hi
 rw[zF K];have⟨h2,hk⟩:=ER K;by_cases h4:(2<=a/\a<=4)/\c.ns<=n
 .rw[zE h4];exact hi
 rw[zF h4]
 have A:(2<=a/\a<=4)->fu n<fu c.ns:=λhs=>by
  have hn:=ES h2 ⟨V1,hs.2⟩;omega
 rcases hk with rfl|rfl|rfl|rfl|rfl|rfl|rfl
 .have hn:=ES h2 V1;simp only[aB,reduceIte];by_cases d:s.L-s.p<n
  .rw[zE d];exact hi
  rw[zF d];exact GI hi (Nc h u _ _) (Nl h u _ _) rfl ⟨by show 0<=s.p+n;omega,by show s.p+n<=s.L;omega⟩ J rfl ⟨Int.le_refl _,F.2⟩
 .have b:=A V1;simp only[aB,reduceIte];by_cases d:0<=ib c s.W (fu n)-1
  .rw[zE d];exact hi
  rw[zF d];generalize fu n=k at*;have⟨s1,s2,s3⟩:=sw h E b;have⟨t1,t2⟩:=u.tk h;have H:=hi.tag k b;have I:ft (zH zJ (zH zI<|s.p+1)::seg s.W (c.off 1) (ft c.X))=ft c.X+1:=by simp[l1]
  have e:=Am (c:=c) (W:=s.W) (k:=k) (w:=zH zJ (zH zI<|s.p+1)::seg s.W (c.off 1) (ft c.X)) V1 I
  have hv:(zH zJ (zH zI<|s.p+1)::seg s.W (c.off 1) (ft c.X)).getD 0 0=s.p+1:=by
   show zH zJ (zH zI<|s.p+1)=_;rw[Zi,Zk]
  rw[hv]at e;have g: ∀j,j≠k->ib c (put s.W (sp c k)<|zH zJ (zH zI<|s.p+1)::seg s.W (c.off 1) (ft c.X)) j=ib c s.W j:=λj v=>Ns V1 I v
  have M:=Ry h hi (Ro b V1)
  have Z:jz c (put s.W (sp c k)<|zH zJ (zH zI<|s.p+1)::seg s.W (c.off 1) (ft c.X))=jz c s.W+1:=by
   unfold jz;exact GA b (zA V1) (zB (by rw[e];omega)) λj _ v=>by rw[g j v]
  refine⟨u.put h V1,hL,D,J,λj v=> ?_, ?_, ?_⟩
  .by_cases y:j=k
   .subst y;rw[e];show 0<=s.p+1/\s.p+1<=s.L+1;omega
   rw[g j y];exact hi.tag j v
  .show s.lv+c.sl=c.fixed+c.sl*((jz c (put s.W (sp c k) _):Nat):Int);rw[Z,hi.lv]
   grind
  grind
 .have b:=A V1;simp only[aB,reduceIte];by_cases d:ib c s.W (fu n)-1<0
  .rw[zE d];exact hi
  rw[zF d];have⟨s1,s2,s3⟩:=sw h E b;have⟨t1,t2⟩:=u.tk h;have H:=hi.tag _ b;have l2:ft (seg s.W (sp c (fu n)+1)<|ft c.X)=ft c.X:=ew V1;have h1o:=gH (c:=c) (i:=1) (j:=9) V1;have z1:c.sz 1=ft c.X:=rfl;exact GI hi (u.put h (by rw[l2];omega)) (eY.put h (eY.refl s.W) u (i:=1) V1 (by rw[l2];exact cL _)) rfl ⟨by show 0<=ib c s.W (fu n)-1;omega,by show ib c s.W (fu n)-1<=s.L;omega⟩ J rfl ⟨Int.le_refl _,F.2⟩
 .have b:=A V1;simp only[aB,reduceIte];by_cases d:ib c s.W (fu n)-1<0
  .rw[zE d];exact hi
  rw[zF d];generalize fu n=k at*;have⟨s1,s2,s3⟩:=sw h E b;have⟨t1,t2⟩:=u.tk h;have H:=hi.tag k b;have I:ft (zeros<|ft c.X+1)=ft c.X+1:=cb _;have e:=Am (c:=c) (W:=s.W) (k:=k) (w:=zeros<|ft c.X+1) V1 I;have hv:(zeros<|ft c.X+1).getD 0 0=0:=rfl;rw[hv]at e;have g: ∀j,j≠k->ib c (put s.W (sp c k)<|zeros<|ft c.X+1) j=ib c s.W j:=λj v=>Ns V1 I v
  have Z:jz c s.W=jz c (put s.W (sp c k)<|zeros<|ft c.X+1)+1:=by
   unfold jz;exact GA b (zA V1) (zB V1) λj _ v=>by rw[g j v]
  refine⟨u.put h V1,hL,D,J,λj v=> ?_, ?_, ?_⟩
  .by_cases y:j=k
   .subst y;rw[e];show(0:Int)<=0/\0<=s.L+1;omega
   rw[g j y];exact hi.tag j v
  .show s.lv-c.sl=c.fixed+c.sl*((jz c (put s.W (sp c k)<|zeros<|ft c.X+1):Nat):Int);rw[hi.lv,Z]
   grind
  grind
 .simp only[aB,reduceIte];by_cases d:s.q≠ -1
  .rw[zE d];exact hi
  rw[zF d];by_cases C:s.p≠s.L
  .rw[zE C];exact hi
  rw[zF C];exact GI hi (EC h u l1).2 (J0 h u l1) rfl D ⟨by show-1<=s.p;omega,D.2⟩ rfl ⟨cB _ _,by show max s.pk (s.lv+(c.fk.n:Int))<=c.words;omega⟩
 .simp only[aB,reduceIte];by_cases d:s.q≠ -1
  .rw[zE d];exact hi
  rw[zF d];by_cases C:s.p≠s.L-1
  .rw[zE C];exact hi
  rw[zF C];exact GI hi (JZ h u s.p).2 (JZ h u s.p).1 rfl D ⟨by show-1<=s.p;omega,D.2⟩ rfl ⟨cB _ _,by show max s.pk (s.lv+((c.fl.n:Int)+c.fk.n))<=c.words;omega⟩
 simp only[aB,reduceIte];by_cases d:s.q<=0
 .rw[zE d];exact hi
 rw[zF d];by_cases C:s.p≠s.q-1
 .rw[zE C];exact hi
 rw[zF C];exact GI hi (Nm h u s.p).2 (Nm h u s.p).1 rfl D ⟨by show-1<=s.p;omega,D.2⟩ rfl ⟨cB _ _,by show max s.pk (s.lv+(c.fl.n:Int))<=c.words;omega⟩
theorem aP2 (e:FT B s)(a n:Int):FT (B+65536) (yg c a n s).2:=by
 have b:FT (B+65536) s:=by unfold FT at e⊢;omega
 unfold yg;by_cases d:jb a n=Zb∨7<a
 .rw[zE d];exact b
 rw[zF d];obtain⟨g,u⟩:=ER d;split
 .exact b
 split
 .rename_i h;have v:=ES g (by omega);split
  .exact b
  unfold FT at e⊢;simp only;omega
 repeat' split
 all_goals first|exact b|(unfold FT at e⊢;simp only;omega)
end
end
section
def ai4 (h:j<ft t):(t++r)[0+j]?=O (rg t (j:Int)):=by
 rw[Nat.zero_add,List.getElem?_append_left h,ia h]
def K0 (h:j<ft r):(t++r)[ft t+j]?=O (rg r (j:Int)):=by
 rw[List.getElem?_append_right (Nat.le_add_right _ _),Nat.add_sub_cancel_left,ia h]
theorem ai5 {v:Int}:(t++r).set (ft t+j) v=t++r.set j v:=by
 grind
def stK (t:Zd)(p d:Nat)(l:Nat->Int)(s:BS):Int×Int×Int×Zd×Zd×Int×Int×Int×Int×Int×Int×Int×Int:=
 ((p:Int)-1,(d:Int),(s.2.2:Int),t++s.1,s.2.1,l 0,l 1,l 2,l 3,l 4,l 5,l 6,l 7)
def bi8 {code:List yG}(C:code.length<=8192){R:Int}(hR:1<=R/\R<=64){e0 e1:Int}(hN:t.length<=1000000)(hw:w.length=t.length+R.toNat):Backs (dn R (e0,w) (e1,code)) code (stK t) (ri t) (VdB R.toNat t.length) (VC R.toNat)where
 op:=by
  intro p d l s m o A h hg y b E;obtain⟨H,u⟩:=lj C h;obtain⟨v1,v2,v3,v4⟩:=E;obtain⟨q1,q2⟩:=Kg o s.1 s.2.1<|rg t ((s.2.2-1:Nat):Int);refine⟨?_,by unfold ri;exact⟨by simp[v1,q1],by simp[v2,q2],by show m<=s.2.2-1;omega,by show s.2.2-1<=_;omega⟩⟩;obtain⟨g,F,I,e1,M,N,V,Z,g3⟩:=B6 hg;unfold stK ri;simp only[dn];rw[show((p+1:Nat):Int)-1=(p:Int)by omega,Ze,zD,u];simp only[zG];rw[h];simp only[zG,cq];rw[Ze,zD,Ze,zD];simp only[Fl,zG];rw[ad (n:=(s.2.2:Int)-1) V1,show(s.2.2:Int)-1=((s.2.2-1:Nat):Int)by omega,ad (n:=(w.length:Int)-R) V1,show((w.length:Int)-R).toNat=t.length by omega,show(w.length:Int).toNat-t.length=R.toNat by omega,Nat.sub_zero];have K:s.2.2-1<t.length:=by omega
  generalize s.2.2-1=n at*;unfold FN;simp only[e1,M,N,Int.toNat_natCast];rw[bl (show g<s.2.1.length by omega)];simp only[zG];rw[ia (show g<s.2.1.length by omega)];simp only[zG];rw[bl K];simp only[zG];rw[ai4 K];simp only[zG];rw[bl V];simp only[zG];rw[K0 (show g<s.1.length by omega)];simp only[zG];rw[bl Z];simp only[zG];rw[ai5];have D: ∀x:Int,(s.1.set g x).length=s.1.length:=by simp
  have ha1:(s.2.1.set g 0).length=s.2.1.length:=by simp
  rw[K0 (show F<(s.1.set g<|rg t (n:Int)).length by rw[D];omega)];simp only[zG];rw[bl g3];simp only[zG];rw[K0 (show I<(s.1.set g<|rg t (n:Int)).length by rw[D];omega)];simp only[zG];rw[bl (show F<(s.2.1.set g 0).length by omega)];simp only[zG];rw[ia (show F<(s.2.1.set g 0).length by omega)];simp only[zG];generalize hP:par o _ _=P;generalize hA:(s.2.1.set g 0).set F _=A2;have hA2:A2.length=s.2.1.length:=by rw[<-hA];simp
  rw[bl (show I<A2.length by omega)];simp only[zG];rw[ia (show I<A2.length by omega)];simp only[zG];rw[ad (n:=(p:Int)-1) V1]
 rep:=by
  intro p q d l s m o e A h y J b E;obtain⟨H,u⟩:=lj C h;obtain⟨h3,h4⟩:=lj C J;unfold stK;simp only[dn];rw[show((p+1:Nat):Int)-1=(p:Int)by omega,Ze,zD,u];simp only[zG];rw[h];simp only[zG,cq];rw[zB y,zC,ad (n:=((q+1:Nat):Int)-1) V1,show((q+1:Nat):Int)-1=(q:Int)by omega,h4];simp only[zG];rw[J];simp only[zG,cq];rw[bl b];simp only[zG];rw[ad (n:=(p:Int)-1) V1,ad (n:=(d:Int)+1) V1];rfl
 nxt:=by
  intro p d l s m o A h hto y b hl hl2 E;obtain⟨H,u⟩:=lj C h;have v:=zq (upd l d<|l d-1) b;rw[oX]at v;unfold upd at v;unfold stK;simp only[dn];rw[show((p+1:Nat):Int)-1=(p:Int)by omega,Ze,zD,u];simp only[zG];rw[h];simp only[zG,cq];rw[Ze,zD,zB y,zC,ad (n:=((d+1:Nat):Int)-1) V1,show((d+1:Nat):Int)-1=(d:Int)by omega,bl b];simp only[zG];rw[zq l b,Zk,v,Zf,zC];rw[ad (n:=((A+1:Nat):Int)-2) V1,show((A+1:Nat):Int)-2=(A:Int)-1 by omega];rfl
 out:=by
  intro p d l s m o A h y b hl E;obtain⟨H,u⟩:=lj C h;have v:=zq (upd l d<|l d-1) b;rw[oX]at v;unfold upd at v;unfold stK;simp only[dn];rw[show((p+1:Nat):Int)-1=(p:Int)by omega,Ze,zD,u];simp only[zG];rw[h];simp only[zG,cq];rw[Ze,zD,zB y,zC,ad (n:=((d+1:Nat):Int)-1) V1,show((d+1:Nat):Int)-1=(d:Int)by omega,bl b];simp only[zG];rw[zq l b,Zk,v,Ze,zD,ad (n:=(p:Int)-1) V1];rfl
section
variable {R:Int} {l:List bx} {f:Fo}
def Yp (h:Prg R l f){e0 e1:Int}(I:ft r=fu R)(F:ft a=fu R)(J:f.n<=ft t)(g:ft t<=1000000)(K:ft w=ft t+fu R):
  ∃b0 b1 b2 b3 v y C D,am (dn R (e0,w) (e1,f.bare.code 0)) cj (IntKind.i64.wrap<|(ft (f.bare.code 0):Int)-1,0,(f.n:Int),t++r,a,0,0,0,0,0,0,0,0)=O (t++(jM f r a t).1,(jM f r a t).2.1,b0,b1,b2,b3,v,y,C,D):=by
 have⟨b,_,u,E⟩:=JK (m:=0) (l:=λ_=>0) (s:=((r,a,f.n):BS)) (d:=0) (p:=0) (A:=[]) (B:=[]) (Oh<|bi8 (e0:=e0) (e1:=e1) (t:=t) h.clen h.R1 g K) f.bare V2 rfl (Fo.bare_ok f h.ok) f.bare_pos h.hi h.good ⟨I,F,by rw[Fo.bare_n];exact Nat.le_refl _,J⟩;rw[Fo.bare_unroll]at u E;have H:=h.clen;rw[Fo.code_len]at H
 have:=wN u h.steps (c:=(t++(jM f r a t).1,(jM f r a t).2.1,b 0,b 1,b 2,b 3,b 4,b 5,b 6,b 7)) (by
  unfold stK;simp only[dn];rw[Zf,zC]
  rfl)
 have e:stK t (0+f.bare.len) 0 (λ_=>0) ((r,a,f.n):BS)=(IntKind.i64.wrap<|(ft (f.bare.code 0):Int)-1,0,(f.n:Int),t++r,a,0,0,0,0,0,0,0,0):=by
  unfold stK;rw[Fo.code_len,Zi,Nat.zero_add];rfl
 rw[e]at this;exact⟨_,_,_,_,_,_,_,_,this⟩
end
end
section
open Bool renaming not_true->aB
open Int renaming mul_le_mul_of_nonneg_left->aD,toNat_of_nonneg->cB
open List renaming length_append->bB,length_take->bD
section
variable {c:Cx}
def jx (c:Cx)(i:Nat):Nat:=c.off 8+i*fu c.sl
def iY (s:Dy):Int:=if s.q<0 then s.p else s.q
structure InvB (c:Cx)(s:Dy):Prop where
 w:Wd c s.W
 L:s.L=c.len
 p:0<=s.p/\s.p<=s.L
 q: -1<=s.q/\s.q<=s.L
 qp:0<=s.q->s.p=s.q
 lv:s.lv=c.fixed+c.sl*iY s
 pk:s.lv<=s.pk/\s.pk<=c.words
def yt (c:Cx)(W:Zd)(i:Nat):Zd:=seg W (jx c i) c.fl.n
def Ce (c:Cx)(W:Zd)(i:Nat):Zd:=seg W (jx c i+c.fl.n)<|fu c.R
def zp (c:Cx)(W:Zd)(i:Nat):BS:=jM c.fl (Ce c W i) (fill c.R<|seg W (c.off 5)<|ft c.X)<|yt c W i
def GP (c:Cx)(a n:Int)(s:Dy):Int×Dy:=
 if a=8 then(if n≠0 then(2,s)else if 0<=s.q then(18,s)else if s.p=s.L then(17,s)else
  (0,{s with p:=s.p+1,c1:=s.c1+1,lv:=s.lv+c.sl,pk:=max s.pk<|s.lv+c.sl,W:=put (put (put s.W (c.off 2) (stepR c s.W s.p).1) (jx c<|fu s.p)<|(stepR c s.W s.p).2.1++(stepR c s.W s.p).1) (c.off 1)<|(stepR c s.W s.p).1.take<|ft c.X}))
 else if a=5 then(if n≠0 then(2,s)else if 0<=s.q then(18,s)else if s.p≠s.L then(17,s)else
  (0,{s with q:=s.L,c2:=s.c2+1,c3:=s.c3+1,z:=rg (lossR c s.W<|seg s.W (c.off 1)<|ft c.X).1 0,pk:=max s.pk<|s.lv+c.fk.n,W:=Lg c s.W<|seg s.W (c.off 1)<|ft c.X}))
 else if a=9 then(if n≠0 then(2,s)else if s.q<1 then(18,s)else
  (0,{s with p:=s.q-1,q:=s.q-1,c3:=s.c3+1,lv:=s.lv-c.sl,W:=put (Bf c s.W (zp c s.W<|fu<|s.q-1).2.1) (c.off 1)<|(zp c s.W<|fu<|s.q-1).1.take<|ft c.X}))
 else(2,s)
theorem DD (h:c.Ok)(g:c.mode=3)(hi:i<fu c.ns):fu c.sl=c.fl.n+fu c.R/\c.sl=(c.fl.n:Int)+c.R/\jx c i+fu c.sl<=c.off 9/\c.off 8<=jx c i:=by
 have n:=h.num;have b:=n.sl;rw[zE g]at b;have u:=h.ns;have y:=n.R
 have e:fu (c.sl*c.ns)=fu c.ns*fu c.sl:=by
  grind
 have v:c.off 9=c.off 8+fu c.ns*fu c.sl:=by rw[Pk,e]
 have d:(i+1)*fu c.sl<=fu c.ns*fu c.sl:=Nat.mul_le_mul_right _ hi;rw[Nat.succ_mul]at d;unfold jx;omega
def WW (h:c.Ok)(d:c.mode=3)(hi:i<fu c.ns){a17:Int}{k:List bx}{b0 b1 b2 b3:Int}:jr (i:Int) a0 a1 c.sl a4 a5 a6 a7 a8 a9 a10 a11 a12 a13 a14 a15 a16 a17 X T l k c.P b0 b1 b2 b3 W=O (jx c i:Int):=by
 have⟨g,u,b,v⟩:=DD h d hi;have y:=h.off9_le;have n:=h.num;have A:=n.words;have C:=n.R;unfold jr;rw[show ix 8 (ft c.P)=O 8 from bl (k:=8) Z9,zG,Cx.P_get (show 8<10 by omega),zG];have e:(i:Int)*c.sl=((i*fu c.sl:Nat):Int):=by rw[Int.natCast_mul,cB V1]
 unfold jx at b;rw[e,ad (n:=((i*fu c.sl:Nat):Int)) V1,Zi];unfold jx
 congr 1
theorem X9 (h:c.Ok)(g:c.mode=3)(hi:InvB c s):0<=s.lv/\s.lv+c.tp<=c.words/\c.words<=1048576/\0<=c.tp/\(iY s<c.ns->s.lv+c.sl<=c.words)/\(0<iY s->c.sl<=s.lv)/\c.ns=s.L:=by
 have n:=h.num;have A:=hi.lv;have C:=h.fit;have D:=n.fixed;have E:=h.ns;have v:=n.sl;rw[zE g]at v;have V:=n.R;have N:=n.Q;have Z:=n.words;have J:=h.base g;have I:=hi.L;have K:=hi.p;have M:=hi.q;have e:0<=iY s/\iY s<=c.ns:=by unfold iY;split<;>omega
 have F:1<=c.sl:=by omega
 have d:c.sl*iY s<=c.sl*c.ns:=aD e.2 V1;have H:0<=c.sl*iY s:=Int.mul_nonneg V1 e.1;have b:0<=c.tp:=by rw[n.tp];split<;>omega
 refine⟨V1,V1,V1,b,λy=> ?_,λu=> ?_,V1⟩
 .have d:c.sl*(iY s+1)<=c.sl*c.ns:=aD V1 V1
  grind
 have d:c.sl*1<=c.sl*iY s:=aD V1 V1;omega
theorem Md (h:c.Ok)(v:c.mode=3)(g:Wd c W)(hi:i<fu c.ns):
  seg W (jx c i) (fu c.sl)=yt c W i++Ce c W i/\ft (yt c W i)=c.fl.n/\ft (Ce c W i)=fu c.R/\ft (fill c.R<|seg W (c.off 5)<|ft c.X)=fu c.R/\ft (zp c W i).1=fu c.R/\ft (zp c W i).2.1=fu c.R:=by
 have⟨C,D,E,F⟩:=DD h v hi;have⟨M,N⟩:=g.tk h;have n:=h.num;have J:=n.R;have I:=n.xtR;have K:=n.n;have H:ft (seg W (c.off 5)<|ft c.X)=ft c.X:=ew<|g.in' h (i:=5) V1;have b:ft (yt c W i)=c.fl.n:=ew V1;have d:ft (Ce c W i)=fu c.R:=ew V1;have e:ft (fill c.R<|seg W (c.off 5)<|ft c.X)=fu c.R:=fA V1;have⟨_,y,A⟩:=qJ h.pl d e (t:=yt c W i) (Nat.le_of_eq b.symm) V1;refine⟨?_,b,d,e,y,A⟩;apply List.ext_getElem?;intro j;rw[Cf];by_cases u:j<c.fl.n
 .rw[Zg,List.getElem?_append_left V1];unfold yt;rw[Cf,zE u]
 .rw[List.getElem?_append_right V1,b];unfold Ce;rw[Cf]
  grind
def plain1 (h:c.Ok)(F:c.mode=3)(hi:InvB c s)(hc:FT B s)(hB:B<=2305843009213693952){a n:Int}:
  lK a n c.fixed c.tp c.sl c.ns c.mode c.R c.Q c.len c.words s.L s.p s.q s.c0 s.c1 s.c2 s.c3 s.z c.X c.T c.l c.k c.P c.tk s.lv s.pk c.words s.W=O (bk5 c<|GP c a n s):=by
 have H:=h.num;have C:=hi.w;have hL:=hi.L;have hp:=hi.p;have hq:=hi.q;have J:=hi.pk;have hns:=h.ns;have nR:=H.R;have n1:=H.xtR;have nx:=H.x;have nt:=H.t;have nn:=H.n;have nlen:=H.len;obtain⟨k0,k1,k2,k3⟩:=hc.in' hB;obtain⟨g1,g2,g3,g4,g5,g6,g7⟩:=X9 h F hi;have htp:=H.tp;rw[zE F]at htp;obtain⟨t1,t2⟩:=C.tk h;unfold lK GP;by_cases a8:a=8
 .subst a8;rw[zB (show(8:Int)=8 from rfl),zA (show¬(8:Int)=5 by decide)];simp only[zC,zG,aB,zD,reduceIte];by_cases d:n≠0
  .rw[zE d,zB d];rfl
  rw[zF d,zA d];simp only[zD,zG];by_cases b:0<=s.q
  .rw[zE b,zB b];rfl
  rw[zF b,zA b];simp only[zD,zG];by_cases e:s.p=s.L
  .rw[zE e,zB e];rfl
  rw[zF e,zA e];simp only[BEq.rfl,aB,zD,zG,ci];have v:iY s=s.p:=by unfold iY;rw[Zg]
  have y:s.p.toNat<c.ns.toNat:=by omega
  have M:s.p=((s.p.toNat:Nat):Int):=by omega
  obtain⟨s1,s2,K,s4⟩:=DD h F y;obtain⟨f1,f2,f3⟩:=iS h C s.p;have w1:=AB h C s.p;have N:=g5 (by rw[v];omega);rw[qH V1 g1 N V1];simp only[zG];rw[bq0 h C];simp only[zG];have A:=WW h F y (a0:=c.fixed) (a1:=c.tp) (a4:=c.ns) (a5:=c.mode) (a6:=c.R) (a7:=c.Q) (a8:=c.len) (a9:=c.words) (a10:=s.L) (a11:=s.p) (a12:=s.q) (a13:=s.c0) (a14:=IntKind.i64.wrap<|s.c1+1) (a15:=s.c2) (a16:=s.c3) (a17:=s.z) (X:=c.X) (T:=c.T) (l:=c.l) (k:=c.k) (b0:=c.tk) (b1:=s.lv+c.sl) (b2:=max s.pk<|s.lv+c.sl) (b3:=c.words) (W:=put s.W (c.off 2) (stepR c s.W s.p).1);rw[<-M]at A;rw[A];simp only[zG];have I:((stepR c s.W s.p).2.1++(stepR c s.W s.p).1).length=c.sl.toNat:=by rw[bB];omega
  rw[au V1 V1];obtain⟨u1,u2⟩:=w1.tk h;unfold Cx.tk;rw[tD (by rw[I];exact K) u1 u2];simp only[zG];rw[Zl,bp,show(c.X.length:Int).toNat-0=c.X.length by omega,List.drop_zero,show((c.off 9:Nat):Int)=c.tk from rfl,put1 (ii:=1) (i:=1) h (w1.put h (by rw[I];exact K)) rfl V1 ZN];simp only[zG];rw[ad (n:=s.p+1) V1,ad (n:=s.c1+1) V1];rfl
 rw[zA a8,zF a8];simp only[zD,zG];by_cases a5:a=5
 .subst a5;rw[zB (show(5:Int)=5 from rfl)];simp only[zC,aB,zD,reduceIte];by_cases d:n≠0
  .rw[zE d,zB d];rfl
  rw[zF d,zA d];simp only[zD,zG];by_cases b:0<=s.q
  .rw[zE b,zB b];rfl
  rw[zF b,zA b];simp only[zD,zG];by_cases e:s.p≠s.L
  .rw[zE e,zA e];rfl
  rw[zF e,zB (show s.p=s.L by omega)];simp only[BEq.rfl,aB,zD,zG,ci];rw[bx2 h C g1 J.1 V1 g3];simp only[zG];rw[ad (n:=s.c2+1) V1,ad (n:=s.c3+1) V1];rfl
 rw[zA a5,zF a5];simp only[zD,Bool.not_false,zC];by_cases a9:a=9
 .subst a9;rw[zA (show¬((9:Int)≠9)from λk=>k rfl)];simp only[reduceIte];by_cases d:n≠0
  .rw[zE d,zB d];rfl
  rw[zF d,zA d];simp only[zD,zG];by_cases D:s.q<1
  .rw[zE D,zB D];rfl
  rw[zF D,zA D];simp only[zD,zG,ci];have v:iY s=s.q:=by unfold iY;rw[Zh]
  have y:(s.q-1).toNat<c.ns.toNat:=by omega
  have M:s.q-1=(((s.q-1).toNat:Nat):Int):=by omega
  obtain⟨s1,s2,K,s4⟩:=DD h F y;obtain⟨b1,b2,b3,b4,b5,b6⟩:=Md h F C y;rw[ad (n:=s.q-1) V1];have A:=WW h F y (a0:=c.fixed) (a1:=c.tp) (a4:=c.ns) (a5:=c.mode) (a6:=c.R) (a7:=c.Q) (a8:=c.len) (a9:=c.words) (a10:=s.L) (a11:=s.q-1) (a12:=s.q-1) (a13:=s.c0) (a14:=s.c1) (a15:=s.c2) (a16:=s.c3) (a17:=s.z) (X:=c.X) (T:=c.T) (l:=c.l) (k:=c.k) (b0:=c.tk) (b1:=s.lv) (b2:=s.pk) (b3:=c.words) (W:=s.W);rw[<-M]at A;rw[A];simp only[zG]
  have hrd:ec (jx c (s.q-1).toNat:Int) c.sl c.tk s.W=O (0,yt c s.W (s.q-1).toNat++Ce c s.W (s.q-1).toNat):=by
   have:=Be (W:=s.W) (o:=jx c (s.q-1).toNat) (n:=c.sl.toNat) K t1 t2;rw[cB V1,b1]at this;exact this
  rw[hrd];simp only[zG];generalize (s.q-1).toNat=i at*;have E:(yt c s.W i++Ce c s.W i).length=c.fl.n+c.R.toNat:=by rw[bB];omega
  have hwr:IntKind.i64.wrap (((yt c s.W i++Ce c s.W i).length:Int)-c.R)=(c.fl.n:Int):=by rw[E,Zi];omega
  simp only[hwr];rw[Zl,bp,Zl,bp,VA (ii:=5) (i:=5) h C rfl V1];simp only[zG];have l5:(seg s.W (c.off 5) c.X.length).length=c.X.length:=ew<|C.in' h (i:=5) V1;rw[show c.sz 5=c.X.length from rfl,Nw nR V1];simp only[zG];rw[Hx h.pl,h.pl.writes];simp only[zG];rw[zA (show¬((0:Int)≠0)by simp),zD];rw[zA (show¬(((((yt c s.W i++Ce c s.W i).length:Int).toNat-(c.fl.n:Int).toNat:Nat):Int)≠c.R)by omega),zD,zA (show¬(((fill c.R<|seg s.W (c.off 5) c.X.length).length:Int)≠c.R)by omega),zD,zA (show¬((((c.fl.n:Int).toNat-0:Nat):Int)<(c.fl.n:Int))by omega),zD];obtain⟨z0,z1,z2,z3,z4,z5,z6,z7,hz⟩:=Yp h.pl (e0:=0) (e1:=0) (t:=yt c s.W i) (r:=Ce c s.W i) (a:=fill c.R<|seg s.W (c.off 5) c.X.length) (w:=yt c s.W i++Ce c s.W i) b3 b4 (Nat.le_of_eq b2.symm) V1 (by rw[E,b2])
  rw[hz];simp only[zG];have eK:jM c.fl (Ce c s.W i) (fill c.R<|seg s.W (c.off 5) c.X.length) (yt c s.W i)=zp c s.W i:=rfl;rw[eK];generalize zp c s.W i=u at*;obtain⟨v1,v2,v3⟩:=nG h (a:=u.2.1) C V1 V1;rw[put1 (ii:=4) (i:=4) h C rfl V1 V6];simp only[zG];rw[Zl,bp,show(c.X.length:Int).toNat-0=c.X.length by omega,List.drop_zero,put1 (ii:=5) (i:=5) h v1 rfl V1 (by rw[bD,show c.sz 5=c.X.length from rfl];omega)];simp only[zG];rw[VA (ii:=6) (i:=6) h v2 rfl V1];simp only[zG];rw[show c.sz 6=c.T.length from rfl];have hg:(seg (put (put s.W (c.off 4) u.2.1) (c.off 5)<|u.2.1.take c.X.length) (c.off 6) c.T.length).length=c.T.length:=ew<|v2.in' h (i:=6) V1;rw[JH (f:=ck c.X u.2.1 _) (X:=c.X) (a:=u.2.1) (g:=seg (put (put s.W (c.off 4) u.2.1) (c.off 5)<|u.2.1.take c.X.length) (c.off 6) c.T.length) V1 V1 V1<|λs=>rfl]
  simp only[zG];rw[put1 (ii:=6) (i:=6) h v2 rfl V1 (by rw[qz,hg];exact Nat.le_refl _)];simp only[zG];have Z:(yt c s.W i++u.1).length=c.fl.n+c.R.toNat:=by rw[bB];omega
  rw[ad (n:=(c.fl.n:Int)+(c.X.length:Int)) V1,Zl,bp,show((c.fl.n:Int)+(c.X.length:Int)).toNat-(c.fl.n:Int).toNat=c.X.length by omega,Int.toNat_natCast];have V:(yt c s.W i++u.1).drop c.fl.n=u.1:=List.drop_left' b2;rw[V];have eB:put (put (put s.W (c.off 4) u.2.1) (c.off 5)<|u.2.1.take c.X.length) (c.off 6) (vq c.X.length (seg (put (put s.W (c.off 4) u.2.1) (c.off 5)<|u.2.1.take c.X.length) (c.off 6) c.T.length) u.2.1)=Bf c s.W u.2.1:=rfl;rw[eB,put1 (ii:=1) (i:=1) h v3 rfl V1 ZN];simp only[zG];rw[wL V1 (g6 (by rw[v];omega)) J.1 V1];simp only[zG];rw[ad (n:=s.c3+1) V1];rfl
 rw[zF a9,zB a9];by_cases d:n≠0
 .rw[zB d];rfl
 .rw[zA d];rfl
def do1 (h:c.Ok)(b:c.mode=3)(hi:InvB c s)(e:FT B s)(d:B<=2305843009213693952){a n:Int}:
  pL a n c.fixed c.tp c.sl c.ns c.mode c.R c.Q c.len c.words s.L s.p s.q s.c0 s.c1 s.c2 s.c3 s.z c.X c.T c.l c.k c.P c.tk s.lv s.pk c.words s.W=O (bk5 c<|GP c a n s):=by
 unfold pL dk;simp only[zG];rw[zB b,zC,plain1 h b hi e d];rfl
end
end
end Go.V
