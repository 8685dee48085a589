/- A part of the proofs of this claim: what functions of the program answer on an abstract machine, and plain laws. No condition. -/
import Derived.Test.YtabdgoepkddlbaaGreatL1
set_option linter.unusedVariables false
set_option linter.unusedSimpArgs false
set_option linter.unusedSectionVars false
namespace Go.V
open Go.Ab
open Option renaming some->Y,none->Z
open Bool renaming true->Za,false->Zb
open Decidable renaming decide->Zc
section
open Go.IntKind renaming wrap -> zH, i64 -> zI, u64 -> zJ
open Int renaming toNat_natCast -> aB
open List renaming getElem?_eq_getElem -> aD
set_option maxRecDepth 100000
theorem ah0 (f:Nat->Int): ∀{j:Nat},j<8->List.getD [f 0,f 1,f 2,f 3,f 4,f 5,f 6,f 7] j 0=f j
 |0,_=>rfl
 |1,_=>rfl
 |2,_=>rfl
 |3,_=>rfl
 |4,_=>rfl
 |5,_=>rfl
 |6,_=>rfl
 |7,_=>rfl
 |n+8,h=>by omega
def app (o:cd)(x y:Int):Int:=
 if o.1=1 then zH zJ (x+y)else if o.1=2 then zH zJ (x-y)else if o.1=3 then zH zJ (x*y)else if o.1=4 then zH zJ (0-x)else if o.1=5 then o.2.2.2.2 else if o.1=6 then x else 0
theorem bt8 (o:cd)(x y:Int):uM o.1 o.2.1 o.2.2.1 o.2.2.2.1 o.2.2.2.2 x y=Y (app o x y):=by
 unfold uM app;simp only[ak]
 repeat' split
 all_goals rfl
def inR (R:Nat)(o:cd):Prop:=(0<=o.2.1/\o.2.1<R)/\(0<=o.2.2.1/\o.2.2.1<R)/\0<=o.2.2.2.1/\o.2.2.2.1<R
theorem bJ8 {R:Nat}{o:cd}(h:inR R o): ∃d a b:Nat,o.2.1=d/\o.2.2.1=a/\o.2.2.2.1=b/\d<R/\a<R/\b<R:=by
 unfold inR at h;exact⟨o.2.1.toNat,o.2.2.1.toNat,o.2.2.2.1.toNat,by omega,by omega,by omega,by omega,by omega,by omega⟩
def rg (r:Zd)(k:Int):Int:=r.getD k.toNat 0
theorem mn {r:Zd}{k:Nat}(h:k<r.length):r[k]?=Y (rg r (k:Int)):=by
 unfold rg;rw[aB,aD h,List.getD_eq_getElem?_getD,aD h];rfl
abbrev TS :=Zd×Zd×Nat
def dI2 (o:cd)(s:TS):TS:=(s.1.set o.2.1.toNat (app o (rg s.1 o.2.2.1) (rg s.1 o.2.2.2.1)),s.2.1.set s.2.2 (rg s.1 o.2.1),s.2.2+1)
def VdT (R N:Nat)(m:Nat)(s:TS):Prop:=s.1.length=R/\s.2.1.length=N/\s.2.2+m<=N
def stT (p d:Nat)(l:Nat->Int)(s:TS):Int×Int×Int×(Zd)×(Zd)×Int×Int×Int×Int×Int×Int×Int×Int:=
 ((p:Int),(s.2.2:Int),(d:Int),s.1,s.2.1,l 0,l 1,l 2,l 3,l 4,l 5,l 6,l 7)
theorem qh {code:List ae3}{p:Nat}{x:ae3}(hc:code.length<=8192)(h:code[p]?=Y x):p<code.length/\ix (p:Int) code.length=Y p:=by
 have:=(List.getElem?_eq_some_iff.1 h).1;exact⟨this,bp this⟩
theorem df1 {code:List ae3}(hc:code.length<=8192){R N:Nat}(hN:N<=1000000):Runs (pj code) code stT dI2 (VdT R N) (inR R)where
 op:=by
  intro p d l s m o to h hg hk hd hv;obtain⟨h1,h2⟩:=qh hc h;obtain⟨kd,ka,kb,e1,e2,e3,g1,g2,g3⟩:=bJ8 hg;obtain⟨v1,v2,v3⟩:=hv;refine⟨?_,by unfold dI2;exact⟨by simp[v1],by simp[v2],by show s.2.2+1+m<=N;omega⟩⟩;unfold stT dI2;simp only[pj];rw[zA (by omega),zD,h2];simp only[zG];rw[h];simp only[zG,bw];rw[zA (by omega),zD,zA (by omega),zD];simp only[bt8,zG];rw[e1,e2,e3,bp (show kd<s.1.length by omega)];simp only[zG];rw[mn (show kd<s.1.length by omega)];simp only[zG];rw[bp (show s.2.2<s.2.1.length by omega)];simp only[zG];rw[mn (show s.2.2<s.2.1.length by omega)];simp only[zG];rw[bp (show ka<s.1.length by omega)];simp only[zG];rw[mn (show ka<s.1.length by omega)];simp only[zG];rw[bp (show kb<s.1.length by omega)];simp only[zG];rw[mn (show kb<s.1.length by omega)]
  simp only[zG];rw[ad (n:=(p:Int)+1) (by omega),ad (n:=(s.2.2:Int)+1) (by omega)];rfl
 rep:=by
  intro p d l s m o to h hk hd hv;obtain⟨h1,h2⟩:=qh hc h;unfold stT;simp only[pj];rw[zA (by omega),zD,h2];simp only[zG];rw[h];simp only[zG,bw];rw[zB hk,zC,bp hd];simp only[zG];rw[ad (n:=(p:Int)+1) (by omega),ad (n:=(d:Int)+1) (by omega)];rfl
 nxt:=by
  intro p d l s m e to h hk hd hl hl2 hv;obtain⟨h1,h2⟩:=qh hc h;have h8:=ah0 (upd l d (l d-1)) hd;rw[ue]at h8;unfold upd at h8;unfold stT;simp only[pj];rw[zA (by omega),zD,h2];simp only[zG];rw[h];simp only[zG,bw];rw[zA (by omega),zD,zB hk,zC,ad (n:=((d+1:Nat):Int)-1) (by omega),show((d+1:Nat):Int)-1=(d:Int)by omega,bp hd];simp only[zG];rw[ah0 l hd,cc (by omega),h8,zB (by omega),zC];rfl
 out:=by
  intro p d l s m e to h hk hd hl hv;obtain⟨h1,h2⟩:=qh hc h;have h8:=ah0 (upd l d (l d-1)) hd;rw[ue]at h8;unfold upd at h8;unfold stT;simp only[pj];rw[zA (by omega),zD,h2];simp only[zG];rw[h];simp only[zG,bw];rw[zA (by omega),zD,zB hk,zC,ad (n:=((d+1:Nat):Int)-1) (by omega),show((d+1:Nat):Int)-1=(d:Int)by omega,bp hd];simp only[zG];rw[ah0 l hd,cc (by omega),h8,zA (by omega),zD,ad (n:=(p:Int)+1) (by omega)];rfl
abbrev FS :=Zd×Nat
def cd7 (o:cd)(s:FS):FS:=(s.1.set o.2.1.toNat (app o (rg s.1 o.2.2.1) (rg s.1 o.2.2.2.1)),s.2+1)
def VdF (R M:Nat)(m:Nat)(s:FS):Prop:=s.1.length=R/\s.2+m<=M
def stF (p d:Nat)(l:Nat->Int)(s:FS):Int×Int×Int×(Zd)×Int×Int×Int×Int×Int×Int×Int×Int:=
 ((p:Int),(s.2:Int),(d:Int),s.1,l 0,l 1,l 2,l 3,l 4,l 5,l 6,l 7)
theorem du2 {code:List ae3}(hc:code.length<=8192){R M:Nat}(hM:M<=1000000):Runs (jv (-1) code) code stF cd7 (VdF R M) (inR R)where
 op:=by
  intro p d l s m o to h hg hk hd hv;obtain⟨h1,h2⟩:=qh hc h;obtain⟨kd,ka,kb,e1,e2,e3,g1,g2,g3⟩:=bJ8 hg;obtain⟨v1,v2⟩:=hv;refine⟨?_,by unfold cd7;exact⟨by simp[v1],by show s.2+1+m<=M;omega⟩⟩;unfold stF cd7;simp only[jv];rw[zA (show¬((p:Int)=(code.length:Int))by omega),zD,zA (show¬((s.2:Int)= -1)by omega),zD,h2];simp only[zG];rw[h];simp only[zG,bw];rw[zA (by omega),zD,zA (by omega),zD];simp only[bt8,ad6,zG];rw[e1,e2,e3,bp (show ka<s.1.length by omega)];simp only[zG];rw[mn (show ka<s.1.length by omega)];simp only[zG];rw[bp (show kb<s.1.length by omega)];simp only[zG];rw[mn (show kb<s.1.length by omega)];simp only[zG];rw[bp (show kd<s.1.length by omega)];simp only[zG];rw[mn (show kd<s.1.length by omega)];simp only[zG]
  rw[ad (n:=(p:Int)+1) (by omega),ad (n:=(s.2:Int)+1) (by omega)];rfl
 rep:=by
  intro p d l s m o to h hk hd hv;obtain⟨h1,h2⟩:=qh hc h;unfold stF;simp only[jv];rw[zA (show¬((p:Int)=(code.length:Int))by omega),zD,zA (show¬((s.2:Int)= -1)by omega),zD,h2];simp only[zG];rw[h];simp only[zG,bw];rw[zB hk,zC,bp hd];simp only[zG];rw[ad (n:=(p:Int)+1) (by omega),ad (n:=(d:Int)+1) (by omega)];rfl
 nxt:=by
  intro p d l s m e to h hk hd hl hl2 hv;obtain⟨h1,h2⟩:=qh hc h;have h8:=ah0 (upd l d (l d-1)) hd;rw[ue]at h8;unfold upd at h8;unfold stF;simp only[jv];rw[zA (show¬((p:Int)=(code.length:Int))by omega),zD,zA (show¬((s.2:Int)= -1)by omega),zD,h2];simp only[zG];rw[h];simp only[zG,bw];rw[zA (by omega),zD,zB hk,zC,ad (n:=((d+1:Nat):Int)-1) (by omega),show((d+1:Nat):Int)-1=(d:Int)by omega,bp hd];simp only[zG];rw[ah0 l hd,cc (by omega),h8,zB (by omega),zC];rfl
 out:=by
  intro p d l s m e to h hk hd hl hv;obtain⟨h1,h2⟩:=qh hc h;have h8:=ah0 (upd l d (l d-1)) hd;rw[ue]at h8;unfold upd at h8;unfold stF;simp only[jv];rw[zA (show¬((p:Int)=(code.length:Int))by omega),zD,zA (show¬((s.2:Int)= -1)by omega),zD,h2];simp only[zG];rw[h];simp only[zG,bw];rw[zA (by omega),zD,zB hk,zC,ad (n:=((d+1:Nat):Int)-1) (by omega),show((d+1:Nat):Int)-1=(d:Int)by omega,bp hd];simp only[zG];rw[ah0 l hd,cc (by omega),h8,zA (by omega),zD,ad (n:=(p:Int)+1) (by omega)];rfl
def par (o:cd)(x y:Int):Int×Int:=
 if o.1=1 then(1,1)else if o.1=2 then(1,18446744073709551615)else if o.1=3 then(y,x)else if o.1=4 then(18446744073709551615,0)else if o.1=6 then(1,0)else(0,0)
theorem aO7 (o:cd)(x y:Int):mv o.1 o.2.1 o.2.2.1 o.2.2.2.1 o.2.2.2.2 x y=Y (par o x y):=by
 unfold mv par;simp only[ak]
 repeat' split
 all_goals rfl
def cE2 (o:cd)(r a:Zd)(t:Int):Zd×Zd:=
 let g:=rg a o.2.1
 let r1:=r.set o.2.1.toNat t
 let a1:=a.set o.2.1.toNat 0
 let q:=par o (rg r1 o.2.2.1) (rg r1 o.2.2.2.1)
 let a2:=a1.set o.2.2.1.toNat (zH zJ (rg a1 o.2.2.1+zH zJ (q.1*g)))
 (r1,a2.set o.2.2.2.1.toNat (zH zJ (rg a2 o.2.2.2.1+zH zJ (q.2*g))))
theorem cR1 {o:cd}{r a t:Zd}{n:Nat}(hg:inR r.length o)(ha:a.length=r.length)(hn:n<t.length):
  tJ o.1 o.2.1 o.2.2.1 o.2.2.2.1 o.2.2.2.2 (n:Int) r a t=Y (cE2 o r a (rg t (n:Int))):=by
 obtain⟨kd,ka,kb,e1,e2,e3,g1,g2,g3⟩:=bJ8 hg;unfold tJ;simp only[aO7,zG];unfold cE2;simp only[e1,e2,e3,aB];rw[bp (show kd<a.length by omega)];simp only[zG];rw[mn (show kd<a.length by omega)];simp only[zG];rw[bp hn];simp only[zG];rw[mn hn];simp only[zG];rw[bp g1];simp only[zG];rw[mn g1];simp only[zG];have hr1: ∀x:Int,(r.set kd x).length=r.length:=by simp
 have ha1:(a.set kd 0).length=a.length:=by simp
 rw[bp (show ka<(r.set kd (rg t (n:Int))).length by rw[hr1];omega)];simp only[zG];rw[mn (show ka<(r.set kd (rg t (n:Int))).length by rw[hr1];omega)];simp only[zG];rw[bp (show kb<(r.set kd (rg t (n:Int))).length by rw[hr1];omega)];simp only[zG];rw[mn (show kb<(r.set kd (rg t (n:Int))).length by rw[hr1];omega)];simp only[zG];rw[bp (show ka<(a.set kd 0).length by omega)];simp only[zG];rw[mn (show ka<(a.set kd 0).length by omega)];simp only[zG];generalize hP:par o _ _=P;generalize hA:(a.set kd 0).set ka _=A2;have hA2:A2.length=a.length:=by rw[<-hA];simp
 rw[bp (show kb<A2.length by omega)];simp only[zG];rw[mn (show kb<A2.length by omega)];simp only[zG]
abbrev BS :=Zd×Zd×Nat
def cQ9 (t:Zd)(o:cd)(s:BS):BS:=((cE2 o s.1 s.2.1 (rg t ((s.2.2-1:Nat):Int))).1,(cE2 o s.1 s.2.1 (rg t ((s.2.2-1:Nat):Int))).2,s.2.2-1)
def VdB (R N:Nat)(m:Nat)(s:BS):Prop:=s.1.length=R/\s.2.1.length=R/\m<=s.2.2/\s.2.2<=N
def stB (p d:Nat)(l:Nat->Int)(s:BS):Int×Int×Int×(Zd)×(Zd)×Int×Int×Int×Int×Int×Int×Int×Int:=
 ((p:Int)-1,(d:Int),(s.2.2:Int),s.1,s.2.1,l 0,l 1,l 2,l 3,l 4,l 5,l 6,l 7)
theorem cE3 (o:cd)(r a:Zd)(t:Int):(cE2 o r a t).1.length=r.length/\(cE2 o r a t).2.length=a.length:=by
 unfold cE2;simp
theorem dX6 {code:List ae3}(hc:code.length<=8192){R:Nat}{t:Zd}(hN:t.length<=1000000):Backs (ga t code) code stB (cQ9 t) (VdB R t.length) (inR R)where
 op:=by
  intro p d l s m o to h hg hk hd hv;obtain⟨h1,h2⟩:=qh hc h;obtain⟨v1,v2,v3,v4⟩:=hv;obtain⟨q1,q2⟩:=cE3 o s.1 s.2.1 (rg t ((s.2.2-1:Nat):Int));refine⟨?_,by unfold cQ9;exact⟨by simp[v1,q1],by simp[v2,q2],by show m<=s.2.2-1;omega,by show s.2.2-1<=_;omega⟩⟩;unfold stB cQ9;simp only[ga];rw[show((p+1:Nat):Int)-1=(p:Int)by omega,zA (by omega),zD,h2];simp only[zG];rw[h];simp only[zG,bw];rw[zA (by omega),zD,zA (by omega),zD,ad (n:=(s.2.2:Int)-1) (by omega),show(s.2.2:Int)-1=((s.2.2-1:Nat):Int)by omega,cR1 (by rw[v1];exact hg) (by omega) (by omega)];simp only[zG];rw[ad (n:=(p:Int)-1) (by omega)]
 rep:=by
  intro p q d l s m o e to h hk h' hd hv;obtain⟨h1,h2⟩:=qh hc h;obtain⟨h3,h4⟩:=qh hc h';unfold stB;simp only[ga];rw[show((p+1:Nat):Int)-1=(p:Int)by omega,zA (by omega),zD,h2];simp only[zG];rw[h];simp only[zG,bw];rw[zB hk,zC,ad (n:=((q+1:Nat):Int)-1) (by omega),show((q+1:Nat):Int)-1=(q:Int)by omega,h4];simp only[zG];rw[h'];simp only[zG,bw];rw[bp hd];simp only[zG];rw[ad (n:=(p:Int)-1) (by omega),ad (n:=(d:Int)+1) (by omega)];rfl
 nxt:=by
  intro p d l s m o to h hto hk hd hl hl2 hv;obtain⟨h1,h2⟩:=qh hc h;have h8:=ah0 (upd l d (l d-1)) hd;rw[ue]at h8;unfold upd at h8;unfold stB;simp only[ga];rw[show((p+1:Nat):Int)-1=(p:Int)by omega,zA (by omega),zD,h2];simp only[zG];rw[h];simp only[zG,bw];rw[zA (by omega),zD,zB hk,zC,ad (n:=((d+1:Nat):Int)-1) (by omega),show((d+1:Nat):Int)-1=(d:Int)by omega,bp hd];simp only[zG];rw[ah0 l hd,cc (by omega),h8,zB (by omega),zC];rw[ad (n:=((to+1:Nat):Int)-2) (by omega),show((to+1:Nat):Int)-2=(to:Int)-1 by omega];rfl
 out:=by
  intro p d l s m o to h hk hd hl hv;obtain⟨h1,h2⟩:=qh hc h;have h8:=ah0 (upd l d (l d-1)) hd;rw[ue]at h8;unfold upd at h8;unfold stB;simp only[ga];rw[show((p+1:Nat):Int)-1=(p:Int)by omega,zA (by omega),zD,h2];simp only[zG];rw[h];simp only[zG,bw];rw[zA (by omega),zD,zB hk,zC,ad (n:=((d+1:Nat):Int)-1) (by omega),show((d+1:Nat):Int)-1=(d:Int)by omega,bp hd];simp only[zG];rw[ah0 l hd,cc (by omega),h8,zA (by omega),zD,ad (n:=(p:Int)-1) (by omega)];rfl
end
section
open Bool renaming and_eq_true -> cB, not_eq_true' -> cD
open List renaming getElem?_append_right -> bB, append_assoc -> bD, length_append -> dB
open Nat renaming le_refl -> aB, sub_self -> aD
theorem dX7 {w v c:Int}{n:Nat}(h:as8 w v=Y c)(hv:0<=v)(hw:w=(n:Int)):c=((n*v.toNat:Nat):Int):=by
 have hvv:((v.toNat:Nat):Int)=v:=Int.toNat_of_nonneg hv;rw[Int.natCast_mul,hvv,<-hw];unfold as8 at h;split at h
 .rename_i hz;injection h with h
  rw[hz,Int.zero_mul,h]
 split at h
 .cases h
 split at h
 .cases h
 .injection h with h
  exact h.symm
def dK5 (l:List cd)(m S:Zd):Prop:=m.length=l.length/\S.length=l.length/\∀(A B:List cd) (o e:cd) (b:Fo),l=A++o::(b.src++e::B)->b.Ok->o.1=7->e.1=0->
 m[A.length]?=Y ((A.length+1+b.len:Nat):Int)/\S[A.length]?=Y ((b.n*vOf o:Nat):Int)
theorem dZ2 {l:List cd}{m S R:Zd}(hm:MOK l m)(hS:S.length=l.length)(hv: ∀o∈l,okV o)(h: ∀j,j<l.length->∃a b,S[j]?=Y a/\R[j]?=Y b/\dN7 l j a b):dK5 l m S:=by
 refine⟨hm.len,hS,λA B o e b hl hb ho he=> ?_⟩;have hlen:l.length=A.length+1+(b.len+(B.length+1)):=by rw[hl];simp[Fo.src_len];omega
 have hlt:A.length<l.length:=by omega
 have hget:l[A.length]=o:=by
  have:l[A.length]?=Y o:=by rw[hl,bB (aB _),aD];rfl
  rw[List.getElem?_eq_getElem hlt]at this;injection this
 have hd:l.drop (A.length+1)=b.src++e::B:=by rw[hl,List.drop_append,List.drop_of_length_le (by omega),show A.length+1-A.length=1 by omega];rfl
 refine⟨?_, ?_⟩
 .have:=hm.at' A.length hlt (by rw[hget];exact ho) b.src e B hd he (Fo.scan0 hb);rw[Fo.src_len]at this;exact this
 .obtain⟨a,c,h1,h2,h3⟩:=h A.length hlt;obtain⟨h4,h5⟩:=(h3 hlt).1 (by rw[hget];exact ho) b.src e B hd he (Fo.scan0 hb);have hmem: ∀x∈b.src,0<=x.2.2.2.2:=λx hx=>(hv x (by rw[hl];simp[hx])).1
  have e1:=Fo.Q9_n b hb hmem h4;rw[hget]at h5;rw[h1,dX7 h5 (hv o (by rw[hl];simp)).1 e1];rfl
section
variable {l:List cd} {m S:Zd} {em es:Int}
theorem dY4 {i:Nat}{op:Zd}{out:List ae3}(hl:l.length<=8192)(ho:out.length<=8192){x:cd}(hx:l[i]?=Y x)(hk:0<x.1/\x.1<7):
  fh l (em,m) (es,S) ((i:Int),op,out)=Y (.inl (((i+1:Nat):Int),op,out++[bw x 0])):=by
 obtain⟨hi,hg⟩:=List.getElem?_eq_some_iff.1 hx;simp only[fh];rw[zB (show(i:Int)<(l.length:Int)by omega),zC,dq hi,hg];simp only[zG];rw[zA (show¬x.1=7 by omega),zA (show¬x.1=0 by omega)];simp only[zD,zG,bg];rw[ck (by omega) (by omega),ad (by omega)];rfl
theorem dC0 {i j:Nat}{op:Zd}{out:List ae3}(hl:l.length<=8192){x:cd}(hx:l[i]?=Y x)(hk:x.1=7)(hs:S[i]?=Y 0)(hm:m[i]?=Y (j:Int))(hj:j<=8192):
  fh l (em,m) (es,S) ((i:Int),op,out)=Y (.inl (((j+1:Nat):Int),op,out)):=by
 obtain⟨hi,hg⟩:=List.getElem?_eq_some_iff.1 hx;obtain⟨hi2,_⟩:=List.getElem?_eq_some_iff.1 hs;obtain⟨hi3,_⟩:=List.getElem?_eq_some_iff.1 hm;simp only[fh];rw[zB (show(i:Int)<(l.length:Int)by omega),zC,dq hi,hg];simp only[zG];rw[zB hk];simp only[zC];rw[bp hi2];simp only[zG];rw[hs];simp only[zG,kn];rw[decide_true,zC,bp hi3];simp only[zG];rw[hm];simp only[zG,kn];rw[ad (by omega)];rfl
theorem dB9 {i:Nat}{n:Int}{op:Zd}{out:List ae3}(hl:l.length<=8192)(ho:out.length<=8192)(hp:op.length<=8192){x:cd}(hx:l[i]?=Y x)(hk:x.1=7)(hs:S[i]?=Y n)(hn:n≠0):
  fh l (em,m) (es,S) ((i:Int),op,out)=Y (.inl (((i+1:Nat):Int),op++[(out.length:Int)],out++[bw x 0])):=by
 obtain⟨hi,hg⟩:=List.getElem?_eq_some_iff.1 hx;obtain⟨hi2,_⟩:=List.getElem?_eq_some_iff.1 hs;simp only[fh];rw[zB (show(i:Int)<(l.length:Int)by omega),zC,dq hi,hg];simp only[zG];rw[zB hk];simp only[zC];rw[bp hi2];simp only[zG];rw[hs];simp only[zG,kn];rw[zA hn,zD,ck (by omega) (by omega)];simp only[zG,kn,bg];rw[ck (by omega) (by omega),ad (by omega)];rfl
theorem dm4 {i q:Nat}{op:Zd}{out:List ae3}{o:cd}{t:Nat}(hl:l.length<=8192)(ho:out.length<=8192)(hp:op.length<=8192){x:cd}(hx:l[i]?=Y x)(hk:x.1=0)(hq:out[q]?=Y (bw o t)):
  fh l (em,m) (es,S) ((i:Int),op++[(q:Int)],out)=Y (.inl (((i+1:Nat):Int),op,out.set q (bw o (out.length+1))++[bw x (q+1)])):=by
 obtain⟨hi,hg⟩:=List.getElem?_eq_some_iff.1 hx;obtain⟨hq1,_⟩:=List.getElem?_eq_some_iff.1 hq;have hlen:(op++[(q:Int)]).length=op.length+1:=by simp
 simp only[fh];rw[zB (show(i:Int)<(l.length:Int)by omega),zC,dq hi,hg];simp only[zG];rw[zA (show¬x.1=7 by omega),zB hk];simp only[zD,zC,zG,bg];rw[ad (n:=((op++[(q:Int)]).length:Int)-1) (by omega),show((op++[(q:Int)]).length:Int)-1=(op.length:Int)by omega,bp (show op.length<(op++[(q:Int)]).length by omega)];simp only[zG];rw[bB (aB _),aD];simp only[List.getElem?_cons_zero,zG];rw[nb (by omega),cm,bp hq1];simp only[zG];rw[hq];simp only[zG];rw[ck (by simp;omega) (by omega)];simp only[zG,kn,bg]
 have htk:(op++[(q:Int)]).take ((op.length:Int).toNat-0)=op:=by
  rw[show(op.length:Int).toNat-0=op.length by omega,List.take_left'];rfl
 rw[htk,ad (n:=(i:Int)+1) (by omega),ad (n:=(out.length:Int)+1) (by omega),ad (n:=(q:Int)+1) (by omega)];rfl
theorem bR9 (hl:l.length<=8192)(hK:dK5 l m S): ∀(f:Fo) (A B:List cd) (op:Zd) (out:List ae3),l=A++f.src++B->f.Ok->op.length<=A.length->out.length<=A.length->
  ∃k,k<=f.len/\Reach (fh l (em,m) (es,S)) k ((A.length:Int),op,out) (((A.length+f.len:Nat):Int),op,out++f.bare.code out.length)
 | .nil,A,B,op,out,hs,_,_,_=>by
  refine⟨0,aB _, ?_⟩;simp only[Fo.bare,Fo.code,Fo.len,List.append_nil,Nat.add_zero];exact Reach.refl
 | .op o r,A,B,op,out,hs,hk,hp,ho=>by
  have hA:(A++[o]).length=A.length+1:=by simp
  have hll:l.length=A.length+(r.len+1)+B.length:=by rw[hs];simp[Fo.src,Fo.src_len];omega
  have hx:l[A.length]?=Y o:=by rw[hs,bD,bB (aB _),aD];rfl
  obtain⟨k,k1,k2⟩:=bR9 hl hK r (A++[o]) B op (out++[bw o 0]) (by rw[hs];simp[Fo.src]) hk.2 (by omega) (by simp;omega);refine⟨1+k,by simp only[Fo.len];omega, ?_⟩;have h1:=(Reach.one (dY4 (em:=em) (es:=es) (op:=op) (out:=out) hl (by omega) hx hk.1)).trans (show Reach _ k _ _ from by rw[hA]at k2;exact k2);simp only[Fo.bare,Fo.code,Fo.len];rw[show A.length+(r.len+1)=A.length+1+r.len by omega];rw[bD,dB]at h1;exact h1
 | .rep o b e r,A,B,op,out,hs,hk,hp,ho=>by
  obtain⟨⟨k1,k2⟩,k3,k4⟩:=hk;have hll:l.length=A.length+(b.len+r.len+2)+B.length:=by rw[hs];simp[Fo.src,Fo.src_len];omega
  have hx:l[A.length]?=Y o:=by rw[hs,bD,bB (aB _),aD];rfl
  obtain⟨hm,hS⟩:=hK.2.2 A (r.src++B) o e b (by rw[hs];simp[Fo.src]) k3 k1 k2;have hAe:(A++o::b.src).length=A.length+1+b.len:=by simp[Fo.src_len];omega
  have hxe:l[A.length+1+b.len]?=Y e:=by
   rw[show l=(A++o::b.src)++(e::(r.src++B))by rw[hs];simp[Fo.src],<-hAe,bB (aB _),aD];rfl
  have hAr:(A++o::(b.src++[e])).length=A.length+1+b.len+1:=by simp[Fo.src_len];omega
  simp only[Fo.bare,Fo.len];by_cases hz:b.n*vOf o=0
  .rw[zE hz];rw[hz]at hS;obtain⟨k,g1,g2⟩:=bR9 hl hK r (A++o::(b.src++[e])) B op out (by rw[hs];simp[Fo.src]) k4 (by omega) (by omega);refine⟨1+k,by omega, ?_⟩;have h1:=(Reach.one (dC0 (em:=em) (es:=es) (op:=op) (out:=out) hl hx k1 hS hm (by omega))).trans (show Reach _ k _ _ from by rw[hAr]at g2;exact g2);rw[show A.length+(b.len+r.len+2)=A.length+1+b.len+1+r.len by omega];exact h1
  .rw[zF hz];have hA:(A++[o]).length=A.length+1:=by simp
   obtain⟨kb,b1,b2⟩:=bR9 hl hK b (A++[o]) (e::(r.src++B)) (op++[(out.length:Int)]) (out++[bw o 0]) (by rw[hs];simp[Fo.src]) k3 (by simp;omega) (by simp;omega);rw[hA]at b2;have hbl:=b.bare_len;have hrl:=r.bare_len;have holen:(out++[bw o 0]++b.bare.code (out++[bw o 0]).length).length=out.length+1+b.bare.len:=by simp[Fo.code_len];omega
   have hq:(out++[bw o 0]++b.bare.code (out++[bw o 0]).length)[out.length]?=Y (bw o 0):=by
    rw[bD,bB (aB _),aD];rfl
   have h2:=dm4 (em:=em) (es:=es) (m:=m) (S:=S) (op:=op) hl (by omega) (by omega) hxe k2 hq;rw[holen]at h2
   have hset:(out++[bw o 0]++b.bare.code (out++[bw o 0]).length).set out.length (bw o (out.length+1+b.bare.len+1))=out++bw o (out.length+1+b.bare.len+1)::b.bare.code (out.length+1):=by
    rw[bD,List.set_append_right _ _ (aB _),aD,dB];rfl
   rw[hset]at h2;obtain⟨k,g1,g2⟩:=bR9 hl hK r (A++o::(b.src++[e])) B op (out++bw o (out.length+1+b.bare.len+1)::b.bare.code (out.length+1)++[bw e (out.length+1)]) (by rw[hs];simp[Fo.src]) k4 (by omega) (by rw[hAr];simp[Fo.code_len];omega);rw[hAr]at g2;refine⟨1+kb+1+k,by omega, ?_⟩;have h1:=(((Reach.one (dB9 (em:=em) (es:=es) (m:=m) (op:=op) (out:=out) hl (by omega) (by omega) hx k1 hS (by omega))).trans b2).trans (Reach.one h2)).trans g2;rw[show A.length+(b.len+r.len+2)=A.length+1+b.len+1+r.len by omega]
   have e1:out++bw o (out.length+1+b.bare.len+1)::b.bare.code (out.length+1)++[bw e (out.length+1)]++r.bare.code (out++bw o (out.length+1+b.bare.len+1)::b.bare.code (out.length+1)++[bw e (out.length+1)]).length=out++(Fo.rep o b.bare e r.bare).code out.length:=by
    have hl3:(out++bw o (out.length+1+b.bare.len+1)::b.bare.code (out.length+1)++[bw e (out.length+1)]).length=out.length+b.bare.len+2:=by simp[Fo.code_len];omega
    rw[hl3];simp only[Fo.code];rw[show out.length+1+b.bare.len+1=out.length+b.bare.len+2 by omega];simp
   rw[e1]at h1;exact h1
end
theorem cd6 {l:List cd}:aE4 l=(ph l).bind λr=>Y (r.2.1,r.2.2.1):=rfl
theorem dc4 {R:Int}{l:List cd}(h:aM1 R l=0):lk0 l=0/\lk1 R l=0/\lk2 l=0/\lk3 l=0:=by
 unfold aM1 at h;split at h
 .omega
 split at h
 .omega
 split at h
 .omega
 .omega
structure Prg (R:Int)(l:List cd)(f:Fo):Prop where
 ops:OpsOk l
 ok:f.Ok
 src:f.src=l
 z:aM1 R l=0
 R1:1<=R/\R<=64
 deep:f.hi<=8
 n:f.n<=65536
 w:de l=((f.n:Int),0)
 regs: ∀o∈l,0<o.1/\o.1<7->inR R.toNat o
theorem dr9 {R:Int}{l:List cd}(h:OpsOk l)(hp:aM1 R l=0): ∃f,Prg R l f:=by
 obtain⟨h0,h1,h2,h3⟩:=dc4 hp
 have hform:bE1 l=Za:=by
  unfold lk0 at h0;split at h0
  .assumption
  .omega
 have hregs:bu6 R l=Za:=by
  unfold lk1 at h1;split at h1
  .assumption
  .omega
 unfold bE1 at hform;rw[cB,decide_eq_true_eq,cD]at hform;obtain⟨hs,hr⟩:=hform;unfold bu6 at hregs;rw[cB,decide_eq_true_eq,cD]at hregs;obtain⟨hR,ho⟩:=hregs;obtain⟨f,f1,f2⟩:=Fo.parse _ l (aB _) hs
 have hq: ∃t,Q9 l=Y t/\t<=65536:=by
  unfold lk3 de at h3;rw[zE hs]at h3;cases hq:Q9 l with
  |none=>rw[hq]at h3;cases h3
  |some t=>
   rw[hq]at h3;refine⟨t,rfl, ?_⟩;by_cases c:65536<t
   .simp only[zE c]at h3;cases h3
   .omega
 obtain⟨t,ht,hle⟩:=hq;have hn:t=(f.n:Int):=Fo.Q9_n f f1 (λx hx=>(h.v x (f2▸hx)).1) (by rw[f2];exact ht);refine⟨f,h,f1,f2,hp,hR, ?_,by omega, ?_,λo hm hk=> ?_⟩
 .have h4:=Fo.hi_le f1;rw[f2]at h4;unfold lk2 bR2 at h2;rw[zE hs]at h2;by_cases c:(8:Int)<((hmax l 0 0:Nat):Int)
  .simp only[zE c]at h2;cases h2
  .omega
 .unfold de;rw[zE hs,ht];show(if 65536<t then((0:Int),(9:Int))else(t,0))=_;rw[zF (by omega),hn]
 .have h5:=List.any_eq_false.1 hr o hm;have h6:=List.any_eq_false.1 ho o hm;have h5:zK o=Za:=by simpa using h5
  have h6:cs5 R o=Zb:=by simpa using h6
  obtain⟨k,d,a,b,v⟩:=o;have hk:k=1∨k=2∨k=3∨k=4∨k=5∨k=6:=by simp only at hk;omega
  unfold inR
  rcases hk with rfl|rfl|rfl|rfl|rfl|rfl<;>
   .simp[zK,aU0,bu]at h5;simp[cs5,bu]at h6;simp only;omega
theorem be4 {R:Int}{l:List cd}{f:Fo}(hP:Prg R l f):tb R l=Y (0,f.bare.code 0):=by
 unfold tb;rw[cc5 hP.ops];simp only[zG];rw[hP.z,zA (by simp),zD];have hl:=hP.ops.len;have hs:bn l 0=Y 0:=by rw[<-hP.src];exact Fo.scan0 hP.ok
 obtain⟨m,hm,hM⟩:=bI1 (l:=l) (by omega) hs;obtain⟨r,hr,r1,r2,r3⟩:=cu2 (l:=l) (by omega) hP.ops.v;rw[hm,cd6,hr];simp only[zG];have hw:=hP.w;rcases r3 with⟨r3,_⟩|⟨_,_,r4,r5,r6⟩
 .rw[hw]at r3;exact(r3 rfl).elim
 have hK:=dZ2 hM r4 (λo ho=>hP.ops.v o ho) r6;obtain⟨k,k1,k2⟩:=bR9 (em:=0) (es:=r.2.1) (by omega) hK f [] [] [] [] (by simp[hP.src]) hP.ok (by simp) (by simp);have hfl:f.len=l.length:=by rw[<-Fo.src_len,hP.src]
 have h1:=k2 (18446744073709551616-k);rw[show 18446744073709551616-k+k=fy by unfold fy;omega,show 18446744073709551616-k=(18446744073709551615-k)+1 by omega]at h1
 have hloop:ap (fh l (0,m) (r.2.1,r.2.2.1)) fy ((0:Int),([]:Zd),([]:List ae3))=Y (f.bare.code 0):=by
  refine h1.trans ?_;rw[cf];simp only[fh];rw[zA (by rw[hfl];simp),zD];rfl
 rw[hloop];rfl
end
section
open List renaming replicate -> aB, length_replicate -> aD
theorem bf5 {α γ:Type}{g:α->Option (α⊕γ)}{k:Nat}{s s':α}{c:γ}(h:Reach g k s s')(hk:k<=1000000000)(he:g s'=Y (.inr c)):ap g fy s=Y c:=by
 have h1:=h (18446744073709551616-k);rw[show 18446744073709551616-k+k=fy by unfold fy;omega,show 18446744073709551616-k=(18446744073709551615-k)+1 by omega]at h1;refine h1.trans ?_;rw[cf,he];rfl
section
variable {R:Int} {l:List cd} {f:Fo}
theorem Prg.len (h:Prg R l f):f.len<=4096:=by
 have:=h.ops.len;rw[<-Fo.src_len,h.src];exact this
theorem Prg.clen (h:Prg R l f):(f.bare.code 0).length<=8192:=by
 have h1:=h.len;have h2:=f.bare_len;rw[Fo.code_len];omega
theorem Prg.steps (h:Prg R l f):f.bare.steps<=1000000000:=by
 have h1:=Fo.steps_le f.bare f.bare_pos;rw[Fo.bare_n]at h1;have h2:=h.len;have h3:=f.bare_len;have h4:=h.n;have h5:(2*f.bare.len+1)*f.n<=8193*65536:=Nat.mul_le_mul (by omega) h4;omega
theorem Prg.good (h:Prg R l f): ∀o∈f.bare.src,(0<o.1/\o.1<7->inR R.toNat o)/\okV o:=λo ho=>by
 have:=Fo.bare_mem f ho;rw[h.src]at this;exact⟨h.regs o this,h.ops.v o this⟩
theorem Prg.hi (h:Prg R l f):0+f.bare.hi<=8:=by
 have h1:=h.deep;have h2:=f.bare_hi;omega
theorem Prg.writes (h:Prg R l f):gv l=Y ((f.n:Int),0):=by
 rw[ad1 (by have:=h.ops.len;omega) h.ops.v,h.w]
def dL3 (R:Nat)(o:cd):Prop:=0<o.1/\o.1<7->inR R o
theorem ci0 {σ γ S:Type}{g:σ->Option (σ⊕γ)}{code:List ae3}{st:Nat->Nat->(Nat->Int)->S->σ}{stp:cd->S->S}{Vd:Nat->S->Prop}{R:Nat}(h:Runs g code st stp Vd (inR R)):Runs g code st stp Vd (dL3 R):=
 ⟨λh1 h2 h3 h4 h5=>h.op h1 (h2 h3) h3 h4 h5,h.rep,h.nxt,h.out⟩
theorem bP8 {σ γ S:Type}{g:σ->Option (σ⊕γ)}{code:List ae3}{st:Nat->Nat->(Nat->Int)->S->σ}{stp:cd->S->S}{Vd:Nat->S->Prop}{R:Nat}(h:Backs g code st stp Vd (inR R)):Backs g code st stp Vd (dL3 R):=
 ⟨λh1 h2 h3 h4 h5=>h.op h1 (h2 h3) h3 h4 h5,h.rep,h.nxt,h.out⟩
def aM2 (f:Fo)(r t:Zd):TS:=fwd dI2 f.unroll (r,t,0)
theorem dg0 (h:Prg R l f){r t:Zd}(hr:r.length=R.toNat)(ht:f.n<=t.length)(ht2:t.length<=1000000):
  at5 (f.bare.code 0) r t=Y (((aM2 f r t).2.2:Int),(aM2 f r t).1,(aM2 f r t).2.1)/\(aM2 f r t).1.length=R.toNat/\(aM2 f r t).2.1.length=t.length:=by
 obtain⟨l',_,h2,h3⟩:=bV8 (m:=0) (l:=λ_=>0) (s:=((r,t,0):TS)) (d:=0) (p:=0) (A:=[]) (B:=[]) (ci0 (df1 (R:=R.toNat) (N:=t.length) h.clen ht2)) f.bare (by simp) rfl (Fo.bare_ok f h.ok) f.bare_pos h.hi h.good ⟨hr,rfl,by rw[Fo.bare_n];show 0+(f.n+0)<=_;omega⟩;rw[Fo.bare_unroll]at h2 h3;refine⟨?_,h3.1,h3.2.1⟩;unfold at5
 have:=bf5 h2 h.steps (c:=(((aM2 f r t).2.2:Int),(aM2 f r t).1,(aM2 f r t).2.1,l' 0,l' 1,l' 2,l' 3,l' 4,l' 5,l' 6,l' 7)) (by
  unfold stT;simp only[pj];rw[zB (by rw[Fo.code_len];omega),zC]
  rfl)
 have e:stT 0 0 (λ_=>0) ((r,t,0):TS)=(0,0,0,r,t,0,0,0,0,0,0,0,0):=rfl;rw[e]at this;rw[this];rfl
theorem xz (h:Prg R l f){r t:Zd}(hr:r.length=R.toNat)(ht:f.n<=t.length)(ht2:t.length<=1000000):
  si R l r t=Y (((aM2 f r t).2.2:Int),0,(aM2 f r t).1,(aM2 f r t).2.1)/\(aM2 f r t).1.length=R.toNat/\(aM2 f r t).2.1.length=t.length:=by
 obtain⟨h1,h2,h3⟩:=dg0 h hr ht ht2;refine⟨?_,h2,h3⟩;unfold si aE5;rw[be4 h,h.writes];have hR:=h.R1;simp only[zG];rw[zA (show¬((0:Int)≠0)by simp),zD,zA (show¬((r.length:Int)≠R)by omega),zD,zA (show¬((t.length:Int)<(f.n:Int))by omega),zD];simp only[zG];rw[zA (show¬((0:Int)≠0)by simp),zD,h1];rfl
def cd5 (f:Fo)(r:Zd):Zd:=(fwd cd7 f.unroll (r,0)).1
theorem cr5 (h:Prg R l f){r:Zd}(hr:r.length=R.toNat):xN (-1) (f.bare.code 0) r=Y (cd5 f r)/\(cd5 f r).length=R.toNat:=by
 obtain⟨l',_,h2,h3⟩:=bV8 (m:=0) (l:=λ_=>0) (s:=((r,0):FS)) (d:=0) (p:=0) (A:=[]) (B:=[]) (ci0 (du2 (R:=R.toNat) (M:=65536) h.clen (by omega))) f.bare (by simp) rfl (Fo.bare_ok f h.ok) f.bare_pos h.hi h.good ⟨hr,by rw[Fo.bare_n];show 0+(f.n+0)<=_;have:=h.n;omega⟩;rw[Fo.bare_unroll]at h2 h3;refine⟨?_,h3.1⟩;unfold xN
 have:=bf5 h2 h.steps (c:=(cd5 f r,l' 0,l' 1,l' 2,l' 3,l' 4,l' 5,l' 6,l' 7)) (by
  unfold stF;simp only[jv];rw[zB (by rw[Fo.code_len];omega),zC]
  rfl)
 have e:stF 0 0 (λ_=>0) ((r,0):FS)=(0,0,0,r,0,0,0,0,0,0,0,0):=rfl;rw[e]at this;rw[this];rfl
def fill (R:Int)(r:Zd):Zd:=r++aB (R.toNat-r.length) 0
theorem vi {R:Int}{r:Zd}(h:r.length<=R.toNat):(fill R r).length=R.toNat:=by
 unfold fill;rw[List.length_append,aD];omega
theorem db1 {R:Int}{r:Zd}(h:r.length<=R.toNat):aC3 (aB R.toNat (0:Int)) 0 (aB R.toNat (0:Int)).length r=fill R r:=by
 unfold aC3 fill;rw[aD,List.take_zero,List.nil_append,Nat.zero_add,Nat.min_eq_right h,List.take_of_length_le h,List.drop_replicate]
theorem cB0 (h:Prg R l f){r:Zd}(hr:r.length<=R.toNat):uf R l r=Y (0,cd5 f (fill R r))/\(cd5 f (fill R r)).length=R.toNat:=by
 obtain⟨h1,h2⟩:=cr5 h (vi hr);refine⟨?_,h2⟩;have hR:=h.R1;unfold uf ad7;rw[be4 h];simp only[zG];rw[zA (show¬((0:Int)≠0)by simp),zD,zA (show¬(R<(r.length:Int))by omega),zD,zB (show 0<=R by omega),zB (show R<=R by omega),zB (show 8*R<=140737488355328 by omega),db1 hr];show((gd Za _).bind _)=_;rw[cm];simp only[zG];rw[zA (show¬((0:Int)≠0)by simp),zD,h1];rfl
def pp (f:Fo)(r a t:Zd):BS:=bwd (cQ9 t) f.unroll (r,a,f.n)
theorem cR0 (h:Prg R l f){r a t:Zd}(hr:r.length=R.toNat)(ha:a.length=R.toNat)(ht:f.n<=t.length)(ht2:t.length<=1000000):
  tI (f.n:Int) r a t (f.bare.code 0)=Y ((pp f r a t).1,(pp f r a t).2.1)/\(pp f r a t).1.length=R.toNat/\(pp f r a t).2.1.length=R.toNat:=by
 obtain⟨l',_,h2,h3⟩:=br5 (m:=0) (l:=λ_=>0) (s:=((r,a,f.n):BS)) (d:=0) (p:=0) (A:=[]) (B:=[]) (bP8 (dX6 (R:=R.toNat) (t:=t) h.clen ht2)) f.bare (by simp) rfl (Fo.bare_ok f h.ok) f.bare_pos h.hi h.good ⟨hr,ha,by rw[Fo.bare_n];exact Nat.le_refl _,ht⟩;rw[Fo.bare_unroll]at h2 h3;refine⟨?_,h3.1,h3.2.1⟩;unfold tI;have hl:=h.clen;rw[Fo.code_len]at hl
 have:=bf5 h2 h.steps (c:=((pp f r a t).1,(pp f r a t).2.1,l' 0,l' 1,l' 2,l' 3,l' 4,l' 5,l' 6,l' 7)) (by
  unfold stB;simp only[ga];rw[zB (by omega),zC]
  rfl)
 have e:stB (0+f.bare.len) 0 (λ_=>0) ((r,a,f.n):BS)=(IntKind.i64.wrap (((f.bare.code 0).length:Int)-1),0,(f.n:Int),r,a,0,0,0,0,0,0,0,0):=by
  unfold stB;rw[Fo.code_len,ad (by omega),Nat.zero_add];rfl
 rw[e]at this;rw[this];rfl
theorem vl (h:Prg R l f){r a t:Zd}(hr:r.length=R.toNat)(ha:a.length=R.toNat)(ht:f.n<=t.length)(ht2:t.length<=1000000):
  tH R l r a t=Y (0,(pp f r a t).1,(pp f r a t).2.1)/\(pp f r a t).1.length=R.toNat/\(pp f r a t).2.1.length=R.toNat:=by
 obtain⟨h1,h2,h3⟩:=cR0 h hr ha ht ht2;refine⟨?_,h2,h3⟩;have hR:=h.R1;unfold tH;rw[be4 h,h.writes];simp only[zG];rw[zA (show¬((0:Int)≠0)by simp),zD,zA (show¬((r.length:Int)≠R)by omega),zD,zA (show¬((a.length:Int)≠R)by omega),zD,zA (show¬((t.length:Int)<(f.n:Int))by omega),zD,h1];rfl
end
end
section
open List renaming length_take -> aB, take_length -> aD, getElem?_take -> bB, length_append -> bD, ext_getElem? -> cB, getElem?_drop -> cD, getElem?_append_left -> dB, getElem?_append_right -> dD, getElem_mem -> eD, length_drop -> fB
def seg (W:Zd)(o n:Nat):Zd:=(W.drop o).take n
def put (W:Zd)(o:Nat)(w:Zd):Zd:=W.take o++(w++W.drop (o+w.length))
theorem au7 (W:Zd)(o n i:Nat):(seg W o n)[i]?=if i<n then W[o+i]? else Z:=by
 unfold seg;rw[bB];split
 .rw[cD]
 .rfl
theorem bu4 {W:Zd}{o:Nat}{w:Zd}(h:o+w.length<=W.length)(i:Nat):(put W o w)[i]?=if o<=i/\i<o+w.length then w[i-o]? else W[i]?:=by
 unfold put;have hl:(W.take o).length=o:=by rw[aB];omega
 by_cases h1:i<o
 .rw[dB (by omega),bB,zE h1,zF (by omega)]
 .rw[dD (by omega),hl];by_cases h2:i<o+w.length
  .rw[dB (by omega),zE ⟨by omega,h2⟩]
  .rw[dD (by omega),cD,zF (by omega)]
   congr 1
   omega
theorem eb {W:Zd}{o n:Nat}(h:o+n<=W.length):(seg W o n).length=n:=by
 unfold seg;rw[aB,fB];omega
theorem dG5 {W:Zd}{o:Nat}{w:Zd}(h:o+w.length<=W.length):(put W o w).length=W.length:=by
 unfold put;rw[bD,bD,aB,fB];omega
theorem bW2 {W:Zd}{o:Nat}{w:Zd}{n:Nat}(h:o+w.length<=W.length)(hn:n<=w.length):seg (put W o w) o n=w.take n:=by
 apply cB;intro i;rw[au7,bB,bu4 h];split
 .rw[zE (by omega)]
  congr 1
  omega
 .rfl
theorem ct9 {W:Zd}{o:Nat}{w:Zd}(h:o+w.length<=W.length):seg (put W o w) o w.length=w:=by
 rw[bW2 h (Nat.le_refl _),aD]
theorem bo0 {W:Zd}{o:Nat}{w:Zd}{o' n:Nat}(h:o+w.length<=W.length)(hd:o'+n<=o∨o+w.length<=o'):seg (put W o w) o' n=seg W o' n:=by
 apply cB;intro i;rw[au7,au7];split
 .rw[bu4 h,zF (by omega)]
 .rfl
theorem cP2 {W:Zd}{o:Nat}{w:Zd}{i:Nat}(h:o+w.length<=W.length)(hd:i<o∨o+w.length<=i):(put W o w)[i]?=W[i]?:=by
 rw[bu4 h,zF (by omega)]
theorem dj8 {W w:Zd}{o:Nat}(h:o+w.length<=W.length):aC3 W o w.length w=put W o w:=by
 unfold aC3 put;rw[aD,Nat.min_self]
theorem an9 {W:Zd}{o n tk:Nat}(h:o+n<=tk)(ht:tk<=W.length)(hw:W.length<=1048576):co (o:Int) (n:Int) (tk:Int) W=Y (0,seg W o n):=by
 unfold co;rw[zA (by omega),zD,zA (by omega),zD,zA (by omega),zD,ad (n:=(tk:Int)-o) (by omega),zA (by omega),zD,ad (n:=(o:Int)+n) (by omega),nb (by omega),cm];unfold aq;rw[show((o:Int)+n).toNat-(o:Int).toNat=n by omega,show(o:Int).toNat=o by omega,ck (by rw[aB];omega) (by omega)];rfl
theorem da5 {W:Zd}{o tk:Nat}(h:o<tk)(ht:tk<=W.length)(hw:W.length<=1048576):gc (o:Int) (tk:Int) W=Y (rg W (o:Int),0):=by
 unfold gc;rw[zA (by omega),zD,zA (by omega),zD,ad (n:=(tk:Int)-o) (by omega),zA (by omega),zD,ad (n:=(o:Int)+1) (by omega),nb (by omega),cm];unfold aq;rw[show((o:Int)+1).toNat-(o:Int).toNat=1 by omega,show(o:Int).toNat=o by omega,ck (by rw[aB];omega) (by omega)]
 have hs:(W.drop o).take 1=[rg W (o:Int)]:=by
  apply cB;intro i;rw[bB,cD];rcases Nat.eq_zero_or_pos i with rfl|hi
  .rw[zE (by omega),Nat.add_zero,mn (by omega)];rfl
  .rw[zF (by omega),List.getElem?_eq_none (by simp;omega)]
 rw[hs];rfl
theorem xn {W w:Zd}{o tk:Nat}(h:o+w.length<=tk)(ht:tk<=W.length)(hw:W.length<=1048576):da (o:Int) w (tk:Int) W=Y (0,put W o w):=by
 unfold da;rw[zA (by omega),zD,zA (by omega),zD,zA (by omega),zD,ad (n:=(tk:Int)-o) (by omega),zA (by omega),zD,ad (n:=(o:Int)+w.length) (by omega),nb (by omega),cm,show((o:Int)+w.length).toNat-(o:Int).toNat=w.length by omega,show(o:Int).toNat=o by omega,dj8 (by omega)]
theorem vj {n lv pk bd:Int}(h:0<=n)(hl:0<=lv)(hb:lv+n<=bd)(hbd:bd<=1048576):bx n lv pk bd=Y (0,lv+n,max pk (lv+n),bd):=by
 unfold bx tv nv;rw[zA (by omega),zD];simp only[zG];rw[ad (n:=bd-lv) (by omega),zB (by omega),ad (n:=lv+n) (by omega)];rfl
theorem zx {n lv pk bd:Int}(h:0<=n)(hl:n<=lv)(hp:lv<=pk)(hb:lv<=1048576):bc n lv pk bd=Y (0,lv-n,pk,bd):=by
 unfold bc nv;rw[zA (by omega),zD,zA (by omega),zD];simp only[zG];rw[ad (n:=0-n) (by omega),ad (by omega),show lv+(0-n)=lv-n by omega,Int.max_eq_left (by omega)]
theorem dc5 (ls:List (Zd))(h: ∀l∈ls,l.length<=100000):ls.flatten.length<=100000*ls.length:=by
 induction ls with
 |nil=>simp
 |cons a r ih=>
  have h1:=h a (by simp);have h2:=ih λl hl=>h l (by simp[hl])
  rw[List.flatten_cons,bD,List.length_cons];omega
theorem ci3 {ls:List (Zd)}{i:Nat}(h:i<ls.length):(ls.take (i+1)).flatten=(ls.take i).flatten++ls[i]:=by
 rw[List.take_succ_eq_append_getElem h,List.flatten_append];simp
theorem df9 (ls:List (Zd))(h: ∀l∈ls,l.length<=100000)(hl:ls.length<=1000)(i:Nat):(ls.take i).flatten.length<=100000000:=by
 have h1:=dc5 (ls.take i) λl hl=>h l (List.mem_of_mem_take hl)
 rw[aB]at h1;omega
theorem cf0 {ls:List (Zd)}(h: ∀l∈ls,l.length<=100000)(hl:ls.length<=1000):ej ls=Y ls.flatten:=by
 have hlen:=df9 ls h hl
 have k0:ap (gf ls) fy (0,0)=Y (((ls.take ls.length).flatten.length:Nat):Int):=by
  refine pu (n:=ls.length) (λi=>(((ls.take i).flatten.length:Nat):Int)) (by omega) (λi hi=> ?_) ?_
  .unfold gf;have h1:=hlen i;have h2:=h ls[i] (eD hi);simp only;rw[zB (show(i:Int)<(ls.length:Int)by omega),zC,dq hi];simp only[zG];rw[ad (n:=(((ls.take i).flatten.length:Nat):Int)+((ls[i].length:Nat):Int)) (by omega),zA (by omega),zD,ad (n:=(i:Int)+1) (by omega),ci3 hi,bD];rfl
  .unfold gf;simp only;rw[zA (by omega),zD]
 have k1: ∀(f:Int×Zd->Option ((Int×Zd)⊕Zd)),(∀s,f s=cond (Zc (s.1<((ls.length:Nat):Int))) ((rd ls s.1).bind λx=>gd (mj (s.2.length+x.length) 8) (Y (.inl (IntKind.i64.wrap (s.1+1),s.2++x)))) (Y (.inr s.2)))->
   ap f fy (0,[])=Y (ls.take ls.length).flatten:=by
  intro f hf;refine pu (n:=ls.length) (λi=>(ls.take i).flatten) (by omega) (λi hi=> ?_) ?_
  .rw[hf];have h1:=hlen i;have h2:=h ls[i] (eD hi);rw[zB (show(i:Int)<(ls.length:Int)by omega),zC,dq hi];simp only[zG];rw[ck (by omega) (by omega),ad (n:=(i:Int)+1) (by omega),ci3 hi];rfl
  .rw[hf];rw[zA (by omega),zD]
 unfold ej;rw[k0];rw[aD];simp only[zG];have h1:=hlen ls.length;rw[aD]at h1;rw[zA (by omega),zD,ad (n:=((ls.flatten.length:Nat):Int)-0) (by omega),ak];split
 .rw[Int.sub_zero]
  have hz:rZ 8 ((ls.flatten.length:Nat):Int)=Za:=by
   generalize ls.flatten.length=N at h1⊢;unfold rZ;rw[zB (by omega),zB (by omega),zB (by omega)];rfl
  rw[hz,cm,ck (by rw[List.length_replicate];omega) (by omega),nb (by omega),cm,List.take_zero,k1 (rl ls) λs=>rfl,aD];rfl
 .rw[k1 (rm ls) λs=>rfl,aD];rfl
end
section
open List renaming length_append -> aB, length_replicate -> aD, not_mem_nil -> bB
structure Cx where
 mode:Int
 R:Int
 Q:Int
 len:Int
 words:Int
 X:Zd
 T:Zd
 l:List cd
 k:List cd
 fl:Fo
 fk:Fo
 fixed:Int
 tp:Int
 sl:Int
 ns:Int
namespace Cx
def sz (c:Cx):Nat->Nat
 |0=>c.T.length
 |1=>c.X.length
 |2=>c.R.toNat
 |3=>c.Q.toNat
 |4=>max c.R.toNat c.Q.toNat
 |5=>c.X.length
 |6=>c.T.length
 |7=>c.tp.toNat
 |8=>(c.sl*c.ns).toNat
 |_=>0
def off (c:Cx):Nat->Nat
 |0=>0
 |i+1=>c.off i+c.sz i
def P (c:Cx):Zd:=(List.range 10).map λi=>(c.off i:Int)
def tk (c:Cx):Int:=(c.off 9:Int)
structure Ok (c:Cx):Prop where
 hl:OpsOk c.l
 hk:OpsOk c.k
 hc:aD0 c.mode c.X.length c.T.length c.R c.l c.Q c.k c.len c.words=0
 pl:Prg c.R c.l c.fl
 pk:Prg c.Q c.k c.fk
 fixed:c.fixed=ac5 c.X.length c.T.length c.R c.Q
 tp:c.tp=yB c.mode c.l c.k
 sl:c.sl=yA c.mode c.X.length c.R c.l
 ns:0<=c.ns/\c.ns<=1048576
 fit:c.fixed+c.tp+c.sl*c.ns<=c.words
 base:c.mode=3->c.ns=c.len
end Cx
structure Num (c:Cx):Prop where
 mode:1<=c.mode/\c.mode<=3
 R:1<=c.R/\c.R<=64
 Q:1<=c.Q/\c.Q<=64
 x:1<=c.X.length/\c.X.length<=64
 t:c.T.length<=64
 xtR:(c.X.length:Int)+c.T.length+1<=c.R
 xtQ:(c.X.length:Int)+c.T.length<=c.Q
 len:0<=c.len/\c.len<=65535
 words:0<=c.words/\c.words<=1048576
 n:c.fl.n<=65536
 m:c.fk.n<=65536
 tp:c.tp=(if c.mode=3 then(c.fk.n:Int)else c.fl.n+c.fk.n)
 sl:c.sl=(if c.mode=3 then(c.fl.n:Int)+c.R else c.X.length+1)
 fixed:c.fixed=2*c.T.length+2*c.X.length+c.R+c.Q+max c.R c.Q
 mul:0<=c.sl*c.ns
theorem bz5 {m:Int}{x t:Nat}{R:Int}{l:List cd}{Q:Int}{k:List cd}{n b:Int}(h:aD0 m x t R l Q k n b=0):wb R l Q k=0/\au3 R Q x t=0:=by
 unfold aD0 at h;split at h
 .rename_i c;exact(c h).elim
 split at h
 .rename_i c;exact(c h).elim
 split at h
 .rename_i c;exact(c h).elim
 rename_i c1 c2 c3;exact⟨by omega,by omega⟩
theorem de7 {R Q:Int}{l k:List cd}(h:wb R l Q k=0):aM1 R l=0/\aM1 Q k=0:=by
 unfold wb at h
 repeat' split at h
 all_goals first|(exact absurd h (by assumption))|skip
 unfold aM1;constructor
 .repeat' split
  all_goals first|(rename_i c;exact(by omega))|omega
 .repeat' split
  all_goals first|(rename_i c;exact(by omega))|omega
theorem cf3 {R Q:Int}{x t:Nat}(hx:x<=64)(ht:t<=64)(h:au3 R Q x t=0):(x:Int)+t+1<=R/\(x:Int)+t<=Q:=by
 unfold au3 at h;rw[ad (n:=(x:Int)+t) (by omega),ad (n:=(x:Int)+t+1) (by omega)]at h
 repeat' split at h
 all_goals omega
theorem Cx.Ok.num {c:Cx}(h:c.Ok):Num c:=by
 have f:=bS4 h.hl h.hk h.hc;obtain⟨h1,h2⟩:=bz5 h.hc;obtain⟨h3,h4⟩:=cf3 f.xs.2 f.ts h2;have w1:=h.pl.w;have w2:=h.pk.w;have s:=cu1 h.hl h.hk h.hc;refine⟨f.mode,f.regs,f.regs',f.xs,f.ts,h3,h4,f.len,f.bud,h.pl.n,h.pk.n, ?_, ?_, ?_, ?_⟩
 .rw[h.tp];unfold yB;rw[w1,w2]
 .rw[h.sl];unfold yA;rw[w1]
 .rw[h.fixed];unfold ac5;rfl
 .rw[h.sl];exact(dp3 (by have:=s.sl;omega) h.ns).1
section
variable {c:Cx}
theorem em6 :c.off 1=c.T.length:=Nat.zero_add _
theorem em7 :c.off 2=c.T.length+c.X.length:=by show c.off 1+_=_;rw[em6];rfl
theorem em8 :c.off 3=c.T.length+c.X.length+c.R.toNat:=by show c.off 2+_=_;rw[em7];rfl
theorem em9 :c.off 4=c.T.length+c.X.length+c.R.toNat+c.Q.toNat:=by show c.off 3+_=_;rw[em8];rfl
theorem en0 :c.off 5=c.T.length+c.X.length+c.R.toNat+c.Q.toNat+max c.R.toNat c.Q.toNat:=by show c.off 4+_=_;rw[em9];rfl
theorem en3 :c.off 6=c.T.length+c.X.length+c.R.toNat+c.Q.toNat+max c.R.toNat c.Q.toNat+c.X.length:=by show c.off 5+_=_;rw[en0];rfl
theorem dZ9 :c.off 7=c.T.length+c.X.length+c.R.toNat+c.Q.toNat+max c.R.toNat c.Q.toNat+c.X.length+c.T.length:=by show c.off 6+_=_;rw[en3];rfl
theorem en4 :c.off 8=c.off 7+c.tp.toNat:=rfl
theorem cd2 :c.off 9=c.off 8+(c.sl*c.ns).toNat:=rfl
theorem dR9 {i j:Nat}(h:i<=j):c.off i<=c.off j:=by
 induction j with
 |zero=>rw[Nat.le_zero.1 h];exact Nat.le_refl _
 |succ j ih=>
  rcases Nat.lt_or_ge i (j+1)with h1|h1
  .exact Nat.le_trans (ih (by omega)) (Nat.le_add_right _ _)
  .rw[Nat.le_antisymm h h1];exact Nat.le_refl _
theorem kl {i j:Nat}(h:i<j):c.off i+c.sz i<=c.off j:=dR9 (c:=c) (i:=i+1) h
theorem Cx.Ok.off9_le (h:c.Ok):(c.off 9:Int)<=c.words:=by
 have n:=h.num;have g1:=n.R;have g2:=n.Q;have g3:=n.fixed;have g4:=n.tp;have g5:=n.mul;have g6:=h.fit;have htp:0<=c.tp:=by rw[g4];split<;>omega
 rw[cd2,en4,dZ9];omega
theorem Cx.P_get {i:Nat}(h:i<10):c.P[i]?=Y (c.off i:Int):=by
 unfold Cx.P;rw[List.getElem?_map,List.getElem?_range h];rfl
theorem Cx.P_len :c.P.length=10:=by unfold Cx.P;simp
def Wd (c:Cx)(W:Zd):Prop:=W.length=c.words.toNat
theorem Wd.tk {W:Zd}(h:c.Ok)(hW:Wd c W):c.off 9<=W.length/\W.length<=1048576:=by
 have:=h.off9_le;have:=h.num.words;unfold Wd at hW;omega
theorem Wd.put {W w:Zd}{o:Nat}(h:c.Ok)(hW:Wd c W)(ho:o+w.length<=c.off 9):Wd c (put W o w):=by
 have:=hW.tk h;unfold Wd at hW⊢;rw[dG5 (by omega),hW]
theorem cB4 {i:Nat}{ii a0 a1 a2 a3 a4 a5 a6 a7 a8 a9 a10 a11 a12 a13 a14 a15 a16:Int}{X T:Zd}{l k:List cd}{lv pk bd:Int}{W:Zd}(h:c.Ok)(hW:Wd c W)(hi:ii=(i:Int))(hi9:i<9):
  bh ii a0 a1 a2 a3 a4 a5 a6 a7 a8 a9 a10 a11 a12 a13 a14 a15 a16 X T l k c.P c.tk lv pk bd W=Y (seg W (c.off i) (c.sz i)):=by
 subst hi;have hk:=hW.tk h;have h9:=kl (c:=c) (i:=i) (j:=9) hi9;unfold bh;rw[bp (show i<c.P.length by rw[Cx.P_len];omega)];simp only[zG];rw[Cx.P_get (show i<10 by omega)];simp only[zG];rw[ad (n:=(i:Int)+1) (by omega),show(i:Int)+1=((i+1:Nat):Int)by omega,bp (show i+1<c.P.length by rw[Cx.P_len];omega)];simp only[zG];rw[Cx.P_get (show i+1<10 by omega)];simp only[zG]
 have e:IntKind.i64.wrap ((c.off (i+1):Int)-(c.off i:Int))=(c.sz i:Int):=by
  have:c.off (i+1)=c.off i+c.sz i:=rfl;rw[ad (by omega)];omega
 rw[e];unfold Cx.tk;rw[an9 h9 hk.1 hk.2];rfl
theorem put1 {i:Nat}{ii a0 a1 a2 a3 a4 a5 a6 a7 a8 a9 a10 a11 a12 a13 a14 a15 a16:Int}{X T:Zd}{l k:List cd}{lv pk bd:Int}{W w:Zd}(h:c.Ok)(hW:Wd c W)(hi:ii=(i:Int))(hi9:i<9)(hw:w.length<=c.sz i):
  aj ii w a0 a1 a2 a3 a4 a5 a6 a7 a8 a9 a10 a11 a12 a13 a14 a15 a16 X T l k c.P c.tk lv pk bd W=Y (put W (c.off i) w):=by
 subst hi;have hk:=hW.tk h;have h9:=kl (c:=c) (i:=i) (j:=9) hi9;unfold aj;rw[bp (show i<c.P.length by rw[Cx.P_len];omega)];simp only[zG];rw[Cx.P_get (show i<10 by omega)];simp only[zG];unfold Cx.tk;rw[xn (by omega) hk.1 hk.2];rfl
theorem cd1 {i:Nat}{ii a0 a1 a2 a3 a4 a5 a6 a7 a8 a9 a10 a11 a12 a13 a14 a15 a16:Int}{X T:Zd}{l k:List cd}{sb sn sx:Int}{lv pk bd:Int}{W:Zd}(h:c.Ok)(hW:Wd c W)(hi:ii=(i:Int))(hi9:i<9):
  ba ii a0 a1 a2 a3 a4 a5 a6 a7 a8 a9 a10 a11 a12 a13 a14 a15 a16 X T l k c.P c.tk sb sn sx lv pk bd W=Y (seg W (c.off i) (c.sz i)):=by
 subst hi;have hk:=hW.tk h;have h9:=kl (c:=c) (i:=i) (j:=9) hi9;unfold ba;rw[bp (show i<c.P.length by rw[Cx.P_len];omega)];simp only[zG];rw[Cx.P_get (show i<10 by omega)];simp only[zG];rw[ad (n:=(i:Int)+1) (by omega),show(i:Int)+1=((i+1:Nat):Int)by omega,bp (show i+1<c.P.length by rw[Cx.P_len];omega)];simp only[zG];rw[Cx.P_get (show i+1<10 by omega)];simp only[zG]
 have e:IntKind.i64.wrap ((c.off (i+1):Int)-(c.off i:Int))=(c.sz i:Int):=by
  have:c.off (i+1)=c.off i+c.sz i:=rfl;rw[ad (by omega)];omega
 rw[e];unfold Cx.tk;rw[an9 h9 hk.1 hk.2];rfl
theorem bA4 {i:Nat}{ii a0 a1 a2 a3 a4 a5 a6 a7 a8 a9 a10 a11 a12 a13 a14 a15 a16:Int}{X T:Zd}{l k:List cd}{sb sn sx:Int}{lv pk bd:Int}{W w:Zd}(h:c.Ok)(hW:Wd c W)(hi:ii=(i:Int))(hi9:i<9)(hw:w.length<=c.sz i):
  ah ii w a0 a1 a2 a3 a4 a5 a6 a7 a8 a9 a10 a11 a12 a13 a14 a15 a16 X T l k c.P c.tk sb sn sx lv pk bd W=Y (put W (c.off i) w):=by
 subst hi;have hk:=hW.tk h;have h9:=kl (c:=c) (i:=i) (j:=9) hi9;unfold ah;rw[bp (show i<c.P.length by rw[Cx.P_len];omega)];simp only[zG];rw[Cx.P_get (show i<10 by omega)];simp only[zG];unfold Cx.tk;rw[xn (by omega) hk.1 hk.2];rfl
theorem bK9 {R:Int}{l:List cd}{a:Zd}(hR:1<=R/\R<=64)(ha:(a.length:Int)<=R):og R l a=Y (fill R a):=by
 unfold og aq;rw[ck (by omega) (by omega)];simp only[zG];rw[ad (n:=R-(a.length:Int)) (by omega)]
 have hz:rZ 8 (R-(a.length:Int))=Za:=by
  unfold rZ;rw[zB (by omega),zB (by omega),zB (by omega)];rfl
 rw[hz,cm,ck (by rw[aD];omega) (by omega),show(R-(a.length:Int)).toNat=R.toNat-a.length by omega];rfl
theorem dj2 {R:Int}{ops:List cd}{x more:Zd}{a0 a1 a2 a3 a4 a5 a6 a7 a8 a9 a10 a11 a12 a13 a14 a15 a16:Int}{X T:Zd}{l k:List cd}{lv pk bd:Int}{W:Zd}(h:c.Ok)(hW:Wd c W)(hR:1<=R/\R<=64)(hx:(x.length:Int)+c.T.length+more.length<=R):
  ja R ops x more a0 a1 a2 a3 a4 a5 a6 a7 a8 a9 a10 a11 a12 a13 a14 a15 a16 X T l k c.P c.tk lv pk bd W=Y (fill R (x++(seg W 0 c.T.length++more))):=by
 have hk:=hW.tk h;have h1:=kl (c:=c) (i:=0) (j:=9) (by omega);have hs:(seg W 0 c.T.length).length=c.T.length:=eb (by have:c.off 0+c.sz 0=0+c.T.length:=rfl;omega);unfold ja;rw[cB4 (ii:=0) (i:=0) h hW rfl (by omega)];simp only[zG];have hseg:seg W (c.off 0) (c.sz 0)=seg W 0 c.T.length:=rfl
 rw[hseg,cf0 (λa ha=>by
  simp only[List.mem_cons,bB,or_false]at ha
  rcases ha with rfl|rfl|rfl<;>omega) (by simp)]
 simp only[zG];have e:[x,seg W 0 c.T.length,more].flatten=x++(seg W 0 c.T.length++more):=by simp
 have hl:(x++(seg W 0 c.T.length++more)).length=x.length+c.T.length+more.length:=by rw[aB,aB,hs];omega
 rw[e];generalize x++(seg W 0 c.T.length++more)=a at*;rw[ad (n:=R-(a.length:Int)) (by omega)]
 have hz:rZ 8 (R-(a.length:Int))=Za:=by
  unfold rZ;rw[zB (by omega),zB (by omega),zB (by omega)];rfl
 rw[hz,cm,ck (by rw[aD];omega) (by omega),show(R-(a.length:Int)).toNat=R.toNat-a.length by omega];rfl
theorem cL1 {R:Int}{ops:List cd}{x more:Zd}{a0 a1 a2 a3 a4 a5 a6 a7 a8 a9 a10 a11 a12 a13 a14 a15 a16:Int}{X T:Zd}{l k:List cd}{sb sn sx:Int}{lv pk bd:Int}{W:Zd}(h:c.Ok)(hW:Wd c W)(hR:1<=R/\R<=64)(hx:(x.length:Int)+c.T.length+more.length<=R):
  gz R ops x more a0 a1 a2 a3 a4 a5 a6 a7 a8 a9 a10 a11 a12 a13 a14 a15 a16 X T l k c.P c.tk sb sn sx lv pk bd W=Y (fill R (x++(seg W 0 c.T.length++more))):=by
 have hk:=hW.tk h;have h1:=kl (c:=c) (i:=0) (j:=9) (by omega);have hs:(seg W 0 c.T.length).length=c.T.length:=eb (by have:c.off 0+c.sz 0=0+c.T.length:=rfl;omega);unfold gz;rw[cd1 (ii:=0) (i:=0) h hW rfl (by omega)];simp only[zG];have hseg:seg W (c.off 0) (c.sz 0)=seg W 0 c.T.length:=rfl
 rw[hseg,cf0 (λa ha=>by
  simp only[List.mem_cons,bB,or_false]at ha
  rcases ha with rfl|rfl|rfl<;>omega) (by simp)]
 simp only[zG];have e:[x,seg W 0 c.T.length,more].flatten=x++(seg W 0 c.T.length++more):=by simp
 have hl:(x++(seg W 0 c.T.length++more)).length=x.length+c.T.length+more.length:=by rw[aB,aB,hs];omega
 rw[e];generalize x++(seg W 0 c.T.length++more)=a at*;rw[ad (n:=R-(a.length:Int)) (by omega)]
 have hz:rZ 8 (R-(a.length:Int))=Za:=by
  unfold rZ;rw[zB (by omega),zB (by omega),zB (by omega)];rfl
 rw[hz,cm,ck (by rw[aD];omega) (by omega),show(R-(a.length:Int)).toNat=R.toNat-a.length by omega];rfl
end
end
section
open Go.IntKind renaming wrap -> zH, i64 -> zI, u64 -> zJ
open List renaming range -> bB, replicate -> bD, getElem?_eq_none -> cB, length_append -> cD, length_take -> dB, drop_zero -> dD, ext_getElem? -> eD
open Nat renaming le_refl -> aB, le_of_eq -> aD
theorem gdz {β:Type}{n:Int}{y:Option β}(h:0<=n/\n<=1048576):gd (Nat.beq 1 (Sh.w (.int .u64))&&Zc (0<=n)&&Zc (n<=n)&&Zc ((8:Int)*n<=140737488355328)&&Nat.ble 1 8) y=y:=by
 rw[zB h.1,zB (Int.le_refl n),zB (by omega)];rfl
section
variable {c:Cx}
theorem Cx.Ok.of (h:c.Ok):lf c.mode c.X c.T c.R c.l c.Q c.k c.len c.words=Y ((c.fl.n:Int),(c.fk.n:Int)):=by
 rw[cW5 h.hl h.hk,zF (λk=>k h.hc),h.pl.w,h.pk.w]
def gx (n:Nat):Zd:=bD n 0
def stepR (c:Cx)(W:Zd)(p:Int):TS:=aM2 c.fl (fill c.R (seg W (c.off 1) c.X.length++(seg W 0 c.T.length++[zH zJ p]))) (gx c.fl.n)
def lossR (c:Cx)(W x:Zd):TS:=aM2 c.fk (fill c.Q (x++(seg W 0 c.T.length++[]))) (gx c.fk.n)
def cK4 (x:Nat)(g a:Zd):Zd:=(bB g.length).map λ(i:Nat)=>IntKind.u64.wrap (rg g (i:Int)+rg a ((x+i:Nat):Int))
def aY8 (c:Cx)(W a:Zd):Zd:=
 put (put (put W (c.off 4) a) (c.off 5) (a.take c.X.length)) (c.off 6) (cK4 c.X.length (seg (put (put W (c.off 4) a) (c.off 5) (a.take c.X.length)) (c.off 6) c.T.length) a)
theorem aC2 (x:Nat)(g a:Zd):(cK4 x g a).length=g.length:=by unfold cK4;simp
theorem Wd.in' {W:Zd}(h:c.Ok)(hW:Wd c W){i:Nat}(hi:i<9):c.off i+c.sz i<=W.length:=by
 have:=hW.tk h;have:=kl (c:=c) (i:=i) (j:=9) hi;omega
theorem br1 {X:Zd}{a g:Zd}{f:Int×Zd->Option ((Int×Zd)⊕Zd)}(hg:g.length<=64)(hX:X.length<=64)(ha:X.length+g.length<=a.length)(hf: ∀s,f s=cond (Zc (s.1<(((g.length:Nat):Int))))
   ((ix s.1 (s.2.length)).bind λj=>(s.2[j]?).bind λy=>(ix (zH zI (((X.length:Nat):Int)+s.1)) a.length).bind λj'=>(a[j']?).bind λy'=>(ix s.1 (s.2.length)).bind λj''=>(s.2[j'']?).bind λy''=>Y (.inl (zH zI (s.1+1),s.2.set j'' (zH zJ (y+y')))))
   (Y (.inr s.2))):ap f fy (0,g)=Y (cK4 X.length g a):=by
 have hF: ∀i,((bB g.length).map λ(j:Nat)=>if j<i then zH zJ (rg g (j:Int)+rg a ((X.length+j:Nat):Int))else rg g (j:Int)).length=g.length:=λi=>by simp
 have hget: ∀i j,j<g.length->((bB g.length).map λ(j:Nat)=>if j<i then zH zJ (rg g (j:Int)+rg a ((X.length+j:Nat):Int))else rg g (j:Int))[j]?=Y (if j<i then zH zJ (rg g (j:Int)+rg a ((X.length+j:Nat):Int))else rg g (j:Int)):=λi j hj=>by
  rw[List.getElem?_map,List.getElem?_range hj];rfl
 have e0:g=(bB g.length).map λ(j:Nat)=>if j<0 then zH zJ (rg g (j:Int)+rg a ((X.length+j:Nat):Int))else rg g (j:Int):=by
  apply eD;intro j;by_cases hj:j<g.length
  .rw[hget 0 j hj,zF (by omega),mn hj]
  .rw[cB (by omega),cB (by simp;omega)]
 have e1:cK4 X.length g a=(bB g.length).map λ(j:Nat)=>if j<g.length then zH zJ (rg g (j:Int)+rg a ((X.length+j:Nat):Int))else rg g (j:Int):=by
  unfold cK4;apply List.map_congr_left;intro j hj;rw[zE (List.mem_range.1 hj)]
 rw[e1];refine Eq.trans (congrArg (λy=>ap f fy (0,y)) e0) ?_;refine pu (n:=g.length) (λi=>(bB g.length).map λ(j:Nat)=>if j<i then zH zJ (rg g (j:Int)+rg a ((X.length+j:Nat):Int))else rg g (j:Int)) (by omega) (λi hi=> ?_) ?_
 .rw[hf];rw[zB (show(i:Int)<((g.length:Nat):Int)by omega),zC,bp (by rw[hF];exact hi)];simp only[zG];rw[hget i i hi];simp only[zG];rw[zF (Nat.lt_irrefl i),ad (n:=((X.length:Nat):Int)+(i:Int)) (by omega),show((X.length:Nat):Int)+(i:Int)=((X.length+i:Nat):Int)by omega,bp (show X.length+i<a.length by omega)];simp only[zG];rw[mn (show X.length+i<a.length by omega)];simp only[zG];rw[ad (n:=(i:Int)+1) (by omega)]
  congr 3
  apply eD;intro j;by_cases hj:j<g.length
  .rw[hget (i+1) j hj];by_cases hij:i=j
   .subst hij;rw[List.getElem?_set_self (by rw[hF];exact hi),zE (Nat.lt_succ_self i)]
   .rw[List.getElem?_set_ne hij,hget i j hj]
    congr 1
    by_cases h3:j<i
    .rw[zE h3,zE (by omega)]
    .rw[zF h3,zF (by omega)]
  .rw[cB (by simp;omega),cB (by simp;omega)]
 .rw[hf];rw[zA (by omega),zD]
theorem cn (n:Nat):(gx n).length=n:=List.length_replicate
theorem kj (h:c.Ok){W:Zd}(hW:Wd c W)(p:Int):(fill c.R (seg W (c.off 1) c.X.length++(seg W 0 c.T.length++[zH zJ p]))).length=c.R.toNat/\(stepR c W p).1.length=c.R.toNat/\(stepR c W p).2.1.length=c.fl.n:=by
 have n:=h.num;have h1:=hW.in' h (i:=1) (by omega);have h0:=hW.in' h (i:=0) (by omega);have l1:(seg W (c.off 1) c.X.length).length=c.X.length:=eb h1;have l0:(seg W 0 c.T.length).length=c.T.length:=eb h0
 have hf:(fill c.R (seg W (c.off 1) c.X.length++(seg W 0 c.T.length++[zH zJ p]))).length=c.R.toNat:=by
  apply vi;rw[cD,cD,l1,l0];have:=n.xtR;simp;omega
 obtain⟨_,h2,h3⟩:=xz h.pl hf (t:=gx c.fl.n) (by rw[cn];exact aB _) (by rw[cn];have:=n.n;omega);rw[cn]at h3;exact⟨hf,h2,h3⟩
theorem au5 (h:c.Ok){W x:Zd}(hW:Wd c W)(hx:x.length=c.X.length):(fill c.Q (x++(seg W 0 c.T.length++[]))).length=c.Q.toNat/\(lossR c W x).1.length=c.Q.toNat/\(lossR c W x).2.1.length=c.fk.n:=by
 have n:=h.num;have h0:=hW.in' h (i:=0) (by omega);have l0:(seg W 0 c.T.length).length=c.T.length:=eb h0
 have hf:(fill c.Q (x++(seg W 0 c.T.length++[]))).length=c.Q.toNat:=by
  apply vi;rw[cD,cD,l0,hx];have:=n.xtQ;simp;omega
 obtain⟨_,h2,h3⟩:=xz h.pk hf (t:=gx c.fk.n) (by rw[cn];exact aB _) (by rw[cn];have:=n.m;omega);rw[cn]at h3;exact⟨hf,h2,h3⟩
theorem td (h:c.Ok){W a:Zd}(hW:Wd c W)(ha:c.X.length+c.T.length<=a.length)(ha2:a.length<=max c.R.toNat c.Q.toNat):
  Wd c (put W (c.off 4) a)/\Wd c (put (put W (c.off 4) a) (c.off 5) (a.take c.X.length))/\Wd c (aY8 c W a):=by
 have h4:=kl (c:=c) (i:=4) (j:=9) (by omega);have h5:=kl (c:=c) (i:=5) (j:=9) (by omega);have h6:=kl (c:=c) (i:=6) (j:=9) (by omega);have s4:c.sz 4=max c.R.toNat c.Q.toNat:=rfl;have s5:c.sz 5=c.X.length:=rfl;have s6:c.sz 6=c.T.length:=rfl;have w1:=hW.put h (w:=a) (o:=c.off 4) (by omega);have w2:=w1.put h (w:=a.take c.X.length) (o:=c.off 5) (by rw[dB];omega);refine⟨w1,w2, ?_⟩;unfold aY8;refine w2.put h ?_;rw[aC2,eb (n:=c.T.length) (w2.in' h (i:=6) (by omega))];omega
theorem dT6 (h:c.Ok){W:Zd}(hW:Wd c W){L p q c0 c1 c2 c3 z lv pk bd:Int}:
  jb c.fixed c.tp c.sl c.ns c.mode c.R c.Q c.len c.words L p q c0 c1 c2 c3 z c.X c.T c.l c.k c.P c.tk lv pk bd W=Y (c.fixed,c.tp,c.sl,c.ns,c.mode,c.R,c.Q,c.len,c.words,L,p,q,c0,zH zI (c1+1),c2,c3,z,put W (c.off 2) (stepR c W p).1,(stepR c W p).1,(stepR c W p).2.1):=by
 have n:=h.num;obtain⟨f1,f2,f3⟩:=kj h hW p;have h1:=hW.in' h (i:=1) (by omega);have l1:(seg W (c.off 1) c.X.length).length=c.X.length:=eb h1;unfold jb;rw[h.of];simp only[zG];have gn:=n.n;rw[gdz (by omega),cB4 (ii:=1) (i:=1) h hW rfl (by omega)];simp only[zG];rw[gdz (by omega),dj2 h hW n.R (by rw[show c.sz 1=c.X.length from rfl,l1];have:=n.xtR;simp;omega)];simp only[zG];rw[gdz (by omega),show c.sz 1=c.X.length from rfl,show bD ((c.fl.n:Int)).toNat (0:Int)=gx c.fl.n from rfl];obtain⟨r1,r2,r3⟩:=xz h.pl f1 (t:=gx c.fl.n) (by rw[cn];exact aB _) (by rw[cn];omega);rw[r1];simp only[zG];rw[put1 (ii:=2) (i:=2) h hW rfl (by omega) (by rw[show c.sz 2=c.R.toNat from rfl];exact aD r2)];rfl
theorem dv8 (h:c.Ok){W:Zd}(hW:Wd c W){L p q c0 c1 c2 c3 z sb sn sx lv pk bd:Int}:
  ia c.fixed c.tp c.sl c.ns c.mode c.R c.Q c.len c.words L p q c0 c1 c2 c3 z c.X c.T c.l c.k c.P c.tk sb sn sx lv pk bd W=Y (c.fixed,c.tp,c.sl,c.ns,c.mode,c.R,c.Q,c.len,c.words,L,p,q,c0,zH zI (c1+1),c2,c3,z,put W (c.off 2) (stepR c W p).1,(stepR c W p).1,(stepR c W p).2.1):=by
 have n:=h.num;obtain⟨f1,f2,f3⟩:=kj h hW p;have h1:=hW.in' h (i:=1) (by omega);have l1:(seg W (c.off 1) c.X.length).length=c.X.length:=eb h1;unfold ia;rw[h.of];simp only[zG];have gn:=n.n;rw[gdz (by omega),cd1 (ii:=1) (i:=1) h hW rfl (by omega)];simp only[zG];rw[gdz (by omega),cL1 h hW n.R (by rw[show c.sz 1=c.X.length from rfl,l1];have:=n.xtR;simp;omega)];simp only[zG];rw[gdz (by omega),show c.sz 1=c.X.length from rfl,show bD ((c.fl.n:Int)).toNat (0:Int)=gx c.fl.n from rfl];obtain⟨r1,r2,r3⟩:=xz h.pl f1 (t:=gx c.fl.n) (by rw[cn];exact aB _) (by rw[cn];omega);rw[r1];simp only[zG];rw[bA4 (ii:=2) (i:=2) h hW rfl (by omega) (by rw[show c.sz 2=c.R.toNat from rfl];exact aD r2)];rfl
theorem dO4 (h:c.Ok){W r a t:Zd}(hW:Wd c W)(hr:r.length=c.Q.toNat)(ha:a.length=c.Q.toNat)(ht:t.length=c.fk.n){L p q c0 c1 c2 c3 z lv pk bd:Int}:
  sB c.Q c.fixed c.tp c.sl c.ns c.mode c.R c.Q c.len c.words L p q c0 c1 c2 c3 z c.k r a t c.X c.T c.l c.P c.tk lv pk bd W=Y (c.fixed,c.tp,c.sl,c.ns,c.mode,c.R,c.Q,c.len,c.words,L,p,q,c0,c1,c2,zH zI (c3+1),z,(pp c.fk r a t).1,(pp c.fk r a t).2.1,aY8 c W (pp c.fk r a t).2.1):=by
 have n:=h.num;obtain⟨r1,r2,r3⟩:=vl h.pk hr ha (aD ht.symm) (by have:=n.n;have:=n.m;omega);have nR:=n.R;have nQ:=n.Q;have n1:=n.xtR;have n2:=n.xtQ;have nx:=n.x;have nt:=n.t;unfold sB;rw[r1];simp only[zG];generalize pp c.fk r a t=q1 at*;have b:=td h (a:=q1.2.1) hW (by omega) (by omega);obtain⟨b1,b2,b3⟩:=b;rw[put1 (ii:=4) (i:=4) h hW rfl (by omega) (by rw[show c.sz 4=max c.R.toNat c.Q.toNat from rfl];omega)];simp only[zG];rw[nb (by omega),cm,show((c.X.length:Int)).toNat-0=c.X.length by omega,dD,put1 (ii:=5) (i:=5) h b1 rfl (by omega) (by rw[dB,show c.sz 5=c.X.length from rfl];omega)];simp only[zG];rw[cB4 (ii:=6) (i:=6) h b2 rfl (by omega)];simp only[zG];rw[show c.sz 6=c.T.length from rfl];have hg:(seg (put (put W (c.off 4) q1.2.1) (c.off 5) (q1.2.1.take c.X.length)) (c.off 6) c.T.length).length=c.T.length:=eb (b2.in' h (i:=6) (by omega));rw[br1 (f:=xI c.X (0,q1.1,q1.2.1) _) (X:=c.X) (a:=q1.2.1) (g:=seg (put (put W (c.off 4) q1.2.1) (c.off 5) (q1.2.1.take c.X.length)) (c.off 6) c.T.length) (by omega) (by omega) (by omega) (λs=>rfl)]
 simp only[zG];rw[put1 (ii:=6) (i:=6) h b2 rfl (by omega) (by rw[aC2,hg];exact aB _)];rfl
theorem dO5 (h:c.Ok){W r a t:Zd}(hW:Wd c W)(hr:r.length=c.Q.toNat)(ha:a.length=c.Q.toNat)(ht:t.length=c.fk.n){L p q c0 c1 c2 c3 z sb sn sx lv pk bd:Int}:
  pz c.Q c.fixed c.tp c.sl c.ns c.mode c.R c.Q c.len c.words L p q c0 c1 c2 c3 z c.k r a t c.X c.T c.l c.P c.tk sb sn sx lv pk bd W=Y (c.fixed,c.tp,c.sl,c.ns,c.mode,c.R,c.Q,c.len,c.words,L,p,q,c0,c1,c2,zH zI (c3+1),z,(pp c.fk r a t).1,(pp c.fk r a t).2.1,aY8 c W (pp c.fk r a t).2.1):=by
 have n:=h.num;obtain⟨r1,r2,r3⟩:=vl h.pk hr ha (aD ht.symm) (by have:=n.n;have:=n.m;omega);have nR:=n.R;have nQ:=n.Q;have n1:=n.xtR;have n2:=n.xtQ;have nx:=n.x;have nt:=n.t;unfold pz;rw[r1];simp only[zG];generalize pp c.fk r a t=q1 at*;have b:=td h (a:=q1.2.1) hW (by omega) (by omega);obtain⟨b1,b2,b3⟩:=b;rw[bA4 (ii:=4) (i:=4) h hW rfl (by omega) (by rw[show c.sz 4=max c.R.toNat c.Q.toNat from rfl];omega)];simp only[zG];rw[nb (by omega),cm,show((c.X.length:Int)).toNat-0=c.X.length by omega,dD,bA4 (ii:=5) (i:=5) h b1 rfl (by omega) (by rw[dB,show c.sz 5=c.X.length from rfl];omega)];simp only[zG];rw[cd1 (ii:=6) (i:=6) h b2 rfl (by omega)];simp only[zG];rw[show c.sz 6=c.T.length from rfl];have hg:(seg (put (put W (c.off 4) q1.2.1) (c.off 5) (q1.2.1.take c.X.length)) (c.off 6) c.T.length).length=c.T.length:=eb (b2.in' h (i:=6) (by omega));rw[br1 (f:=we c.X (0,q1.1,q1.2.1) _) (X:=c.X) (a:=q1.2.1) (g:=seg (put (put W (c.off 4) q1.2.1) (c.off 5) (q1.2.1.take c.X.length)) (c.off 6) c.T.length) (by omega) (by omega) (by omega) (λs=>rfl)]
 simp only[zG];rw[bA4 (ii:=6) (i:=6) h b2 rfl (by omega) (by rw[aC2,hg];exact aB _)];rfl
theorem dO6 (h:c.Ok){W r a t:Zd}(hW:Wd c W)(hr:r.length=c.R.toNat)(ha:a.length=c.R.toNat)(ht:t.length=c.fl.n){L p q c0 c1 c2 c3 z sb sn sx lv pk bd:Int}:
  qa c.R c.fixed c.tp c.sl c.ns c.mode c.R c.Q c.len c.words L p q c0 c1 c2 c3 z c.l r a t c.X c.T c.k c.P c.tk sb sn sx lv pk bd W=Y (c.fixed,c.tp,c.sl,c.ns,c.mode,c.R,c.Q,c.len,c.words,L,p,q,c0,c1,c2,zH zI (c3+1),z,(pp c.fl r a t).1,(pp c.fl r a t).2.1,aY8 c W (pp c.fl r a t).2.1):=by
 have n:=h.num;obtain⟨r1,r2,r3⟩:=vl h.pl hr ha (aD ht.symm) (by have:=n.n;have:=n.m;omega);have nR:=n.R;have nQ:=n.Q;have n1:=n.xtR;have n2:=n.xtQ;have nx:=n.x;have nt:=n.t;unfold qa;rw[r1];simp only[zG];generalize pp c.fl r a t=q1 at*;have b:=td h (a:=q1.2.1) hW (by omega) (by omega);obtain⟨b1,b2,b3⟩:=b;rw[bA4 (ii:=4) (i:=4) h hW rfl (by omega) (by rw[show c.sz 4=max c.R.toNat c.Q.toNat from rfl];omega)];simp only[zG];rw[nb (by omega),cm,show((c.X.length:Int)).toNat-0=c.X.length by omega,dD,bA4 (ii:=5) (i:=5) h b1 rfl (by omega) (by rw[dB,show c.sz 5=c.X.length from rfl];omega)];simp only[zG];rw[cd1 (ii:=6) (i:=6) h b2 rfl (by omega)];simp only[zG];rw[show c.sz 6=c.T.length from rfl];have hg:(seg (put (put W (c.off 4) q1.2.1) (c.off 5) (q1.2.1.take c.X.length)) (c.off 6) c.T.length).length=c.T.length:=eb (b2.in' h (i:=6) (by omega));rw[br1 (f:=wg c.X (0,q1.1,q1.2.1) _) (X:=c.X) (a:=q1.2.1) (g:=seg (put (put W (c.off 4) q1.2.1) (c.off 5) (q1.2.1.take c.X.length)) (c.off 6) c.T.length) (by omega) (by omega) (by omega) (λs=>rfl)]
 simp only[zG];rw[bA4 (ii:=6) (i:=6) h b2 rfl (by omega) (by rw[aC2,hg];exact aB _)];rfl
def cq7 (c:Cx)(W x:Zd):Zd:=aY8 c (put W (c.off 3) (lossR c W x).1) (pp c.fk (lossR c W x).1 (fill c.Q [1]) (lossR c W x).2.1).2.1
theorem aL1 (h:c.Ok){W x:Zd}(hW:Wd c W)(hx:x.length=c.X.length):Wd c (put W (c.off 3) (lossR c W x).1)/\Wd c (cq7 c W x):=by
 have n:=h.num;obtain⟨f1,f2,f3⟩:=au5 h hW hx;have nR:=n.R;have nQ:=n.Q;have n2:=n.xtQ;have nx:=n.x;have nm:=n.m;have h3:=kl (c:=c) (i:=3) (j:=9) (by omega);have s3:c.sz 3=c.Q.toNat:=rfl;have w1:=hW.put h (w:=(lossR c W x).1) (o:=c.off 3) (by omega);obtain⟨_,r2,r3⟩:=vl h.pk f2 (a:=fill c.Q [1]) (t:=(lossR c W x).2.1) (vi (by simp;omega)) (aD f3.symm) (by omega);exact⟨w1,(td h w1 (by omega) (by omega)).2.2⟩
theorem em1 (h:c.Ok){W x:Zd}(hW:Wd c W)(hx:x.length=c.X.length){L p q c0 c1 c2 c3 z lv pk bd:Int}:
  pc x c.fixed c.tp c.sl c.ns c.mode c.R c.Q c.len c.words L p q c0 c1 c2 c3 z c.X c.T c.l c.k c.P c.tk lv pk bd W=Y (c.fixed,c.tp,c.sl,c.ns,c.mode,c.R,c.Q,c.len,c.words,L,p,q,c0,c1,zH zI (c2+1),zH zI (c3+1),rg (lossR c W x).1 0,cq7 c W x):=by
 have n:=h.num;obtain⟨f1,f2,f3⟩:=au5 h hW hx;obtain⟨w1,w2⟩:=aL1 h hW hx;have nR:=n.R;have nQ:=n.Q;have n2:=n.xtQ;have nx:=n.x;have nm:=n.m;unfold pc;rw[h.of];simp only[zG];rw[gdz (by omega),dj2 h hW n.Q (by simp;omega)];simp only[zG];rw[gdz (by omega),show bD ((c.fk.n:Int)).toNat (0:Int)=gx c.fk.n from rfl];obtain⟨r1,r2,r3⟩:=xz h.pk f1 (t:=gx c.fk.n) (by rw[cn];exact aB _) (by rw[cn];omega);rw[r1];simp only[zG];have e:aM2 c.fk (fill c.Q (x++(seg W 0 c.T.length++[]))) (gx c.fk.n)=lossR c W x:=rfl;rw[e];have i0:ix 0 (lossR c W x).1.length=Y 0:=bp (k:=0) (by omega);have g0:(lossR c W x).1[0]?=Y (rg (lossR c W x).1 0):=mn (k:=0) (by omega);rw[i0];simp only[zG];rw[g0];simp only[zG];rw[put1 (ii:=3) (i:=3) h hW rfl (by omega) (by rw[show c.sz 3=c.Q.toNat from rfl];exact aD f2)];simp only[zG];rw[bK9 n.Q (by simp;omega)]
 simp only[zG];rw[dO4 h w1 f2 (vi (by simp;omega)) f3];rfl
theorem ea5 (h:c.Ok){W:Zd}(hW:Wd c W){i0 L p q c0 c1 c2 c3 z lv pk bd:Int}(hl:0<=lv)(hp:lv<=pk)(hb:lv+c.fk.n<=bd)(hbd:bd<=1048576):
  nr i0 c.fixed c.tp c.sl c.ns c.mode c.R c.Q c.len c.words L p q c0 c1 c2 c3 z c.X c.T c.l c.k c.P c.tk lv pk bd W=Y (c.fixed,c.tp,c.sl,c.ns,c.mode,c.R,c.Q,c.len,c.words,L,p,q,c0,c1,zH zI (c2+1),zH zI (c3+1),rg (lossR c W (seg W (c.off 1) c.X.length)).1 0,lv,max pk (lv+c.fk.n),bd,cq7 c W (seg W (c.off 1) c.X.length)):=by
 have n:=h.num;have h1:=hW.in' h (i:=1) (by omega);have l1:(seg W (c.off 1) c.X.length).length=c.X.length:=eb h1;unfold nr;rw[h.of];simp only[zG];rw[vj (by omega) hl hb hbd];simp only[zG];rw[cB4 (ii:=1) (i:=1) h hW rfl (by omega)];simp only[zG];rw[show c.sz 1=c.X.length from rfl,em1 h hW l1];simp only[zG];rw[zx (by omega) (by omega) (by omega) (by omega)];simp only[zG];rw[show lv+(c.fk.n:Int)-c.fk.n=lv by omega]
theorem dY2 (h:c.Ok){W x:Zd}(hW:Wd c W)(hx:x.length=c.X.length){L p q c0 c1 c2 c3 z sb sn sx lv pk bd:Int}:
  mb x c.fixed c.tp c.sl c.ns c.mode c.R c.Q c.len c.words L p q c0 c1 c2 c3 z c.X c.T c.l c.k c.P c.tk sb sn sx lv pk bd W=Y (c.fixed,c.tp,c.sl,c.ns,c.mode,c.R,c.Q,c.len,c.words,L,p,q,c0,c1,zH zI (c2+1),zH zI (c3+1),rg (lossR c W x).1 0,cq7 c W x):=by
 have n:=h.num;obtain⟨f1,f2,f3⟩:=au5 h hW hx;obtain⟨w1,w2⟩:=aL1 h hW hx;have nR:=n.R;have nQ:=n.Q;have n2:=n.xtQ;have nx:=n.x;have nm:=n.m;unfold mb;rw[h.of];simp only[zG];rw[gdz (by omega),cL1 h hW n.Q (by simp;omega)];simp only[zG];rw[gdz (by omega),show bD ((c.fk.n:Int)).toNat (0:Int)=gx c.fk.n from rfl];obtain⟨r1,r2,r3⟩:=xz h.pk f1 (t:=gx c.fk.n) (by rw[cn];exact aB _) (by rw[cn];omega);rw[r1];simp only[zG];have e:aM2 c.fk (fill c.Q (x++(seg W 0 c.T.length++[]))) (gx c.fk.n)=lossR c W x:=rfl;rw[e];have i0:ix 0 (lossR c W x).1.length=Y 0:=bp (k:=0) (by omega);have g0:(lossR c W x).1[0]?=Y (rg (lossR c W x).1 0):=mn (k:=0) (by omega);rw[i0];simp only[zG];rw[g0];simp only[zG];rw[bA4 (ii:=3) (i:=3) h hW rfl (by omega) (by rw[show c.sz 3=c.Q.toNat from rfl];exact aD f2)];simp only[zG];rw[bK9 n.Q (by simp;omega)]
 simp only[zG];rw[dO5 h w1 f2 (vi (by simp;omega)) f3];rfl
theorem ea6 (h:c.Ok){W:Zd}(hW:Wd c W){i0 L p q c0 c1 c2 c3 z sb sn sx lv pk bd:Int}(hl:0<=lv)(hp:lv<=pk)(hb:lv+c.fk.n<=bd)(hbd:bd<=1048576):
  kq i0 c.fixed c.tp c.sl c.ns c.mode c.R c.Q c.len c.words L p q c0 c1 c2 c3 z c.X c.T c.l c.k c.P c.tk sb sn sx lv pk bd W=Y (c.fixed,c.tp,c.sl,c.ns,c.mode,c.R,c.Q,c.len,c.words,L,p,q,c0,c1,zH zI (c2+1),zH zI (c3+1),rg (lossR c W (seg W (c.off 1) c.X.length)).1 0,lv,max pk (lv+c.fk.n),bd,cq7 c W (seg W (c.off 1) c.X.length)):=by
 have n:=h.num;have h1:=hW.in' h (i:=1) (by omega);have l1:(seg W (c.off 1) c.X.length).length=c.X.length:=eb h1;unfold kq;rw[h.of];simp only[zG];rw[vj (by omega) hl hb hbd];simp only[zG];rw[cd1 (ii:=1) (i:=1) h hW rfl (by omega)];simp only[zG];rw[show c.sz 1=c.X.length from rfl,dY2 h hW l1];simp only[zG];rw[zx (by omega) (by omega) (by omega) (by omega)];simp only[zG];rw[show lv+(c.fk.n:Int)-c.fk.n=lv by omega]
end
end
section
open Go.IntKind renaming wrap -> zH, i64 -> zI, u64 -> zJ
open List renaming length_take -> aB
open Nat renaming le_of_eq -> aD
section
variable {c:Cx}
def cH5 (c:Cx)(W r t:Zd):Zd:=aY8 c W (pp c.fl r (fill c.R (seg W (c.off 5) c.X.length)) t).2.1
theorem bv9 (h:c.Ok){W r t:Zd}(hW:Wd c W)(hr:r.length=c.R.toNat)(ht:t.length=c.fl.n):(fill c.R (seg W (c.off 5) c.X.length)).length=c.R.toNat/\Wd c (cH5 c W r t):=by
 have n:=h.num;have nR:=n.R;have n1:=n.xtR;have nx:=n.x;have nn:=n.n;have h5:=hW.in' h (i:=5) (by omega);have l5:(seg W (c.off 5) c.X.length).length=c.X.length:=eb h5;have hf:(fill c.R (seg W (c.off 5) c.X.length)).length=c.R.toNat:=vi (by omega);obtain⟨_,r2,r3⟩:=vl h.pl hr hf (aD ht.symm) (by omega);exact⟨hf,(td h hW (by omega) (by omega)).2.2⟩
theorem dM2 (h:c.Ok){W r t:Zd}(hW:Wd c W)(hr:r.length=c.R.toNat)(ht:t.length=c.fl.n){L p q c0 c1 c2 c3 z sb sn sx lv pk bd:Int}:
  kr c.fixed c.tp c.sl c.ns c.mode c.R c.Q c.len c.words L p q c0 c1 c2 c3 z r t c.X c.T c.l c.k c.P c.tk sb sn sx lv pk bd W=Y (c.fixed,c.tp,c.sl,c.ns,c.mode,c.R,c.Q,c.len,c.words,L,p,q,c0,c1,c2,zH zI (c3+1),z,(pp c.fl r (fill c.R (seg W (c.off 5) c.X.length)) t).1,cH5 c W r t):=by
 have n:=h.num;have nR:=n.R;have n1:=n.xtR;obtain⟨f1,f2⟩:=bv9 h hW hr ht;have h5:=hW.in' h (i:=5) (by omega);have l5:(seg W (c.off 5) c.X.length).length=c.X.length:=eb h5;unfold kr;rw[cd1 (ii:=5) (i:=5) h hW rfl (by omega)];simp only[zG];rw[show c.sz 5=c.X.length from rfl,bK9 nR (by omega)];simp only[zG];rw[dO6 h hW hr f1 ht];rfl
def dG8 (c:Cx)(W:Zd)(p:Int):Zd:=cH5 c (put W (c.off 2) (stepR c W p).1) (stepR c W p).1 (stepR c W p).2.1
theorem ak4 (h:c.Ok){W:Zd}(hW:Wd c W)(p:Int):Wd c (put W (c.off 2) (stepR c W p).1):=by
 obtain⟨_,f2,_⟩:=kj h hW p;have h2:=kl (c:=c) (i:=2) (j:=9) (by omega);have s2:c.sz 2=c.R.toNat:=rfl;exact hW.put h (by omega)
theorem en6 (h:c.Ok){W:Zd}(hW:Wd c W){i0 L p q c0 c1 c2 c3 z sb sn sx lv pk bd:Int}(hl:0<=lv)(hp:lv<=pk)(hb:lv+c.fl.n<=bd)(hbd:bd<=1048576):
  lm i0 c.fixed c.tp c.sl c.ns c.mode c.R c.Q c.len c.words L p q c0 c1 c2 c3 z c.X c.T c.l c.k c.P c.tk sb sn sx lv pk bd W=Y (c.fixed,c.tp,c.sl,c.ns,c.mode,c.R,c.Q,c.len,c.words,L,p,q,c0,zH zI (c1+1),c2,zH zI (c3+1),z,lv,max pk (lv+c.fl.n),bd,dG8 c W p):=by
 obtain⟨f1,f2,f3⟩:=kj h hW p;unfold lm;rw[h.of];simp only[zG];rw[vj (by omega) hl hb hbd];simp only[zG];rw[dv8 h hW];simp only[zG];rw[dM2 h (ak4 h hW p) f2 f3];simp only[zG];rw[zx (by omega) (by omega) (by omega) (by omega)];simp only[zG];rw[show lv+(c.fl.n:Int)-c.fl.n=lv by omega];rfl
def cS7 (c:Cx)(W:Zd)(p:Int):Zd:=cH5 c (cq7 c (put W (c.off 2) (stepR c W p).1) ((stepR c W p).1.take c.X.length)) (stepR c W p).1 (stepR c W p).2.1
theorem dX8 (h:c.Ok){W:Zd}(hW:Wd c W){i0 L p q c0 c1 c2 c3 z sb sn sx lv pk bd:Int}(hl:0<=lv)(hp:lv<=pk)(hb:lv+(c.fl.n+c.fk.n)<=bd)(hbd:bd<=1048576):
  qb i0 c.fixed c.tp c.sl c.ns c.mode c.R c.Q c.len c.words L p q c0 c1 c2 c3 z c.X c.T c.l c.k c.P c.tk sb sn sx lv pk bd W=Y (c.fixed,c.tp,c.sl,c.ns,c.mode,c.R,c.Q,c.len,c.words,L,p,q,c0,zH zI (c1+1),zH zI (c2+1),zH zI (zH zI (c3+1)+1),rg (lossR c (put W (c.off 2) (stepR c W p).1) ((stepR c W p).1.take c.X.length)).1 0,lv,max pk (lv+(c.fl.n+c.fk.n)),bd,cS7 c W p):=by
 have n:=h.num;have nR:=n.R;have n1:=n.xtR;have nn:=n.n;have nm:=n.m;obtain⟨f1,f2,f3⟩:=kj h hW p;have w1:=ak4 h hW p;have hx:((stepR c W p).1.take c.X.length).length=c.X.length:=by rw[aB];omega
 unfold qb;rw[h.of];simp only[zG];rw[ad (n:=(c.fl.n:Int)+(c.fk.n:Int)) (by omega),vj (by omega) hl hb hbd];simp only[zG];rw[dv8 h hW];simp only[zG];rw[nb (by omega),cm,show((c.X.length:Int)).toNat-0=c.X.length by omega,List.drop_zero,dY2 h w1 hx];simp only[zG];rw[dM2 h (aL1 h w1 hx).2 f2 f3];simp only[zG];rw[zx (by omega) (by omega) (by omega) (by omega)];simp only[zG];rw[show lv+((c.fl.n:Int)+c.fk.n)-(c.fl.n+c.fk.n)=lv by omega];rfl
def bE7 (c:Cx)(W:Zd)(p:Int):Zd:=cd5 c.fl (fill c.R (seg W (c.off 1) c.X.length++(seg W 0 c.T.length++[zH zJ p])))
def adv1 (c:Cx)(W:Zd)(p:Int):Zd:=put (put W (c.off 2) (bE7 c W p)) (c.off 1) ((bE7 c W p).take c.X.length)
def advW (c:Cx)(W:Zd)(p:Int):Nat->Zd
 |0=>W
 |i+1=>adv1 c (advW c W p i) (p+i)
theorem dc3 {R:Int}{r:Zd}(h:r.length=R.toNat):fill R r=r:=by
 unfold fill;rw[h,Nat.sub_self];simp
theorem bb5 (h:c.Ok){W:Zd}(hW:Wd c W)(p:Int):uf c.R c.l (fill c.R (seg W (c.off 1) c.X.length++(seg W 0 c.T.length++[zH zJ p])))=Y (0,bE7 c W p)/\(bE7 c W p).length=c.R.toNat:=by
 obtain⟨f1,_,_⟩:=kj h hW p;have:=cB0 h.pl (r:=fill c.R (seg W (c.off 1) c.X.length++(seg W 0 c.T.length++[zH zJ p]))) (aD f1);rw[dc3 f1]at this;exact this
theorem co9 (h:c.Ok){W:Zd}(hW:Wd c W)(p:Int):Wd c (put W (c.off 2) (bE7 c W p))/\Wd c (adv1 c W p):=by
 have n:=h.num;have nR:=n.R;have n1:=n.xtR;obtain⟨_,f2⟩:=bb5 h hW p;have h1:=kl (c:=c) (i:=1) (j:=9) (by omega);have h2:=kl (c:=c) (i:=2) (j:=9) (by omega);have s1:c.sz 1=c.X.length:=rfl;have s2:c.sz 2=c.R.toNat:=rfl;have w1:=hW.put h (w:=bE7 c W p) (o:=c.off 2) (by omega);exact⟨w1,w1.put h (by rw[aB];omega)⟩
theorem bJ1 (h:c.Ok){W:Zd}(hW:Wd c W)(p:Int): ∀i,Wd c (advW c W p i)
 |0=>hW
 |i+1=>(co9 h (bJ1 h hW p i) _).2
theorem di1 (h:c.Ok){W:Zd}(hW:Wd c W){m:Nat}{L p q c0 c1 c2 c3 z sb sn sx lv pk bd:Int}(hm:m<=65536)(hp:0<=p/\p<=65536)(hc:0<=c0/\c0<=4611686018427387904):
  lj (m:Int) c.fixed c.tp c.sl c.ns c.mode c.R c.Q c.len c.words L p q c0 c1 c2 c3 z c.X c.T c.l c.k c.P c.tk sb sn sx lv pk bd W=Y (c.fixed,c.tp,c.sl,c.ns,c.mode,c.R,c.Q,c.len,c.words,L,p,q,c0+m,c1,c2,c3,z,advW c W p m):=by
 have n:=h.num;have nR:=n.R;have n1:=n.xtR;have nx:=n.x;unfold lj
 have key:ap (jo (m:Int) c.X c.T c.l c.k c.P c.tk sb sn sx lv pk bd) fy (0,c.fixed,c.tp,c.sl,c.ns,c.mode,c.R,c.Q,c.len,c.words,L,p,q,c0+((0:Nat):Int),c1,c2,c3,z,advW c W p 0)=Y (c.fixed,c.tp,c.sl,c.ns,c.mode,c.R,c.Q,c.len,c.words,L,p,q,c0+m,c1,c2,c3,z,advW c W p m):=by
  refine pu (n:=m) (λi=>(c.fixed,c.tp,c.sl,c.ns,c.mode,c.R,c.Q,c.len,c.words,L,p,q,c0+(i:Int),c1,c2,c3,z,advW c W p i)) (by omega) (λi hi=> ?_) ?_
  .have hWi:=bJ1 h hW p i;obtain⟨g1,g2⟩:=bb5 h hWi (p+i);obtain⟨w1,w2⟩:=co9 h hWi (p+i);have l1:(seg (advW c W p i) (c.off 1) c.X.length).length=c.X.length:=eb (hWi.in' h (i:=1) (by omega));simp only[jo];rw[zB (show(i:Int)<(m:Int)by omega),zC,cd1 (ii:=1) (i:=1) h hWi rfl (by omega)];simp only[zG];rw[show c.sz 1=c.X.length from rfl,ad (n:=p+(i:Int)) (by omega),cL1 h hWi nR (by rw[l1];simp;omega)];simp only[zG];rw[g1];simp only[zG];rw[bA4 (ii:=2) (i:=2) h hWi rfl (by omega) (by rw[show c.sz 2=c.R.toNat from rfl];exact aD g2)];simp only[zG];rw[nb (by omega),cm,show((c.X.length:Int)).toNat-0=c.X.length by omega,List.drop_zero,bA4 (ii:=1) (i:=1) h w1 rfl (by omega) (by rw[aB,show c.sz 1=c.X.length from rfl];omega)];simp only[zG];rw[ad (n:=(i:Int)+1) (by omega),ad (n:=c0+(i:Int)+1) (by omega),show c0+(i:Int)+1=c0+((i+1:Nat):Int)by omega]
   rfl
  .simp only[jo];rw[zA (by omega),zD]
 rw[show c0+((0:Nat):Int)=c0 by omega,show advW c W p 0=W from rfl]at key;rw[key];rfl
end
end
section
open List renaming range -> aB
def ol (a n:Int):Bool:=if a<1 then Zb else if 9<a then Zb else if a=1 then Zc (1<=n/\n<65536)else if a<=4 then Zc (0<=n/\n<1048576)else Zc (n=0)
theorem co7 (a n:Int):xD a n=Y (ol a n):=by
 unfold xD ol xE;by_cases h1:a<1
 .rw[zB h1,zE h1];rfl
 rw[zA h1,zF h1];by_cases h2:9<a
 .rw[zB h2,zE h2];rfl
 rw[zA h2,zF h2];show cond (Zc (a=1)) _ _=_;by_cases h3:a=1
 .rw[zB h3,zE h3];by_cases h4:1<=n
  .rw[zB h4];simp[h4]
  .rw[zA h4];simp[h4]
 rw[zA h3,zF h3,zB (show 1<=a by omega)];by_cases h4:a<=4
 .rw[zB h4,zE h4];by_cases h5:0<=n
  .rw[zB h5];simp[h5]
  .rw[zA h5];simp[h5]
 .rw[zA h4,zF h4];rfl
section
variable {c:Cx}
def sp (c:Cx)(k:Nat):Nat:=c.off 8+k*(c.X.length+1)
def jq (c:Cx)(W:Zd)(k:Nat):Int:=rg W (sp c k:Int)
def sw (c:Cx)(W:Zd):Zd:=(aB c.ns.toNat).map λ(k:Nat)=>jq c W k-1
structure Dy where
 L:Int
 p:Int
 q:Int
 c0:Int
 c1:Int
 c2:Int
 c3:Int
 z:Int
 lv:Int
 pk:Int
 W:Zd
def ld (c:Cx)(W:Zd):Nat:=(aB c.ns.toNat).countP λ(k:Nat)=>Zc (0<jq c W k)
structure Inv (c:Cx)(s:Dy):Prop where
 w:Wd c s.W
 L:0<=s.L/\s.L<=65535
 p:0<=s.p/\s.p<=s.L
 q: -1<=s.q/\s.q<=s.L
 tag: ∀k,k<c.ns.toNat->0<=jq c s.W k/\jq c s.W k<=s.L+1
 lv:s.lv=c.fixed+c.sl*ld c s.W
 pk:s.lv<=s.pk/\s.pk<=c.words
theorem zf (h:c.Ok)(hm:c.mode≠3){k:Nat}(hk:k<c.ns.toNat):sp c k+(c.X.length+1)<=c.off 9/\c.ns.toNat*(c.X.length+1)+c.off 8=c.off 9/\c.ns.toNat<=524288:=by
 have n:=h.num;have hsl:=n.sl;rw[zF hm]at hsl;have hns:=h.ns
 have e:(c.sl*c.ns).toNat=c.ns.toNat*(c.X.length+1):=by
  have:c.sl*c.ns=((c.ns.toNat*(c.X.length+1):Nat):Int):=by
   rw[Int.natCast_mul,hsl,Int.toNat_of_nonneg hns.1,Int.mul_comm]
   congr 1
  rw[this];rfl
 have h9:c.off 9=c.off 8+c.ns.toNat*(c.X.length+1):=by rw[cd2,e]
 have h1:(k+1)*(c.X.length+1)<=c.ns.toNat*(c.X.length+1):=Nat.mul_le_mul_right _ hk;rw[Nat.succ_mul]at h1;have h2:=h.off9_le;have h3:=n.words;have h4:c.ns.toNat*2<=c.ns.toNat*(c.X.length+1):=Nat.mul_le_mul_left _ (by have:=n.x;omega);unfold sp;omega
theorem ap8 (h:c.Ok)(hm:c.mode≠3){k:Nat}(hk:k<c.ns.toNat):cq (c.off 8:Int) c.ns (c.X.length:Int) (k:Int)=Y (sp c k:Int):=by
 obtain⟨h1,h2,h3⟩:=zf h hm hk;have h4:=h.off9_le;have h5:=h.num.words;have h6:=h.num.x;unfold sp at h1;unfold cq dn;simp only[zG];have e:(k:Int)*((c.X.length:Int)+1)=((k*(c.X.length+1):Nat):Int):=by rw[Int.natCast_mul];congr 1
 rw[ad (n:=(c.X.length:Int)+1) (by omega),e,ad (n:=((k*(c.X.length+1):Nat):Int)) (by omega),ad (by omega)];unfold sp
 congr 1
theorem bv5 (h:c.Ok)(hm:c.mode≠3){W:Zd}(hW:Wd c W){k:Nat}(hk:k<c.ns.toNat):gc (sp c k:Int) c.tk W=Y (jq c W k,0):=by
 obtain⟨h1,_,_⟩:=zf h hm hk;obtain⟨h2,h3⟩:=hW.tk h;exact da5 (by omega) h2 h3
theorem bv6 (h:c.Ok)(hm:c.mode≠3){W:Zd}(hW:Wd c W)(ht: ∀k,k<c.ns.toNat->0<=jq c W k/\jq c W k<=65536):jh (c.off 8:Int) c.ns (c.X.length:Int) c.tk W=Y (sw c W):=by
 unfold jh;have hns:=h.ns
 have key:ap (ji (c.off 8:Int) c.ns (c.X.length:Int) c.tk W) fy (0,(aB 0).map λ(k:Nat)=>jq c W k-1)=Y (sw c W):=by
  refine pu (n:=c.ns.toNat) (λi=>(aB i).map λ(k:Nat)=>jq c W k-1) (by omega) (λi hi=> ?_) ?_
  .have hti:=ht i hi;unfold ji;simp only;rw[zB (by omega),zC,ap8 h hm hi];simp only[zG];rw[bv5 h hm hW hi];simp only[zG];rw[ck (by simp;omega) (by omega),ad (n:=(i:Int)+1) (by omega),ad (n:=jq c W i) (by omega),ad (n:=jq c W i-1) (by omega),List.range_succ,List.map_append];rfl
  .unfold ji;simp only;rw[zA (by omega),zD];rfl
 have key:ap (ji (c.off 8:Int) c.ns (c.X.length:Int) c.tk W) fy (0,[])=_:=key;rw[key];rfl
theorem bb7 {W:Zd}{k:Nat}(hk:k<c.ns.toNat):(sw c W)[k]?=Y (jq c W k-1):=by
 unfold sw;rw[List.getElem?_map,List.getElem?_range hk];rfl
theorem vm {W:Zd}:(sw c W).length=c.ns.toNat:=by unfold sw;simp
theorem cc6 {l:Zd}{L:Int}(hl:l.length<1000000)(h: ∀t∈l,-1<=t/\t<=L):gp l L=Y Zb:=by
 unfold gp nh
 have key:ap (gq l L) fy 0=Y (.inr ()):=by
  refine xu (n:=l.length) (by omega) (λi hi=> ?_) ?_
  .have:=h l[i] (List.getElem_mem hi);unfold gq sF;rw[zB (by omega),zC,dq hi];simp only[zG];rw[zA (by omega),zD];simp only[zG];rw[zA (by omega),zD,ad (by omega)];rfl
  .unfold gq;rw[zA (by omega),zD]
 rw[key];rfl
theorem aL6 {L p q:Int}{l:Zd}(hL:0<=L/\L<=65535)(hp:0<=p/\p<=L)(hq: -1<=q/\q<=L)(hl:l.length<1000000)(h: ∀t∈l,-1<=t/\t<=L):oi L p q l=Y (.inr (p,q,L,l)):=by
 unfold oi ak9 sF;rw[zB (show 0<=L by omega),zB (show L<65536 by omega)];simp only[zC,zG,Bool.not_true,zD];rw[zA (show¬(1048576<(l.length:Int))by omega),zA (show¬p= -1 by omega),zA (show¬p< -1 by omega),zA (show¬L<p by omega),zA (show¬q< -1 by omega),zA (show¬L<q by omega)];simp only[zD,zG];rw[cc6 hl h];simp only[zG,zD];unfold jy;rw[ck (by omega) (by omega)];rfl
end
end
section
open Bool renaming not_true -> aB
open Int renaming mul_le_mul_of_nonneg_left -> aD
open List renaming countP_le_length -> bB
section
variable {c:Cx}
def doF (c:Cx)(a n:Int)(s:Dy):Int×Dy:=
 if ol a n=Zb∨7<a then(2,s)
 else if(2<=a/\a<=4)/\c.ns<=n then(2,s)
 else if a=1 then(if s.L-s.p<n then(17,s)else(0,{s with p:=s.p+n,c0:=s.c0+n,W:=advW c s.W s.p n.toNat}))
 else if a=2 then(if 0<=jq c s.W n.toNat-1 then(15,s)else(0,{s with lv:=s.lv+c.sl,pk:=max s.pk (s.lv+c.sl),W:=put s.W (sp c n.toNat) (IntKind.u64.wrap (IntKind.i64.wrap (s.p+1))::seg s.W (c.off 1) c.X.length)}))
 else if a=3 then(if jq c s.W n.toNat-1<0 then(16,s)else(0,{s with p:=jq c s.W n.toNat-1,W:=put s.W (c.off 1) (seg s.W (sp c n.toNat+1) c.X.length)}))
 else if a=4 then(if jq c s.W n.toNat-1<0 then(16,s)else(0,{s with lv:=s.lv-c.sl,W:=put s.W (sp c n.toNat) (gx (c.X.length+1))}))
 else if a=5 then(if s.q≠ -1 then(18,s)else if s.p≠s.L then(17,s)else(0,{s with q:=s.p,c2:=s.c2+1,c3:=s.c3+1,z:=rg (lossR c s.W (seg s.W (c.off 1) c.X.length)).1 0,pk:=max s.pk (s.lv+c.fk.n),W:=cq7 c s.W (seg s.W (c.off 1) c.X.length)}))
 else if a=6 then(if s.q≠ -1 then(18,s)else if s.p≠s.L-1 then(17,s)else(0,{s with q:=s.p,c1:=s.c1+1,c2:=s.c2+1,c3:=s.c3+1+1,z:=rg (lossR c (put s.W (c.off 2) (stepR c s.W s.p).1) ((stepR c s.W s.p).1.take c.X.length)).1 0,pk:=max s.pk (s.lv+(c.fl.n+c.fk.n)),W:=cS7 c s.W s.p}))
 else(if s.q<=0 then(18,s)else if s.p≠s.q-1 then(17,s)else(0,{s with q:=s.p,c1:=s.c1+1,c3:=s.c3+1,pk:=max s.pk (s.lv+c.fl.n),W:=dG8 c s.W s.p}))
def dP6 (c:Cx)(r:Int×Dy):Int×Int×Int×Int×Int×Int×Int×Int×Int×Int×Int×Int×Int×Int×Int×Int×Int×Int×Int×Int×Int×Zd:=
 (r.1,c.fixed,c.tp,c.sl,c.ns,c.mode,c.R,c.Q,c.len,c.words,r.2.L,r.2.p,r.2.q,r.2.c0,r.2.c1,r.2.c2,r.2.c3,r.2.z,r.2.lv,r.2.pk,c.words,r.2.W)
def Cnt (B:Int)(s:Dy):Prop:=(0<=s.c0/\s.c0<=B)/\(0<=s.c1/\s.c1<=B)/\(0<=s.c2/\s.c2<=B)/\(0<=s.c3/\s.c3<=B)
theorem cY2 (c:Cx)(W:Zd):ld c W<=c.ns.toNat:=by
 unfold ld;exact Nat.le_trans bB (by simp)
theorem bt1 (h:c.Ok){s:Dy}(hi:Inv c s):0<=s.lv/\s.lv+c.tp<=c.words/\c.words<=1048576/\0<=c.tp:=by
 have n:=h.num;have h1:=hi.lv;have h2:=cY2 c s.W;have h3:=h.fit;have h4:=n.fixed;have h5:=h.ns;have h6:=n.sl;have h7:1<=c.sl:=by rw[h6];have:=n.R;split<;>omega
 have h8:c.sl*(ld c s.W:Int)<=c.sl*c.ns:=aD (by omega) (by omega);have h9:0<=c.sl*(ld c s.W:Int):=Int.mul_nonneg (by omega) (by omega);have h10:0<=c.tp:=by rw[n.tp];split<;>omega
 have:=n.R;have:=n.Q;have:=n.words;refine⟨by omega,by omega,by omega,h10⟩
theorem cg9 (h:c.Ok){s:Dy}(hi:Inv c s)(hu:ld c s.W<c.ns.toNat):s.lv+c.sl<=c.words:=by
 have n:=h.num;have h1:=hi.lv;have h3:=h.fit;have h5:=h.ns;have h6:=n.sl;have h7:1<=c.sl:=by rw[h6];have:=n.R;split<;>omega
 have h8:c.sl*((ld c s.W:Int)+1)<=c.sl*c.ns:=aD (by omega) (by omega);have h10:0<=c.tp:=by rw[n.tp];split<;>omega
 rw[Int.mul_add,Int.mul_one]at h8;omega
theorem db6 {l:List Nat}{P:Nat->Bool}{k:Nat}(hk:k∈l)(hP:P k=Zb):l.countP P<l.length:=by
 rcases Nat.lt_or_ge (l.countP P) l.length with h|h
 .exact h
 .have:=List.countP_eq_length.1 (Nat.le_antisymm bB h) k hk;rw[hP]at this;cases this
theorem cg0 {W:Zd}{k:Nat}(hk:k<c.ns.toNat)(ht:jq c W k<=0):ld c W<c.ns.toNat:=by
 have:=db6 (l:=List.range c.ns.toNat) (P:=λ(k:Nat)=>Zc (0<jq c W k)) (k:=k) (List.mem_range.2 hk) (zA (by omega));rw[List.length_range]at this;exact this
theorem cN6 {k:Nat}{sb sx:Int}(hk:k<c.ns.toNat):na sb c.ns sx (k:Int)=Y Za:=by
 unfold na;rw[zB (by omega),zC,zB (by omega)]
theorem dT5 (h:c.Ok)(hm:c.mode≠3){s:Dy}(hi:Inv c s){k:Nat}(hk:k<c.ns.toNat)(ht:jq c s.W k<=0):
  oe (k:Int) c.fixed c.tp c.sl c.ns c.mode c.R c.Q c.len c.words s.L s.p s.q s.c0 s.c1 s.c2 s.c3 s.z c.X c.T c.l c.k c.P c.tk (c.off 8:Int) c.ns (c.X.length:Int) s.lv s.pk c.words s.W=Y (s.lv+c.sl,max s.pk (s.lv+c.sl),c.words,put s.W (sp c k) (IntKind.u64.wrap (IntKind.i64.wrap (s.p+1))::seg s.W (c.off 1) c.X.length)):=by
 have n:=h.num;have hW:=hi.w;obtain⟨g1,g2,g3⟩:=bt1 h hi;have g4:=cg9 h hi (cg0 hk ht);have hsl:=n.sl;rw[zF hm]at hsl;have hx:=n.x;have hp:=hi.p;have hL:=hi.L;have ht0:=(hi.tag k hk).1;obtain⟨s1,s2,s3⟩:=zf h hm hk;obtain⟨t1,t2⟩:=hW.tk h;have l1:(seg s.W (c.off 1) c.X.length).length=c.X.length:=eb (hW.in' h (i:=1) (by omega));unfold oe;rw[vj (by omega) g1 g4 (by omega)];simp only[zG];rw[cd1 (ii:=1) (i:=1) h hW rfl (by omega)];simp only[zG];rw[show c.sz 1=c.X.length from rfl];unfold uq;rw[cN6 hk];simp only[zG,aB,zD];rw[ap8 h hm hk];simp only[zG];rw[bv5 h hm hW hk];simp only[zG];rw[zA (show¬s.p<0 by omega),zD,zA (show¬65536<=s.p by omega)];simp only[zG,zD];rw[l1,zA (λk=>k rfl),zD,zA (show¬(jq c s.W k≠0)by omega),zD,ck (by omega) (by omega)]
 unfold Cx.tk;rw[xn (by simp[l1];omega) t1 t2];rfl
theorem dt5 (h:c.Ok)(hm:c.mode≠3){s:Dy}(hi:Inv c s){k:Nat}(hk:k<c.ns.toNat)(ht:0<jq c s.W k):
  ll (k:Int) c.fixed c.tp c.sl c.ns c.mode c.R c.Q c.len c.words s.L s.p s.q s.c0 s.c1 s.c2 s.c3 s.z c.X c.T c.l c.k c.P c.tk (c.off 8:Int) c.ns (c.X.length:Int) s.lv s.pk c.words s.W=Y (put s.W (c.off 1) (seg s.W (sp c k+1) c.X.length)):=by
 have n:=h.num;have hW:=hi.w;have hL:=hi.L;have ht1:=(hi.tag k hk).2;obtain⟨s1,s2,s3⟩:=zf h hm hk;obtain⟨t1,t2⟩:=hW.tk h;have l1:(seg s.W (sp c k+1) c.X.length).length=c.X.length:=eb (by omega);unfold ll sN;rw[cN6 hk];simp only[zG,aB,zD];rw[ap8 h hm hk];simp only[zG];rw[bv5 h hm hW hk];simp only[zG];rw[zA (show¬jq c s.W k=0 by omega),zD,ad (n:=(sp c k:Int)+1) (by omega),show(sp c k:Int)+1=((sp c k+1:Nat):Int)by omega];unfold Cx.tk;rw[an9 (by omega) t1 t2];simp only[zG];rw[show((c.off 9:Nat):Int)=c.tk from rfl,bA4 (ii:=1) (i:=1) h hW rfl (by omega) (by rw[l1];exact Nat.le_refl _)];rfl
theorem dY7 (h:c.Ok)(hm:c.mode≠3){s:Dy}(hi:Inv c s){k:Nat}(hk:k<c.ns.toNat)(ht:0<jq c s.W k)(hlv:c.sl<=s.lv):
  qc (k:Int) c.fixed c.tp c.sl c.ns c.mode c.R c.Q c.len c.words s.L s.p s.q s.c0 s.c1 s.c2 s.c3 s.z c.X c.T c.l c.k c.P c.tk (c.off 8:Int) c.ns (c.X.length:Int) s.lv s.pk c.words s.W=Y (s.lv-c.sl,s.pk,c.words,put s.W (sp c k) (gx (c.X.length+1))):=by
 have n:=h.num;have hW:=hi.w;have hx:=n.x;have hsl:=n.sl;rw[zF hm]at hsl;obtain⟨g1,g2,g3⟩:=bt1 h hi;have hpk:=hi.pk;obtain⟨s1,s2,s3⟩:=zf h hm hk;obtain⟨t1,t2⟩:=hW.tk h;unfold qc uP;rw[cN6 hk];simp only[zG,aB,zD];rw[ap8 h hm hk];simp only[zG];rw[bv5 h hm hW hk];simp only[zG];rw[zA (show¬jq c s.W k=0 by omega),zD];unfold dn;simp only[zG];rw[ad (n:=(c.X.length:Int)+1) (by omega),gdz (by omega),show List.replicate (((c.X.length:Int)+1).toNat) (0:Int)=gx (c.X.length+1)from rfl];unfold Cx.tk;rw[xn (by rw[cn];omega) t1 t2];simp only[zG];rw[zx (by omega) hlv hpk.1 (by omega)];rfl
end
end
section
open Int renaming reduceEq -> aD, toNat_of_nonneg -> bB
open Nat renaming reduceSub -> aB
def dR4 (a n p q L tot:Int)(l:Zd):Int×Int×Int×Int×Int×Zd:=
 if ol a n=Zb∨7<a then(2,p,q,L,tot,l)
 else if(2<=a/\a<=4)/\(l.length:Int)<=n then(2,p,q,L,tot,l)
 else if a=1 then(if L-p<n then(17,p,q,L,tot,l)else(0,p+n,q,L,tot+n,l))
 else if a=2 then(if 0<=rg l n then(15,p,q,L,tot,l)else(0,p,q,L,tot,l.set n.toNat p))
 else if a=3 then(if rg l n<0 then(16,p,q,L,tot,l)else(0,rg l n,q,L,tot,l))
 else if a=4 then(if rg l n<0 then(16,p,q,L,tot,l)else(0,p,q,L,tot,l.set n.toNat (-1)))
 else if a=5 then(if q≠ -1 then(18,p,q,L,tot,l)else if p≠L then(17,p,q,L,tot,l)else(0,p,p,L,tot,l))
 else if a=6 then(if q≠ -1 then(18,p,q,L,tot,l)else if p≠L-1 then(17,p,q,L,tot,l)else(0,p,p,L,tot,l))
 else(if q<=0 then(18,p,q,L,tot,l)else if p≠q-1 then(17,p,q,L,tot,l)else(0,p,p,L,tot,l))
theorem nbz :Nat.beq 0 0=Za:=rfl
theorem nbs (n:Nat):Nat.beq (n+1) 0=Zb:=rfl
theorem aM4 {a n:Int}(h: ¬(ol a n=Zb∨7<a)):ol a n=Za/\(a=1∨a=2∨a=3∨a=4∨a=5∨a=6∨a=7):=by
 have h1:ol a n=Za:=by
  cases hr:ol a n with
  |true=>rfl
  |false=>exact(h (.inl hr)).elim
 refine⟨h1, ?_⟩;have h2: ¬a<1:=λh3=>by unfold ol at h1;rw[zE h3]at h1;cases h1
 omega
theorem aM5 {a n:Int}(h:ol a n=Za)(ha:1<=a/\a<=4):0<=n/\n<1048576/\(a=1->1<=n/\n<65536):=by
 unfold ol at h;rw[zF (by omega),zF (by omega)]at h;by_cases h1:a=1
 .rw[zE h1]at h;have:=of_decide_eq_true h;omega
 .rw[zF h1,zE (by omega)]at h;have:=of_decide_eq_true h;omega
theorem cN9 {a n p q L tot:Int}{l:Zd}(hL:0<=L/\L<=65535)(hp:0<=p/\p<=L)(hq: -1<=q/\q<=L)(ht:0<=tot/\tot<=1000000000000):mg a n p q L tot l=Y (dR4 a n p q L tot l):=by
 unfold mg dR4;rw[co7];simp only[zG];by_cases h1:ol a n=Zb∨7<a
 .rw[zE h1]
  have e:(cond (!ol a n) (Y Za) (Y (Zc (7<a))))=Y Za:=by
   rcases h1 with h1|h1
   .rw[h1];rfl
   .rw[zB h1];cases ol a n<;>rfl
  rw[e];rfl
 rw[zF h1];obtain⟨h2,hk⟩:=aM4 h1;have h3: ¬7<a:=λh=>h1 (.inr h)
 rw[h2,zA h3];simp only[Bool.not_true,zD,zG];by_cases h4:(2<=a/\a<=4)/\(l.length:Int)<=n
 .rw[zE h4,zB h4.1.1,zB h4.1.2,zB h4.2];rfl
 rw[zF h4]
 have e:(cond (Zc (2<=a)) (cond (Zc (a<=4)) (cond (Zc ((l.length:Int)<=n)) (Y (Sum.inl ())) (Y (Sum.inr ()))) (Y (Sum.inr ()))) (Y (Sum.inr ())):Option (Unit⊕Unit))=Y (.inr ()):=by
  by_cases h5:2<=a
  .rw[zB h5];by_cases h6:a<=4
   .rw[zB h6,zA (λh7=>h4 ⟨⟨h5,h6⟩,h7⟩)];rfl
   .rw[zA h6];rfl
  .rw[zA h5];rfl
 rw[e];simp only[zG,bg,sG]
 have slot:(2<=a/\a<=4)->0<=n/\n.toNat<l.length/\ix n l.length=Y n.toNat/\l[n.toNat]?=Y (rg l n):=λhs=>by
  have hn:=aM5 h2 ⟨by omega,hs.2⟩
  have hlt:n.toNat<l.length:=by
   have: ¬(l.length:Int)<=n:=λh7=>h4 ⟨hs,h7⟩
   omega
  have en:n=((n.toNat:Nat):Int):=by omega
  refine⟨hn.1,hlt, ?_, ?_⟩
  .conv=>lhs;rw[en]
   exact bp hlt
  .have:=mn hlt;rw[<-en]at this;exact this
 rcases hk with rfl|rfl|rfl|rfl|rfl|rfl|rfl
 .have hn:=aM5 h2 (by omega);rw[show ix 1 8=Y 1 from rfl];simp only[zG,aB,nbz,nbs,zC,zD];rw[zE trivial];unfold qo;rw[ad (n:=L-p) (by omega),ak];by_cases h5:L-p<n
  .rw[zE h5,zE h5];rfl
  .rw[zF h5,zF h5,ad (n:=p+n) (by omega),ad (n:=tot+n) (by omega)];rfl
 .obtain⟨s1,s2,s3,s4⟩:=slot (by omega);rw[show ix 2 8=Y 2 from rfl];simp only[zG,aB,nbz,nbs,zC,zD];rw[zF (by decide),zE trivial];unfold sH;rw[s3];simp only[zG];rw[s4];simp only[zG,ak];by_cases h5:0<=rg l n
  .rw[zE h5,zE h5];rfl
  .rw[zF h5,zF h5];rfl
 .obtain⟨s1,s2,s3,s4⟩:=slot (by omega);rw[show ix 3 8=Y 3 from rfl];simp only[zG,aB,nbz,nbs,zC,zD];rw[zF (by decide),zF (by decide),zE trivial];unfold qr;rw[s3];simp only[zG];rw[s4];simp only[zG,ak];by_cases h5:rg l n<0
  .rw[zE h5,zE h5];rfl
  .rw[zF h5,zF h5];rfl
 .obtain⟨s1,s2,s3,s4⟩:=slot (by omega);rw[show ix 4 8=Y 4 from rfl];simp only[zG,aB,nbz,nbs,zC,zD];rw[zF (by decide),zF (by decide),zF (by decide),zE trivial];unfold tt;rw[s3];simp only[zG];rw[s4];simp only[zG,ak];by_cases h5:rg l n<0
  .rw[zE h5,zE h5];rfl
  .rw[zF h5,zF h5];rfl
 .rw[show ix 5 8=Y 5 from rfl];simp only[zG,aB,nbz,nbs,zC,zD];rw[zF (by decide),zF (by decide),zF (by decide),zF (by decide),zE trivial];unfold tu jg;rw[ad (n:=L-0) (by omega),ak];by_cases h5:q≠ -1
  .rw[zE h5,zE h5];rfl
  .rw[zF h5,zF h5,zB (show q= -1 by omega),Bool.and_true,Int.sub_zero];by_cases h6:p=L
   .rw[zB h6,zF (λk=>k h6)];rfl
   .rw[zA h6,zE h6];rfl
 .rw[show ix 6 8=Y 6 from rfl];simp only[zG,aB,nbz,nbs,zC,zD];rw[zF (by decide),zF (by decide),zF (by decide),zF (by decide),zF (by decide),zE trivial];unfold tq jg;rw[ad (n:=L-1) (by omega),ak];by_cases h5:q≠ -1
  .rw[zE h5,zE h5];rfl
  .rw[zF h5,zF h5,zB (show q= -1 by omega),Bool.and_true];by_cases h6:p=L-1
   .rw[zB h6,zF (λk=>k h6)];rfl
   .rw[zA h6,zE h6];rfl
 .rw[show ix 7 8=Y 7 from rfl];simp only[zG,aB,nbz,nbs,zC,zD];rw[zF (by decide),zF (by decide),zF (by decide),zF (by decide),zF (by decide),zF (by decide)];unfold qs;rw[ak];by_cases h5:q<=0
  .rw[zE h5,zE h5];rfl
  .rw[zF h5,zF h5,ad (n:=q-1) (by omega),ak];by_cases h6:p≠q-1
   .rw[zE h6,zE h6];rfl
   .rw[zF h6,zF h6];rfl
section
variable {c:Cx}
theorem bv7 {W:Zd}{L:Int}(ht: ∀k,k<c.ns.toNat->0<=jq c W k/\jq c W k<=L+1): ∀t∈sw c W,-1<=t/\t<=L:=λt hm=>by
 unfold sw at hm;obtain⟨k,hk,rfl⟩:=List.mem_map.1 hm;have:=ht k (List.mem_range.1 hk);omega
theorem dG9 {W:Zd}{n:Int}(h:0<=n)(hn:n.toNat<c.ns.toNat):rg (sw c W) n=jq c W n.toNat-1:=by
 have h1:=bb7 (c:=c) (W:=W) hn;have h2:=mn (r:=sw c W) (k:=n.toNat) (by rw[vm];exact hn);rw[h1,bB h]at h2;injection h2 with h2
 exact h2.symm
theorem Cnt.in' {B:Int}{s:Dy}(h:Cnt B s)(hB:B<=2305843009213693952):(0<=s.c0/\s.c0<=2305843009213693952)/\(0<=s.c1/\s.c1<=2305843009213693952)/\(0<=s.c2/\s.c2<=2305843009213693952)/\(0<=s.c3/\s.c3<=2305843009213693952):=by
 unfold Cnt at h;omega
theorem dx0 {W:Zd}{k:Nat}(hk:k<c.ns.toNat)(ht:0<jq c W k):0<ld c W:=by
 unfold ld;exact List.countP_pos_iff.2 ⟨k,List.mem_range.2 hk,zB ht⟩
theorem do5 (h:c.Ok){s:Dy}(hi:Inv c s)(hu:0<ld c s.W):c.sl<=s.lv:=by
 have n:=h.num;have h1:=hi.lv;have h4:=n.fixed;have h6:=n.sl;have h7:1<=c.sl:=by rw[h6];have:=n.R;split<;>omega
 have h8:c.sl*1<=c.sl*(ld c s.W:Int):=Int.mul_le_mul_of_nonneg_left (by omega) (by omega);have:=n.R;have:=n.Q;omega
theorem do2 (h:c.Ok)(hm:c.mode≠3){s:Dy}(hi:Inv c s){B:Int}(hc:Cnt B s)(hB:B<=2305843009213693952){a n:Int}:
  nq a n c.fixed c.tp c.sl c.ns c.mode c.R c.Q c.len c.words s.L s.p s.q s.c0 s.c1 s.c2 s.c3 s.z c.X c.T c.l c.k c.P c.tk (c.off 8:Int) c.ns (c.X.length:Int) s.lv s.pk c.words s.W=Y (dP6 c (doF c a n s)):=by
 have nm:=h.num;have hW:=hi.w;have hL:=hi.L;have hp:=hi.p;have hq:=hi.q;have hpk:=hi.pk;have hns:=h.ns;obtain⟨k0,k1,k2,k3⟩:=hc.in' hB;obtain⟨g1,g2,g3,g4⟩:=bt1 h hi;have htp:=nm.tp;rw[zF hm]at htp
 have hlen:(sw c s.W).length<1000000:=by
  rw[vm];rcases Nat.eq_zero_or_pos c.ns.toNat with h0|h0
  .omega
  .have:=(zf h hm h0).2.2;omega
 unfold nq qk;simp only[zG];rw[zA hm,zD];unfold cv;rw[bv6 h hm hW (λk hk=>by have:=hi.tag k hk;omega)];simp only[zG];rw[aL6 hL hp hq hlen (bv7 hi.tag)];simp only[zG,bg];rw[cN9 hL hp hq (by omega)];simp only[zG];unfold dR4 doF;by_cases h1:ol a n=Zb∨7<a
 .rw[zE h1,zE h1,zB (by simp),zC];rfl
 rw[zF h1,zF h1];obtain⟨h2,hk⟩:=aM4 h1;rw[vm,bB hns.1];by_cases h4:(2<=a/\a<=4)/\c.ns<=n
 .rw[zE h4,zE h4,zB (by simp),zC];rfl
 rw[zF h4,zF h4]
 have slot:(2<=a/\a<=4)->n=((n.toNat:Nat):Int)/\n.toNat<c.ns.toNat/\rg (sw c s.W) n=jq c s.W n.toNat-1:=λhs=>by
  have hn:=aM5 h2 ⟨by omega,hs.2⟩
  have hlt:n.toNat<c.ns.toNat:=by
   have: ¬c.ns<=n:=λh7=>h4 ⟨hs,h7⟩
   omega
  exact⟨by omega,hlt,dG9 hn.1 hlt⟩
 simp only[ti,be,jy,zG];have fitT: ∀l:Zd,l.length<1000000->gd (mj (0+l.length) 8) (Y l)=Y l:=λl hl=>ck (by omega) (by omega)
 have hset: ∀(i:Nat) (x:Int),((sw c s.W).set i x).length<1000000:=λi x=>by simp only[List.length_set];exact hlen
 rcases hk with rfl|rfl|rfl|rfl|rfl|rfl|rfl
 .have hn:=aM5 h2 (by omega);simp only[aD,reduceIte];by_cases h5:s.L-s.p<n
  .rw[zE h5,zE h5,zB (by simp),zC];rfl
  rw[zF h5,zF h5,zA (by simp),zD,show ix 1 8=Y 1 from rfl];simp only[zG,aB,nbz,nbs,zC,zD];have en:n=((n.toNat:Nat):Int):=by omega
  have ha:=di1 h hW (m:=n.toNat) (L:=s.L) (p:=s.p) (q:=s.q) (c0:=s.c0) (c1:=s.c1) (c2:=s.c2) (c3:=s.c3) (z:=s.z) (sb:=(c.off 8:Int)) (sn:=c.ns) (sx:=(c.X.length:Int)) (lv:=s.lv) (pk:=s.pk) (bd:=c.words) (by omega) (by omega) (by omega);rw[<-en]at ha;rw[ha];simp only[zG];rw[fitT _ hlen];rfl
 .obtain⟨en,hlt,ht⟩:=slot (by omega);simp only[aD,reduceIte];rw[ht];by_cases h5:0<=jq c s.W n.toNat-1
  .rw[zE h5,zE h5,zB (by simp),zC];rfl
  rw[zF h5,zF h5,zA (by simp),zD,show ix 2 8=Y 2 from rfl];simp only[zG,aB,nbz,nbs,zC,zD];have ha:=dT5 h hm hi hlt (by omega);rw[<-en]at ha;rw[ha];simp only[zG];rw[fitT _ (hset _ _)];rfl
 .obtain⟨en,hlt,ht⟩:=slot (by omega);simp only[aD,reduceIte];rw[ht];by_cases h5:jq c s.W n.toNat-1<0
  .rw[zE h5,zE h5,zB (by simp),zC];rfl
  rw[zF h5,zF h5,zA (by simp),zD,show ix 3 8=Y 3 from rfl];simp only[zG,aB,nbz,nbs,zC,zD];have ha:=dt5 h hm hi hlt (by omega);rw[<-en]at ha;rw[ha];simp only[zG];rw[fitT _ hlen];rfl
 .obtain⟨en,hlt,ht⟩:=slot (by omega);simp only[aD,reduceIte];rw[ht];by_cases h5:jq c s.W n.toNat-1<0
  .rw[zE h5,zE h5,zB (by simp),zC];rfl
  rw[zF h5,zF h5,zA (by simp),zD,show ix 4 8=Y 4 from rfl];simp only[zG,aB,nbz,nbs,zC,zD];have ha:=dY7 h hm hi hlt (by omega) (do5 h hi (dx0 hlt (by omega)));rw[<-en]at ha;rw[ha];simp only[zG];rw[fitT _ (hset _ _)];rfl
 .simp only[aD,reduceIte];by_cases h5:s.q≠ -1
  .rw[zE h5,zE h5,zB (by simp),zC];rfl
  rw[zF h5,zF h5];by_cases h6:s.p≠s.L
  .rw[zE h6,zE h6,zB (by simp),zC];rfl
  rw[zF h6,zF h6,zA (by simp),zD,show ix 5 8=Y 5 from rfl];simp only[zG,aB,nbz,nbs,zC,zD];rw[ea6 h hW g1 hpk.1 (by omega) g3];simp only[zG];rw[fitT _ hlen,ad (n:=s.c2+1) (by omega),ad (n:=s.c3+1) (by omega)];rfl
 .simp only[aD,reduceIte];by_cases h5:s.q≠ -1
  .rw[zE h5,zE h5,zB (by simp),zC];rfl
  rw[zF h5,zF h5];by_cases h6:s.p≠s.L-1
  .rw[zE h6,zE h6,zB (by simp),zC];rfl
  rw[zF h6,zF h6,zA (by simp),zD,show ix 6 8=Y 6 from rfl];simp only[zG,aB,nbz,nbs,zC,zD];rw[dX8 h hW g1 hpk.1 (by omega) g3];simp only[zG];rw[fitT _ hlen,ad (n:=s.c1+1) (by omega),ad (n:=s.c2+1) (by omega),ad (n:=s.c3+1) (by omega),ad (n:=s.c3+1+1) (by omega)];rfl
 .simp only[aD,reduceIte];by_cases h5:s.q<=0
  .rw[zE h5,zE h5,zB (by simp),zC];rfl
  rw[zF h5,zF h5];by_cases h6:s.p≠s.q-1
  .rw[zE h6,zE h6,zB (by simp),zC];rfl
  rw[zF h6,zF h6,zA (by simp),zD,show ix 7 8=Y 7 from rfl];simp only[zG,aB,nbz,nbs,zC,zD];rw[en6 h hW g1 hpk.1 (by omega) g3];simp only[zG];rw[fitT _ hlen,ad (n:=s.c1+1) (by omega),ad (n:=s.c3+1) (by omega)];rfl
end
end
section
open Go.IntKind renaming wrap -> zH, i64 -> zI, u64 -> zJ
open Int renaming reduceEq -> aB, le_max_left -> cB, toNat_natCast -> cD
open List renaming getD_eq_getElem?_getD -> aD, range -> bD, length_take -> dB, countP_append -> eD
open Nat renaming le_of_eq -> bB, le_refl -> dD
section
variable {c:Cx}
def gg (c:Cx)(W W':Zd):Prop:= ∀i,c.off 8<=i->W'[i]?=W[i]?
theorem gg.refl (W:Zd):gg c W W:=λ_ _=>rfl
theorem gg.trans {W W' W'':Zd}(h:gg c W W')(h':gg c W' W''):gg c W W'':=λi hi=>(h' i hi).trans (h i hi)
theorem gg.put (h:c.Ok){W W' w:Zd}{i:Nat}(hK:gg c W W')(hW:Wd c W')(hi:i<8)(hw:w.length<=c.sz i):gg c W (put W' (c.off i) w):=λj hj=>by
 have h1:=kl (c:=c) (i:=i) (j:=8) hi;have h2:=hW.in' h (i:=i) (by omega);rw[cP2 (by omega) (.inr (by omega))];exact hK j hj
theorem gg.rg {W W':Zd}(h:gg c W W'){i:Nat}(hi:c.off 8<=i):rg W' (i:Int)=rg W (i:Int):=by
 unfold Go.V.rg;rw[cD,aD,aD,h i hi]
theorem gg.tag {W W':Zd}(h:gg c W W')(k:Nat):jq c W' k=jq c W k:=h.rg (by unfold sp;omega)
theorem gg.used {W W':Zd}(h:gg c W W'):ld c W'=ld c W:=by
 unfold ld
 congr 1
 funext k
 rw[h.tag k]
theorem gg.seg {W W':Zd}(h:gg c W W'){o n:Nat}(ho:c.off 8<=o):seg W' o n=seg W o n:=by
 apply List.ext_getElem?;intro i;rw[au7,au7];split
 .exact h _ (by omega)
 .rfl
theorem cB9 (h:c.Ok){W a:Zd}(hW:Wd c W)(ha:c.X.length+c.T.length<=a.length)(ha2:a.length<=max c.R.toNat c.Q.toNat):gg c W (aY8 c W a):=by
 obtain⟨w1,w2,w3⟩:=td h hW ha ha2;unfold aY8;refine gg.put h (gg.put h (gg.put h (gg.refl W) hW (by omega) ?_) w1 (by omega) ?_) w2 (by omega) ?_
 .exact ha2
 .rw[dB];exact Nat.min_le_left _ _
 .rw[aC2,eb (n:=c.T.length) (w2.in' h (i:=6) (by omega))];exact dD _
theorem cs0 (h:c.Ok){W x:Zd}(hW:Wd c W)(hx:x.length=c.X.length):gg c W (cq7 c W x):=by
 have n:=h.num;have nR:=n.R;have nQ:=n.Q;have n2:=n.xtQ;have nx:=n.x;have nm:=n.m;obtain⟨f1,f2,f3⟩:=au5 h hW hx;obtain⟨w1,w2⟩:=aL1 h hW hx;obtain⟨_,r2,r3⟩:=vl h.pk f2 (a:=fill c.Q [1]) (t:=(lossR c W x).2.1) (vi (by simp;omega)) (bB f3.symm) (by omega);exact(gg.put h (gg.refl W) hW (i:=3) (by omega) (bB f2)).trans (cB9 h w1 (by omega) (by omega))
theorem cC0 (h:c.Ok){W r t:Zd}(hW:Wd c W)(hr:r.length=c.R.toNat)(ht:t.length=c.fl.n):gg c W (cH5 c W r t):=by
 have n:=h.num;have nR:=n.R;have n1:=n.xtR;have nx:=n.x;have nn:=n.n;obtain⟨f1,f2⟩:=bv9 h hW hr ht;obtain⟨_,r2,r3⟩:=vl h.pl hr f1 (bB ht.symm) (by omega);exact cB9 h hW (by omega) (by omega)
theorem cg5 (h:c.Ok){W:Zd}(hW:Wd c W)(p:Int):gg c W (put W (c.off 2) (stepR c W p).1):=
 gg.put h (gg.refl W) hW (i:=2) (by omega) (bB (kj h hW p).2.1)
theorem cs1 (h:c.Ok){W:Zd}(hW:Wd c W)(p:Int):gg c W (dG8 c W p)/\Wd c (dG8 c W p):=by
 obtain⟨f1,f2,f3⟩:=kj h hW p;have w1:=ak4 h hW p;exact⟨(cg5 h hW p).trans (cC0 h w1 f2 f3),(bv9 h w1 f2 f3).2⟩
theorem df8 (h:c.Ok){W:Zd}(hW:Wd c W)(p:Int):((stepR c W p).1.take c.X.length).length=c.X.length:=by
 have n:=h.num;have nR:=n.R;have n1:=n.xtR;obtain⟨f1,f2,f3⟩:=kj h hW p;rw[dB];omega
theorem bS9 (h:c.Ok){W:Zd}(hW:Wd c W)(p:Int):gg c W (cS7 c W p)/\Wd c (cS7 c W p):=by
 obtain⟨f1,f2,f3⟩:=kj h hW p;have w1:=ak4 h hW p;have hx:=df8 h hW p;have w2:=(aL1 h w1 hx).2;exact⟨((cg5 h hW p).trans (cs0 h w1 hx)).trans (cC0 h w2 f2 f3),(bv9 h w2 f2 f3).2⟩
theorem dn5 (h:c.Ok){W:Zd}(hW:Wd c W)(p:Int):gg c W (adv1 c W p):=by
 obtain⟨_,f2⟩:=bb5 h hW p;obtain⟨w1,w2⟩:=co9 h hW p;refine gg.put h (gg.put h (gg.refl W) hW (i:=2) (by omega) (bB f2)) w1 (i:=1) (by omega) ?_;rw[dB];exact Nat.min_le_left _ _
theorem cr9 (h:c.Ok){W:Zd}(hW:Wd c W)(p:Int): ∀i,gg c W (advW c W p i)
 |0=>gg.refl W
 |i+1=>(cr9 h hW p i).trans (dn5 h (bJ1 h hW p i) _)
theorem aZ2 {P P':Nat->Bool}{k:Nat}: ∀{n:Nat},k<n->P k=Zb->P' k=Za->(∀j,j<n->j≠k->P' j=P j)->(bD n).countP P'=(bD n).countP P+1
 |n+1,hk,h0,h1,hne=>by
  rw[List.range_succ,eD,eD];by_cases hkn:k=n
  .subst hkn
   have e:(bD k).countP P'=(bD k).countP P:=List.countP_congr λj hj=>by
    have:=List.mem_range.1 hj;rw[hne j (by omega) (by omega)]
   rw[e];simp[h0,h1]
  .rw[aZ2 (n:=n) (by omega) h0 h1 λj hj hjk=>hne j (by omega) hjk];have:[n].countP P'=[n].countP P:=by simp[hne n (by omega) (by omega)]
   omega
theorem cX6 {j k:Nat}(h:j<k):sp c j+(c.X.length+1)<=sp c k:=by
 have h1:(j+1)*(c.X.length+1)<=k*(c.X.length+1):=Nat.mul_le_mul_right _ h;rw[Nat.succ_mul]at h1;unfold sp;omega
theorem bK6 {W w:Zd}{j k:Nat}(hlen:sp c k+w.length<=W.length)(hw:w.length=c.X.length+1)(hjk:j≠k):jq c (put W (sp c k) w) j=jq c W j:=by
 unfold jq rg;rw[cD,aD,aD,cP2 hlen];rcases Nat.lt_or_ge j k with h|h
 .exact .inl (by have:=cX6 (c:=c) h;omega)
 .exact .inr (by have:=cX6 (c:=c) (show k<j by omega);omega)
theorem aj4 {W w:Zd}{k:Nat}(hlen:sp c k+w.length<=W.length)(hw:w.length=c.X.length+1):jq c (put W (sp c k) w) k=w.getD 0 0:=by
 unfold jq rg;rw[cD,aD,aD,bu4 hlen,zE ⟨dD _,by omega⟩,Nat.sub_self]
theorem aZ9 {s s':Dy}(hi:Inv c s)(hW:Wd c s'.W)(hk:gg c s.W s'.W)(hL:s'.L=s.L)(hp:0<=s'.p/\s'.p<=s.L)(hq: -1<=s'.q/\s'.q<=s.L)(hlv:s'.lv=s.lv)(hpk:s.pk<=s'.pk/\s'.pk<=c.words):Inv c s':=
 ⟨hW,by rw[hL];exact hi.L,by rw[hL];exact hp,by rw[hL];exact hq,λk hkk=>by rw[hk.tag,hL];exact hi.tag k hkk,by rw[hlv,hk.used];exact hi.lv,by rw[hlv];exact⟨Int.le_trans hi.pk.1 hpk.1,hpk.2⟩⟩
theorem dB1 (h:c.Ok)(hm:c.mode≠3){s:Dy}(hi:Inv c s)(a n:Int):Inv c (doF c a n s).2:=by
 have nm:=h.num;have hW:=hi.w;have hL:=hi.L;have hp:=hi.p;have hq:=hi.q;have hpk:=hi.pk;have hns:=h.ns;have nx:=nm.x;obtain⟨g1,g2,g3,g4⟩:=bt1 h hi;have htp:=nm.tp;rw[zF hm]at htp;have hsl:=nm.sl;rw[zF hm]at hsl;have l1:(seg s.W (c.off 1) c.X.length).length=c.X.length:=eb (hW.in' h (i:=1) (by omega));unfold doF;by_cases h1:ol a n=Zb∨7<a
 .rw[zE h1];exact hi
 rw[zF h1];obtain⟨h2,hk⟩:=aM4 h1;by_cases h4:(2<=a/\a<=4)/\c.ns<=n
 .rw[zE h4];exact hi
 rw[zF h4]
 have slot:(2<=a/\a<=4)->n.toNat<c.ns.toNat:=λhs=>by
  have hn:=aM5 h2 ⟨by omega,hs.2⟩;have: ¬c.ns<=n:=λh7=>h4 ⟨hs,h7⟩
  omega
 rcases hk with rfl|rfl|rfl|rfl|rfl|rfl|rfl
 .have hn:=aM5 h2 (by omega);simp only[aB,reduceIte];by_cases h5:s.L-s.p<n
  .rw[zE h5];exact hi
  .rw[zF h5];exact aZ9 hi (bJ1 h hW _ _) (cr9 h hW _ _) rfl ⟨by show 0<=s.p+n;omega,by show s.p+n<=s.L;omega⟩ hq rfl ⟨Int.le_refl _,hpk.2⟩
 .have hlt:=slot (by omega);simp only[aB,reduceIte];by_cases h5:0<=jq c s.W n.toNat-1
  .rw[zE h5];exact hi
  rw[zF h5];generalize n.toNat=k at*;obtain⟨s1,s2,s3⟩:=zf h hm hlt;obtain⟨t1,t2⟩:=hW.tk h;have htk:=hi.tag k hlt;have hw:(zH zJ (zH zI (s.p+1))::seg s.W (c.off 1) c.X.length).length=c.X.length+1:=by simp[l1]
  have hnew:=aj4 (c:=c) (W:=s.W) (k:=k) (w:=zH zJ (zH zI (s.p+1))::seg s.W (c.off 1) c.X.length) (by omega) hw
  have hv:(zH zJ (zH zI (s.p+1))::seg s.W (c.off 1) c.X.length).getD 0 0=s.p+1:=by
   show zH zJ (zH zI (s.p+1))=_;rw[ad (by omega),cc (by omega)]
  rw[hv]at hnew;have hold: ∀j,j≠k->jq c (put s.W (sp c k) (zH zJ (zH zI (s.p+1))::seg s.W (c.off 1) c.X.length)) j=jq c s.W j:=λj hj=>bK6 (by omega) hw hj
  have hmore:=cg9 h hi (cg0 hlt (by omega))
  have hu:ld c (put s.W (sp c k) (zH zJ (zH zI (s.p+1))::seg s.W (c.off 1) c.X.length))=ld c s.W+1:=by
   unfold ld;exact aZ2 hlt (zA (by omega)) (zB (by rw[hnew];omega)) λj _ hj=>by rw[hold j hj]
  refine⟨hW.put h (by omega),hL,hp,hq,λj hj=> ?_, ?_, ?_⟩
  .by_cases hjk:j=k
   .subst hjk;rw[hnew];show 0<=s.p+1/\s.p+1<=s.L+1;omega
   .rw[hold j hjk];exact hi.tag j hj
  .show s.lv+c.sl=c.fixed+c.sl*((ld c (put s.W (sp c k) _):Nat):Int);rw[hu,hi.lv];rw[show(((ld c s.W+1:Nat)):Int)=(ld c s.W:Int)+1 by omega,Int.mul_add,Int.mul_one,Int.add_assoc]
  .show s.lv+c.sl<=max s.pk (s.lv+c.sl)/\max s.pk (s.lv+c.sl)<=c.words;omega
 .have hlt:=slot (by omega);simp only[aB,reduceIte];by_cases h5:jq c s.W n.toNat-1<0
  .rw[zE h5];exact hi
  rw[zF h5];obtain⟨s1,s2,s3⟩:=zf h hm hlt;obtain⟨t1,t2⟩:=hW.tk h;have htk:=hi.tag _ hlt;have l2:(seg s.W (sp c n.toNat+1) c.X.length).length=c.X.length:=eb (by omega);have h1o:=kl (c:=c) (i:=1) (j:=9) (by omega);have z1:c.sz 1=c.X.length:=rfl;exact aZ9 hi (hW.put h (by rw[l2];omega)) (gg.put h (gg.refl s.W) hW (i:=1) (by omega) (by rw[l2];exact dD _)) rfl ⟨by show 0<=jq c s.W n.toNat-1;omega,by show jq c s.W n.toNat-1<=s.L;omega⟩ hq rfl ⟨Int.le_refl _,hpk.2⟩
 .have hlt:=slot (by omega);simp only[aB,reduceIte];by_cases h5:jq c s.W n.toNat-1<0
  .rw[zE h5];exact hi
  rw[zF h5];generalize n.toNat=k at*;obtain⟨s1,s2,s3⟩:=zf h hm hlt;obtain⟨t1,t2⟩:=hW.tk h;have htk:=hi.tag k hlt;have hw:(gx (c.X.length+1)).length=c.X.length+1:=cn _;have hnew:=aj4 (c:=c) (W:=s.W) (k:=k) (w:=gx (c.X.length+1)) (by omega) hw;have hv:(gx (c.X.length+1)).getD 0 0=0:=rfl;rw[hv]at hnew;have hold: ∀j,j≠k->jq c (put s.W (sp c k) (gx (c.X.length+1))) j=jq c s.W j:=λj hj=>bK6 (by omega) hw hj
  have hu:ld c s.W=ld c (put s.W (sp c k) (gx (c.X.length+1)))+1:=by
   unfold ld;exact aZ2 hlt (zA (by omega)) (zB (by omega)) λj _ hj=>by rw[hold j hj]
  refine⟨hW.put h (by omega),hL,hp,hq,λj hj=> ?_, ?_, ?_⟩
  .by_cases hjk:j=k
   .subst hjk;rw[hnew];show(0:Int)<=0/\0<=s.L+1;omega
   .rw[hold j hjk];exact hi.tag j hj
  .show s.lv-c.sl=c.fixed+c.sl*((ld c (put s.W (sp c k) (gx (c.X.length+1))):Nat):Int);rw[hi.lv,hu];rw[show(((ld c (put s.W (sp c k) (gx (c.X.length+1)))+1:Nat)):Int)=(ld c (put s.W (sp c k) (gx (c.X.length+1))):Int)+1 by omega,Int.mul_add,Int.mul_one];omega
  .show s.lv-c.sl<=s.pk/\s.pk<=c.words;omega
 .simp only[aB,reduceIte];by_cases h5:s.q≠ -1
  .rw[zE h5];exact hi
  rw[zF h5];by_cases h6:s.p≠s.L
  .rw[zE h6];exact hi
  rw[zF h6];exact aZ9 hi (aL1 h hW l1).2 (cs0 h hW l1) rfl hp ⟨by show-1<=s.p;omega,hp.2⟩ rfl ⟨cB _ _,by show max s.pk (s.lv+(c.fk.n:Int))<=c.words;omega⟩
 .simp only[aB,reduceIte];by_cases h5:s.q≠ -1
  .rw[zE h5];exact hi
  rw[zF h5];by_cases h6:s.p≠s.L-1
  .rw[zE h6];exact hi
  rw[zF h6];exact aZ9 hi (bS9 h hW s.p).2 (bS9 h hW s.p).1 rfl hp ⟨by show-1<=s.p;omega,hp.2⟩ rfl ⟨cB _ _,by show max s.pk (s.lv+((c.fl.n:Int)+c.fk.n))<=c.words;omega⟩
 .simp only[aB,reduceIte];by_cases h5:s.q<=0
  .rw[zE h5];exact hi
  rw[zF h5];by_cases h6:s.p≠s.q-1
  .rw[zE h6];exact hi
  rw[zF h6];exact aZ9 hi (cs1 h hW s.p).2 (cs1 h hW s.p).1 rfl hp ⟨by show-1<=s.p;omega,hp.2⟩ rfl ⟨cB _ _,by show max s.pk (s.lv+(c.fl.n:Int))<=c.words;omega⟩
theorem dB0 {s:Dy}{B:Int}(hc:Cnt B s)(a n:Int):Cnt (B+65536) (doF c a n s).2:=by
 have key:Cnt (B+65536) s:=by unfold Cnt at hc⊢;omega
 unfold doF;by_cases h1:ol a n=Zb∨7<a
 .rw[zE h1];exact key
 rw[zF h1];obtain⟨h2,hk⟩:=aM4 h1;split
 .exact key
 split
 .rename_i ha;have hn:=aM5 h2 (by omega);split
  .exact key
  .unfold Cnt at hc⊢;simp only;omega
 repeat' split
 all_goals first|exact key|(unfold Cnt at hc⊢;simp only;omega)
end
end
section
open Nat renaming add_sub_cancel_left -> aB, le_add_right -> aD
theorem da2 {t r:Zd}{j:Nat}(h:j<t.length):(t++r)[0+j]?=Y (rg t (j:Int)):=by
 rw[Nat.zero_add,List.getElem?_append_left h,mn h]
theorem by0 {t r:Zd}{j:Nat}(h:j<r.length):(t++r)[t.length+j]?=Y (rg r (j:Int)):=by
 rw[List.getElem?_append_right (aD _ _),aB,mn h]
theorem da3 {t r:Zd}{j:Nat}{v:Int}:(t++r).set (t.length+j) v=t++r.set j v:=by
 rw[List.set_append_right _ _ (aD _ _),aB]
def stK (t:Zd)(p d:Nat)(l:Nat->Int)(s:BS):Int×Int×Int×(Zd)×(Zd)×Int×Int×Int×Int×Int×Int×Int×Int:=
 ((p:Int)-1,(d:Int),(s.2.2:Int),t++s.1,s.2.1,l 0,l 1,l 2,l 3,l 4,l 5,l 6,l 7)
theorem dO7 {code:List ae3}(hc:code.length<=8192){R:Int}(hR:1<=R/\R<=64){t w:Zd}{e0 e1:Int}(hN:t.length<=1000000)(hw:w.length=t.length+R.toNat):Backs (cw R (e0,w) (e1,code)) code (stK t) (cQ9 t) (VdB R.toNat t.length) (inR R.toNat)where
 op:=by
  intro p d l s m o to h hg hk hd hv;obtain⟨h1,h2⟩:=qh hc h;obtain⟨v1,v2,v3,v4⟩:=hv;obtain⟨q1,q2⟩:=cE3 o s.1 s.2.1 (rg t ((s.2.2-1:Nat):Int));refine⟨?_,by unfold cQ9;exact⟨by simp[v1,q1],by simp[v2,q2],by show m<=s.2.2-1;omega,by show s.2.2-1<=_;omega⟩⟩;obtain⟨kd,ka,kb,e1,e2,e3,g1,g2,g3⟩:=bJ8 hg;unfold stK cQ9;simp only[cw];rw[show((p+1:Nat):Int)-1=(p:Int)by omega,zA (by omega),zD,h2];simp only[zG];rw[h];simp only[zG,bw];rw[zA (by omega),zD,zA (by omega),zD];simp only[aO7,zG];rw[ad (n:=(s.2.2:Int)-1) (by omega),show(s.2.2:Int)-1=((s.2.2-1:Nat):Int)by omega,ad (n:=(w.length:Int)-R) (by omega),show((w.length:Int)-R).toNat=t.length by omega,show((w.length:Int)).toNat-t.length=R.toNat by omega,Nat.sub_zero];have hn:s.2.2-1<t.length:=by omega
  generalize s.2.2-1=n at*;unfold cE2;simp only[e1,e2,e3,Int.toNat_natCast];rw[bp (show kd<s.2.1.length by omega)];simp only[zG];rw[mn (show kd<s.2.1.length by omega)];simp only[zG];rw[bp hn];simp only[zG];rw[da2 hn];simp only[zG];rw[bp g1];simp only[zG];rw[by0 (show kd<s.1.length by omega)];simp only[zG];rw[bp g2];simp only[zG];rw[da3];have hr1: ∀x:Int,(s.1.set kd x).length=s.1.length:=by simp
  have ha1:(s.2.1.set kd 0).length=s.2.1.length:=by simp
  rw[by0 (show ka<(s.1.set kd (rg t (n:Int))).length by rw[hr1];omega)];simp only[zG];rw[bp g3];simp only[zG];rw[by0 (show kb<(s.1.set kd (rg t (n:Int))).length by rw[hr1];omega)];simp only[zG];rw[bp (show ka<(s.2.1.set kd 0).length by omega)];simp only[zG];rw[mn (show ka<(s.2.1.set kd 0).length by omega)];simp only[zG];generalize hP:par o _ _=P;generalize hA:(s.2.1.set kd 0).set ka _=A2;have hA2:A2.length=s.2.1.length:=by rw[<-hA];simp
  rw[bp (show kb<A2.length by omega)];simp only[zG];rw[mn (show kb<A2.length by omega)];simp only[zG];rw[ad (n:=(p:Int)-1) (by omega)]
 rep:=by
  intro p q d l s m o e to h hk h' hd hv;obtain⟨h1,h2⟩:=qh hc h;obtain⟨h3,h4⟩:=qh hc h';unfold stK;simp only[cw];rw[show((p+1:Nat):Int)-1=(p:Int)by omega,zA (by omega),zD,h2];simp only[zG];rw[h];simp only[zG,bw];rw[zB hk,zC,ad (n:=((q+1:Nat):Int)-1) (by omega),show((q+1:Nat):Int)-1=(q:Int)by omega,h4];simp only[zG];rw[h'];simp only[zG,bw];rw[bp hd];simp only[zG];rw[ad (n:=(p:Int)-1) (by omega),ad (n:=(d:Int)+1) (by omega)];rfl
 nxt:=by
  intro p d l s m o to h hto hk hd hl hl2 hv;obtain⟨h1,h2⟩:=qh hc h;have h8:=ah0 (upd l d (l d-1)) hd;rw[ue]at h8;unfold upd at h8;unfold stK;simp only[cw];rw[show((p+1:Nat):Int)-1=(p:Int)by omega,zA (by omega),zD,h2];simp only[zG];rw[h];simp only[zG,bw];rw[zA (by omega),zD,zB hk,zC,ad (n:=((d+1:Nat):Int)-1) (by omega),show((d+1:Nat):Int)-1=(d:Int)by omega,bp hd];simp only[zG];rw[ah0 l hd,cc (by omega),h8,zB (by omega),zC];rw[ad (n:=((to+1:Nat):Int)-2) (by omega),show((to+1:Nat):Int)-2=(to:Int)-1 by omega];rfl
 out:=by
  intro p d l s m o to h hk hd hl hv;obtain⟨h1,h2⟩:=qh hc h;have h8:=ah0 (upd l d (l d-1)) hd;rw[ue]at h8;unfold upd at h8;unfold stK;simp only[cw];rw[show((p+1:Nat):Int)-1=(p:Int)by omega,zA (by omega),zD,h2];simp only[zG];rw[h];simp only[zG,bw];rw[zA (by omega),zD,zB hk,zC,ad (n:=((d+1:Nat):Int)-1) (by omega),show((d+1:Nat):Int)-1=(d:Int)by omega,bp hd];simp only[zG];rw[ah0 l hd,cc (by omega),h8,zA (by omega),zD,ad (n:=(p:Int)-1) (by omega)];rfl
section
variable {R:Int} {l:List cd} {f:Fo}
theorem cP0 (h:Prg R l f){r a t w:Zd}{e0 e1:Int}(hr:r.length=R.toNat)(ha:a.length=R.toNat)(ht:f.n<=t.length)(ht2:t.length<=1000000)(hw:w.length=t.length+R.toNat):
  ∃b0 b1 b2 b3 b4 b5 b6 b7,ap (cw R (e0,w) (e1,f.bare.code 0)) fy (IntKind.i64.wrap (((f.bare.code 0).length:Int)-1),0,(f.n:Int),t++r,a,0,0,0,0,0,0,0,0)=Y (t++(pp f r a t).1,(pp f r a t).2.1,b0,b1,b2,b3,b4,b5,b6,b7):=by
 obtain⟨l',_,h2,h3⟩:=br5 (m:=0) (l:=λ_=>0) (s:=((r,a,f.n):BS)) (d:=0) (p:=0) (A:=[]) (B:=[]) (bP8 (dO7 (e0:=e0) (e1:=e1) (t:=t) h.clen h.R1 ht2 hw)) f.bare (by simp) rfl (Fo.bare_ok f h.ok) f.bare_pos h.hi h.good ⟨hr,ha,by rw[Fo.bare_n];exact Nat.le_refl _,ht⟩;rw[Fo.bare_unroll]at h2 h3;have hl:=h.clen;rw[Fo.code_len]at hl
 have:=bf5 h2 h.steps (c:=(t++(pp f r a t).1,(pp f r a t).2.1,l' 0,l' 1,l' 2,l' 3,l' 4,l' 5,l' 6,l' 7)) (by
  unfold stK;simp only[cw];rw[zB (by omega),zC]
  rfl)
 have e:stK t (0+f.bare.len) 0 (λ_=>0) ((r,a,f.n):BS)=(IntKind.i64.wrap (((f.bare.code 0).length:Int)-1),0,(f.n:Int),t++r,a,0,0,0,0,0,0,0,0):=by
  unfold stK;rw[Fo.code_len,ad (by omega),Nat.zero_add];rfl
 rw[e]at this;exact⟨_,_,_,_,_,_,_,_,this⟩
end
end
section
open Bool renaming not_true -> aB
open Int renaming toNat_of_nonneg -> aD, mul_le_mul_of_nonneg_left -> bB
open List renaming length_append -> bD, length_take -> cB
section
variable {c:Cx}
def aq0 (c:Cx)(i:Nat):Nat:=c.off 8+i*c.sl.toNat
def nz (s:Dy):Int:=if s.q<0 then s.p else s.q
structure InvB (c:Cx)(s:Dy):Prop where
 w:Wd c s.W
 L:s.L=c.len
 p:0<=s.p/\s.p<=s.L
 q: -1<=s.q/\s.q<=s.L
 qp:0<=s.q->s.p=s.q
 lv:s.lv=c.fixed+c.sl*nz s
 pk:s.lv<=s.pk/\s.pk<=c.words
def ad4 (c:Cx)(W:Zd)(i:Nat):Zd:=seg W (aq0 c i) c.fl.n
def au6 (c:Cx)(W:Zd)(i:Nat):Zd:=seg W (aq0 c i+c.fl.n) c.R.toNat
def bP7 (c:Cx)(W:Zd)(i:Nat):BS:=pp c.fl (au6 c W i) (fill c.R (seg W (c.off 5) c.X.length)) (ad4 c W i)
def plF (c:Cx)(a n:Int)(s:Dy):Int×Dy:=
 if a=8 then(if n≠0 then(2,s)else if 0<=s.q then(18,s)else if s.p=s.L then(17,s)else
  (0,{s with p:=s.p+1,c1:=s.c1+1,lv:=s.lv+c.sl,pk:=max s.pk (s.lv+c.sl),W:=put (put (put s.W (c.off 2) (stepR c s.W s.p).1) (aq0 c s.p.toNat) ((stepR c s.W s.p).2.1++(stepR c s.W s.p).1)) (c.off 1) ((stepR c s.W s.p).1.take c.X.length)}))
 else if a=5 then(if n≠0 then(2,s)else if 0<=s.q then(18,s)else if s.p≠s.L then(17,s)else
  (0,{s with q:=s.L,c2:=s.c2+1,c3:=s.c3+1,z:=rg (lossR c s.W (seg s.W (c.off 1) c.X.length)).1 0,pk:=max s.pk (s.lv+c.fk.n),W:=cq7 c s.W (seg s.W (c.off 1) c.X.length)}))
 else if a=9 then(if n≠0 then(2,s)else if s.q<1 then(18,s)else
  (0,{s with p:=s.q-1,q:=s.q-1,c3:=s.c3+1,lv:=s.lv-c.sl,W:=put (aY8 c s.W (bP7 c s.W (s.q-1).toNat).2.1) (c.off 1) ((bP7 c s.W (s.q-1).toNat).1.take c.X.length)}))
 else(2,s)
theorem bb2 (h:c.Ok)(hm:c.mode=3){i:Nat}(hi:i<c.ns.toNat):c.sl.toNat=c.fl.n+c.R.toNat/\c.sl=(c.fl.n:Int)+c.R/\aq0 c i+c.sl.toNat<=c.off 9/\c.off 8<=aq0 c i:=by
 have n:=h.num;have hsl:=n.sl;rw[zE hm]at hsl;have hns:=h.ns;have nR:=n.R
 have e:(c.sl*c.ns).toNat=c.ns.toNat*c.sl.toNat:=by
  have:c.sl*c.ns=((c.ns.toNat*c.sl.toNat:Nat):Int):=by
   rw[Int.natCast_mul,aD hns.1,aD (by omega),Int.mul_comm]
  rw[this];rfl
 have h9:c.off 9=c.off 8+c.ns.toNat*c.sl.toNat:=by rw[cd2,e]
 have h1:(i+1)*c.sl.toNat<=c.ns.toNat*c.sl.toNat:=Nat.mul_le_mul_right _ hi;rw[Nat.succ_mul]at h1;unfold aq0;omega
theorem cG2 (h:c.Ok)(hm:c.mode=3){i:Nat}(hi:i<c.ns.toNat){a0 a1 a4 a5 a6 a7 a8 a9 a10 a11 a12 a13 a14 a15 a16 a17:Int}{X T:Zd}{l k:List cd}{b0 b1 b2 b3:Int}{W:Zd}:md (i:Int) a0 a1 c.sl a4 a5 a6 a7 a8 a9 a10 a11 a12 a13 a14 a15 a16 a17 X T l k c.P b0 b1 b2 b3 W=Y (aq0 c i:Int):=by
 obtain⟨h1,h2,h3,h4⟩:=bb2 h hm hi;have h5:=h.off9_le;have n:=h.num;have h6:=n.words;have nR:=n.R;unfold md;rw[show ix 8 c.P.length=Y 8 from bp (k:=8) (by rw[Cx.P_len];omega)];simp only[zG];rw[Cx.P_get (show 8<10 by omega)];simp only[zG];have e:(i:Int)*c.sl=((i*c.sl.toNat:Nat):Int):=by rw[Int.natCast_mul,aD (by omega)]
 unfold aq0 at h3;rw[e,ad (n:=((i*c.sl.toNat:Nat):Int)) (by omega),ad (by omega)];unfold aq0
 congr 1
theorem cN8 (h:c.Ok)(hm:c.mode=3){s:Dy}(hi:InvB c s):0<=s.lv/\s.lv+c.tp<=c.words/\c.words<=1048576/\0<=c.tp/\(nz s<c.ns->s.lv+c.sl<=c.words)/\(0<nz s->c.sl<=s.lv)/\c.ns=s.L:=by
 have n:=h.num;have h1:=hi.lv;have h3:=h.fit;have h4:=n.fixed;have h5:=h.ns;have h6:=n.sl;rw[zE hm]at h6;have nR:=n.R;have nQ:=n.Q;have nw:=n.words;have hb:=h.base hm;have hL:=hi.L;have hp:=hi.p;have hq:=hi.q;have hh:0<=nz s/\nz s<=c.ns:=by unfold nz;split<;>omega
 have h7:1<=c.sl:=by omega
 have h8:c.sl*nz s<=c.sl*c.ns:=bB hh.2 (by omega);have h9:0<=c.sl*nz s:=Int.mul_nonneg (by omega) hh.1;have h10:0<=c.tp:=by rw[n.tp];split<;>omega
 refine⟨by omega,by omega,by omega,h10,λhlt=> ?_,λhpos=> ?_,by omega⟩
 .have h8:c.sl*(nz s+1)<=c.sl*c.ns:=bB (by omega) (by omega);rw[Int.mul_add,Int.mul_one]at h8;omega
 .have h8:c.sl*1<=c.sl*nz s:=bB (by omega) (by omega);omega
theorem bD3 (h:c.Ok)(hm:c.mode=3){W:Zd}(hW:Wd c W){i:Nat}(hi:i<c.ns.toNat):
  seg W (aq0 c i) c.sl.toNat=ad4 c W i++au6 c W i/\(ad4 c W i).length=c.fl.n/\(au6 c W i).length=c.R.toNat/\(fill c.R (seg W (c.off 5) c.X.length)).length=c.R.toNat/\(bP7 c W i).1.length=c.R.toNat/\(bP7 c W i).2.1.length=c.R.toNat:=by
 obtain⟨h1,h2,h3,h4⟩:=bb2 h hm hi;obtain⟨t1,t2⟩:=hW.tk h;have n:=h.num;have nR:=n.R;have n1:=n.xtR;have nn:=n.n;have l5:(seg W (c.off 5) c.X.length).length=c.X.length:=eb (hW.in' h (i:=5) (by omega));have e1:(ad4 c W i).length=c.fl.n:=eb (by omega);have e2:(au6 c W i).length=c.R.toNat:=eb (by omega);have e3:(fill c.R (seg W (c.off 5) c.X.length)).length=c.R.toNat:=vi (by omega);obtain⟨_,r2,r3⟩:=vl h.pl e2 e3 (t:=ad4 c W i) (Nat.le_of_eq e1.symm) (by omega);refine⟨?_,e1,e2,e3,r2,r3⟩;apply List.ext_getElem?;intro j;rw[au7];by_cases hj:j<c.fl.n
 .rw[zE (by omega),List.getElem?_append_left (by omega)];unfold ad4;rw[au7,zE hj]
 .rw[List.getElem?_append_right (by omega),e1];unfold au6;rw[au7];by_cases hj2:j<c.sl.toNat
  .rw[zE hj2,zE (by omega)]
   congr 1
   omega
  .rw[zF hj2,zF (by omega)]
theorem plain1 (h:c.Ok)(hm:c.mode=3){s:Dy}(hi:InvB c s){B:Int}(hc:Cnt B s)(hB:B<=2305843009213693952){a n:Int}:
  rb a n c.fixed c.tp c.sl c.ns c.mode c.R c.Q c.len c.words s.L s.p s.q s.c0 s.c1 s.c2 s.c3 s.z c.X c.T c.l c.k c.P c.tk s.lv s.pk c.words s.W=Y (dP6 c (plF c a n s)):=by
 have nm:=h.num;have hW:=hi.w;have hL:=hi.L;have hp:=hi.p;have hq:=hi.q;have hpk:=hi.pk;have hns:=h.ns;have nR:=nm.R;have n1:=nm.xtR;have nx:=nm.x;have nt:=nm.t;have nn:=nm.n;have nlen:=nm.len;obtain⟨k0,k1,k2,k3⟩:=hc.in' hB;obtain⟨g1,g2,g3,g4,g5,g6,g7⟩:=cN8 h hm hi;have htp:=nm.tp;rw[zE hm]at htp;obtain⟨t1,t2⟩:=hW.tk h;unfold rb plF;by_cases a8:a=8
 .subst a8;rw[zB (show(8:Int)=8 from rfl),zA (show¬(8:Int)=5 by decide)];simp only[zC,zG,aB,zD,reduceIte];by_cases hn:n≠0
  .rw[zE hn,zB hn];rfl
  rw[zF hn,zA hn];simp only[zD,zG];by_cases hq0:0<=s.q
  .rw[zE hq0,zB hq0];rfl
  rw[zF hq0,zA hq0];simp only[zD,zG];by_cases hpl:s.p=s.L
  .rw[zE hpl,zB hpl];rfl
  rw[zF hpl,zA hpl];simp only[BEq.rfl,aB,zD,zG,bg];have hheld:nz s=s.p:=by unfold nz;rw[zE (by omega)]
  have hlt:s.p.toNat<c.ns.toNat:=by omega
  have ep:s.p=((s.p.toNat:Nat):Int):=by omega
  obtain⟨s1,s2,s3,s4⟩:=bb2 h hm hlt;obtain⟨f1,f2,f3⟩:=kj h hW s.p;have w1:=ak4 h hW s.p;have hbd:=g5 (by rw[hheld];omega);rw[vj (by omega) g1 hbd (by omega)];simp only[zG];rw[dT6 h hW];simp only[zG];have hse:=cG2 h hm hlt (a0:=c.fixed) (a1:=c.tp) (a4:=c.ns) (a5:=c.mode) (a6:=c.R) (a7:=c.Q) (a8:=c.len) (a9:=c.words) (a10:=s.L) (a11:=s.p) (a12:=s.q) (a13:=s.c0) (a14:=IntKind.i64.wrap (s.c1+1)) (a15:=s.c2) (a16:=s.c3) (a17:=s.z) (X:=c.X) (T:=c.T) (l:=c.l) (k:=c.k) (b0:=c.tk) (b1:=s.lv+c.sl) (b2:=max s.pk (s.lv+c.sl)) (b3:=c.words) (W:=put s.W (c.off 2) (stepR c s.W s.p).1);rw[<-ep]at hse;rw[hse];simp only[zG];have hla:((stepR c s.W s.p).2.1++(stepR c s.W s.p).1).length=c.sl.toNat:=by rw[bD];omega
  rw[ck (by omega) (by omega)];obtain⟨u1,u2⟩:=w1.tk h;unfold Cx.tk;rw[xn (by rw[hla];exact s3) u1 u2];simp only[zG];rw[nb (by omega),cm,show((c.X.length:Int)).toNat-0=c.X.length by omega,List.drop_zero,show((c.off 9:Nat):Int)=c.tk from rfl,put1 (ii:=1) (i:=1) h (w1.put h (by rw[hla];exact s3)) rfl (by omega) (by rw[cB,show c.sz 1=c.X.length from rfl];omega)];simp only[zG];rw[ad (n:=s.p+1) (by omega),ad (n:=s.c1+1) (by omega)];rfl
 rw[zA a8,zF a8];simp only[zD,zG];by_cases a5:a=5
 .subst a5;rw[zB (show(5:Int)=5 from rfl)];simp only[zC,aB,zD,reduceIte];by_cases hn:n≠0
  .rw[zE hn,zB hn];rfl
  rw[zF hn,zA hn];simp only[zD,zG];by_cases hq0:0<=s.q
  .rw[zE hq0,zB hq0];rfl
  rw[zF hq0,zA hq0];simp only[zD,zG];by_cases hpl:s.p≠s.L
  .rw[zE hpl,zA hpl];rfl
  rw[zF hpl,zB (show s.p=s.L by omega)];simp only[BEq.rfl,aB,zD,zG,bg];rw[ea5 h hW g1 hpk.1 (by omega) g3];simp only[zG];rw[ad (n:=s.c2+1) (by omega),ad (n:=s.c3+1) (by omega)];rfl
 rw[zA a5,zF a5];simp only[zD,Bool.not_false,zC];by_cases a9:a=9
 .subst a9;rw[zA (show¬((9:Int)≠9)from λk=>k rfl)];simp only[reduceIte];by_cases hn:n≠0
  .rw[zE hn,zB hn];rfl
  rw[zF hn,zA hn];simp only[zD,zG];by_cases hq1:s.q<1
  .rw[zE hq1,zB hq1];rfl
  rw[zF hq1,zA hq1];simp only[zD,zG,bg];have hheld:nz s=s.q:=by unfold nz;rw[zF (by omega)]
  have hlt:(s.q-1).toNat<c.ns.toNat:=by omega
  have ep:s.q-1=(((s.q-1).toNat:Nat):Int):=by omega
  obtain⟨s1,s2,s3,s4⟩:=bb2 h hm hlt;obtain⟨b1,b2,b3,b4,b5,b6⟩:=bD3 h hm hW hlt;rw[ad (n:=s.q-1) (by omega)];have hse:=cG2 h hm hlt (a0:=c.fixed) (a1:=c.tp) (a4:=c.ns) (a5:=c.mode) (a6:=c.R) (a7:=c.Q) (a8:=c.len) (a9:=c.words) (a10:=s.L) (a11:=s.q-1) (a12:=s.q-1) (a13:=s.c0) (a14:=s.c1) (a15:=s.c2) (a16:=s.c3) (a17:=s.z) (X:=c.X) (T:=c.T) (l:=c.l) (k:=c.k) (b0:=c.tk) (b1:=s.lv) (b2:=s.pk) (b3:=c.words) (W:=s.W);rw[<-ep]at hse;rw[hse];simp only[zG]
  have hrd:co (aq0 c (s.q-1).toNat:Int) c.sl c.tk s.W=Y (0,ad4 c s.W (s.q-1).toNat++au6 c s.W (s.q-1).toNat):=by
   have:=an9 (W:=s.W) (o:=aq0 c (s.q-1).toNat) (n:=c.sl.toNat) s3 t1 t2;rw[aD (by omega),b1]at this;exact this
  rw[hrd];simp only[zG];generalize (s.q-1).toNat=i at*;have hlen:(ad4 c s.W i++au6 c s.W i).length=c.fl.n+c.R.toNat:=by rw[bD];omega
  have hwr:IntKind.i64.wrap (((ad4 c s.W i++au6 c s.W i).length:Int)-c.R)=(c.fl.n:Int):=by rw[hlen,ad (by omega)];omega
  simp only[hwr];rw[nb (by omega),cm,nb (by omega),cm,cB4 (ii:=5) (i:=5) h hW rfl (by omega)];simp only[zG];have l5:(seg s.W (c.off 5) c.X.length).length=c.X.length:=eb (hW.in' h (i:=5) (by omega));rw[show c.sz 5=c.X.length from rfl,bK9 nR (by omega)];simp only[zG];rw[be4 h.pl,h.pl.writes];simp only[zG];rw[zA (show¬((0:Int)≠0)by simp),zD];rw[zA (show¬((((((ad4 c s.W i++au6 c s.W i).length:Int)).toNat-((c.fl.n:Int)).toNat:Nat):Int)≠c.R)by omega),zD,zA (show¬(((fill c.R (seg s.W (c.off 5) c.X.length)).length:Int)≠c.R)by omega),zD,zA (show¬(((((c.fl.n:Int)).toNat-0:Nat):Int)<(c.fl.n:Int))by omega),zD];obtain⟨z0,z1,z2,z3,z4,z5,z6,z7,hz⟩:=cP0 h.pl (e0:=0) (e1:=0) (t:=ad4 c s.W i) (r:=au6 c s.W i) (a:=fill c.R (seg s.W (c.off 5) c.X.length)) (w:=ad4 c s.W i++au6 c s.W i) b3 b4 (Nat.le_of_eq b2.symm) (by omega) (by rw[hlen,b2])
  rw[hz];simp only[zG];have eK:pp c.fl (au6 c s.W i) (fill c.R (seg s.W (c.off 5) c.X.length)) (ad4 c s.W i)=bP7 c s.W i:=rfl;rw[eK];generalize bP7 c s.W i=q1 at*;obtain⟨v1,v2,v3⟩:=td h (a:=q1.2.1) hW (by omega) (by omega);rw[put1 (ii:=4) (i:=4) h hW rfl (by omega) (by rw[show c.sz 4=max c.R.toNat c.Q.toNat from rfl];omega)];simp only[zG];rw[nb (by omega),cm,show((c.X.length:Int)).toNat-0=c.X.length by omega,List.drop_zero,put1 (ii:=5) (i:=5) h v1 rfl (by omega) (by rw[cB,show c.sz 5=c.X.length from rfl];omega)];simp only[zG];rw[cB4 (ii:=6) (i:=6) h v2 rfl (by omega)];simp only[zG];rw[show c.sz 6=c.T.length from rfl];have hg:(seg (put (put s.W (c.off 4) q1.2.1) (c.off 5) (q1.2.1.take c.X.length)) (c.off 6) c.T.length).length=c.T.length:=eb (v2.in' h (i:=6) (by omega));rw[br1 (f:=w5 c.X q1.2.1 _) (X:=c.X) (a:=q1.2.1) (g:=seg (put (put s.W (c.off 4) q1.2.1) (c.off 5) (q1.2.1.take c.X.length)) (c.off 6) c.T.length) (by omega) (by omega) (by omega) (λs=>rfl)]
  simp only[zG];rw[put1 (ii:=6) (i:=6) h v2 rfl (by omega) (by rw[aC2,hg];exact Nat.le_refl _)];simp only[zG];have hlen2:(ad4 c s.W i++q1.1).length=c.fl.n+c.R.toNat:=by rw[bD];omega
  rw[ad (n:=(c.fl.n:Int)+(c.X.length:Int)) (by omega),nb (by omega),cm,show((c.fl.n:Int)+(c.X.length:Int)).toNat-((c.fl.n:Int)).toNat=c.X.length by omega,Int.toNat_natCast];have hdr:(ad4 c s.W i++q1.1).drop c.fl.n=q1.1:=List.drop_left' b2;rw[hdr];have eB:put (put (put s.W (c.off 4) q1.2.1) (c.off 5) (q1.2.1.take c.X.length)) (c.off 6) (cK4 c.X.length (seg (put (put s.W (c.off 4) q1.2.1) (c.off 5) (q1.2.1.take c.X.length)) (c.off 6) c.T.length) q1.2.1)=aY8 c s.W q1.2.1:=rfl;rw[eB,put1 (ii:=1) (i:=1) h v3 rfl (by omega) (by rw[cB,show c.sz 1=c.X.length from rfl];omega)];simp only[zG];rw[zx (by omega) (g6 (by rw[hheld];omega)) hpk.1 (by omega)];simp only[zG];rw[ad (n:=s.c3+1) (by omega)];rfl
 rw[zF a9,zB a9];by_cases hn:n≠0
 .rw[zB hn];rfl
 .rw[zA hn];rfl
theorem do1 (h:c.Ok)(hm:c.mode=3){s:Dy}(hi:InvB c s){B:Int}(hc:Cnt B s)(hB:B<=2305843009213693952){a n:Int}:
  uA a n c.fixed c.tp c.sl c.ns c.mode c.R c.Q c.len c.words s.L s.p s.q s.c0 s.c1 s.c2 s.c3 s.z c.X c.T c.l c.k c.P c.tk s.lv s.pk c.words s.W=Y (dP6 c (plF c a n s)):=by
 unfold uA gi;simp only[zG];rw[zB hm,zC,plain1 h hm hi hc hB];rfl
end
end
section
open Int renaming le_refl -> aB, mul_comm -> bB
open List renaming getElem?_replicate -> cB
open Nat renaming le_refl -> aD, zero_add -> bD
theorem de9 {m:Int}{x t:Nat}{R:Int}{l:List cd}{Q:Int}{k:List cd}{n b:Int}(hl:OpsOk l)(hk:OpsOk k)(h:(ke m x t R l Q k n b).2.2.2.2=0):
  aD0 m x t R l Q k n b=0/\∃ns,ke m x t R l Q k n b=(ac5 x t R Q,yB m l k,yA m x R l,ns,0)/\(0<=ns/\ns<=1048576)/\ac5 x t R Q+yB m l k+yA m x R l*ns<=b/\(m=3->ns=n):=by
 unfold ke at h⊢;by_cases hc:aD0 m x t R l Q k n b≠0
 .rw[zE hc]at h;exact(hc h).elim
 rw[zF hc]at h⊢;have hc:aD0 m x t R l Q k n b=0:=by omega
 have s:=cu1 hl hk hc;have f:=bS4 hl hk hc;have g1:=f.mode;have g2:=f.len;have g3:=f.bud;have g4:=s.xs;have g5:=s.ts;have g6:=s.r;have g7:=s.r';have g8:=s.tp;have g9:=s.sl;have hfx:0<=ac5 x t R Q/\ac5 x t R Q<=1000:=by unfold ac5;omega
 split at h
 .cases h
 rename_i c;rw[zF c];refine⟨hc,_,rfl, ?_, ?_,λh3=>zE h3⟩
 .split
  .omega
  .rename_i c3;unfold least at c;rw[zF c3]at c;have hd2:(b-ac5 x t R Q-yB m l k) / yA m x R l<=b-ac5 x t R Q-yB m l k:=Int.ediv_le_self _ (by omega);have hd1:0<=(b-ac5 x t R Q-yB m l k) / yA m x R l:=Int.ediv_nonneg (by omega) (by omega);omega
 .unfold least at c;split
  .rename_i c3;rw[zE c3,bB]at c;omega
  .rename_i c3;rw[zF c3]at c;have:=Int.mul_ediv_self_le (x:=b-ac5 x t R Q-yB m l k) (k:=yA m x R l) (by omega);omega
theorem em3 {m:Int}{X T:Zd}{R:Int}{l:List cd}{Q:Int}{k:List cd}{n b:Int}(hl:OpsOk l)(hk:OpsOk k)(h:(ke m X.length T.length R l Q k n b).2.2.2.2=0):
  ∃c:Cx,c.Ok/\c.mode=m/\c.X=X/\c.T=T/\c.R=R/\c.l=l/\c.Q=Q/\c.k=k/\c.len=n/\c.words=b/\ke m X.length T.length R l Q k n b=(c.fixed,c.tp,c.sl,c.ns,0):=by
 obtain⟨hc,ns,h1,h2,h3,h4⟩:=de9 hl hk h;obtain⟨h5,h6⟩:=de7 (bz5 hc).1;obtain⟨fl,hfl⟩:=dr9 hl h5;obtain⟨fk,hfk⟩:=dr9 hk h6;exact⟨⟨m,R,Q,n,b,X,T,l,k,fl,fk,ac5 X.length T.length R Q,yB m l k,yA m X.length R l,ns⟩,⟨hl,hk,hc,hfl,hfk,rfl,rfl,rfl,h2,h3,h4⟩,rfl,rfl,rfl,rfl,rfl,rfl,rfl,rfl,rfl,h1⟩
section
variable {c:Cx}
theorem Cx.Ok.plan (h:c.Ok):ke c.mode c.X.length c.T.length c.R c.l c.Q c.k c.len c.words=(c.fixed,c.tp,c.sl,c.ns,0)->ou c.mode c.X c.T c.R c.l c.Q c.k c.len c.words=Y (c.fixed,c.tp,c.sl,c.ns,0):=λe=>by
 rw[bf4 h.hl h.hk,e]
theorem dG4 (h:c.Ok): ∀i,i<10->pre [((c.T.length:Nat):Int),((c.X.length:Nat):Int),c.R,c.Q,max c.R c.Q,((c.X.length:Nat):Int),((c.T.length:Nat):Int),c.tp,c.sl*c.ns] i=(c.off i:Int):=by
 have n:=h.num;have nR:=n.R;have nQ:=n.Q;have nm:=n.mul;have htp:0<=c.tp:=by rw[n.tp];split<;>omega
 have hs: ∀i,i<9->([((c.T.length:Nat):Int),((c.X.length:Nat):Int),c.R,c.Q,max c.R c.Q,((c.X.length:Nat):Int),((c.T.length:Nat):Int),c.tp,c.sl*c.ns]:Zd).getD i 0=(c.sz i:Int):=λi hi=>by
  rcases(show i=0∨i=1∨i=2∨i=3∨i=4∨i=5∨i=6∨i=7∨i=8 by omega)with rfl|rfl|rfl|rfl|rfl|rfl|rfl|rfl|rfl
  .rfl
  .rfl
  .show c.R=(c.R.toNat:Int);omega
  .show c.Q=(c.Q.toNat:Int);omega
  .show max c.R c.Q=((max c.R.toNat c.Q.toNat:Nat):Int);omega
  .rfl
  .rfl
  .show c.tp=(c.tp.toNat:Int);omega
  .show c.sl*c.ns=((c.sl*c.ns).toNat:Int);omega
 intro i;induction i with
 |zero=>intro _;rfl
 |succ i ih=>
  intro hi;simp only[pre];rw[ih (by omega),hs i (by omega)];show(c.off i:Int)+(c.sz i:Int)=((c.off i+c.sz i:Nat):Int);omega
theorem cO9 (h:c.Ok)(e:ke c.mode c.X.length c.T.length c.R c.l c.Q c.k c.len c.words=(c.fixed,c.tp,c.sl,c.ns,0)):zP c.mode c.X c.T c.R c.l c.Q c.k c.len c.words=Y (0,c.P):=by
 have s:=cu1 h.hl h.hk h.hc;have s':SFacts c.X.length c.T.length c.R c.Q c.tp c.sl:=by rw[h.tp,h.sl];exact s
 unfold zP;rw[h.plan e];simp only[zG];rw[zA (by simp),zD,bU4 h.hl h.hk h.hc];simp only[zG];have hb:=cP9 (n:=c.ns) s' h.ns;rw[<-h.tp,<-h.sl,cE0 hb];simp only[zG]
 congr 2
 unfold Cx.P;apply List.map_congr_left;intro i hi;exact dG4 h i (List.mem_range.1 hi)
theorem ce9 {l:List cd}(h:l.length<=4096):fi l=Y l:=by
 unfold fi;rw[ck (by omega) (by omega)]
theorem ac2 {l:Zd}(h:l.length<=1048576):aq l=Y l:=by
 unfold aq;rw[ck (by omega) (by omega)]
theorem bu2 (h:c.Ok)(e:ke c.mode c.X.length c.T.length c.R c.l c.Q c.k c.len c.words=(c.fixed,c.tp,c.sl,c.ns,0)):
  wh c.mode c.X c.T c.R c.l c.Q c.k c.len c.words=Y (.inr (c.fixed,c.tp,c.sl,c.ns,c.mode,c.R,c.Q,c.len,c.words,c.len,c.X,c.T,c.l,c.k,c.P)):=by
 have n:=h.num;have nx:=n.x;have nt:=n.t;unfold wh;rw[h.plan e];simp only[zG];rw[zA (by simp),zD,ce9 h.hl.len,ce9 h.hk.len,ac2 (by omega),ac2 (by omega)];simp only[zG];rw[cO9 h e];rfl
def dp9 (c:Cx)(W:Zd):Zd:=put (put W (c.off 0) c.T) (c.off 1) c.X
def new1 (c:Cx):Dy:=⟨c.len,0,-1,0,0,0,0,0,c.fixed,c.fixed,dp9 c (gx c.words.toNat)⟩
def new2 (c:Cx):Dy:=⟨c.len,0,-1,0,0,0,0,0,c.fixed,c.fixed,dp9 c (put (gx c.words.toNat) (c.off 8) (gx (c.sl*c.ns).toNat))⟩
theorem aD9 :Wd c (gx c.words.toNat):=cn _
theorem ac6 (h:c.Ok):0<=c.fixed/\c.fixed<=c.words/\1<=c.fixed/\c.fixed=(c.off 7:Int):=by
 have n:=h.num;have nR:=n.R;have nQ:=n.Q;have nf:=n.fixed;have nm:=n.mul;have ft:=h.fit;have htp:0<=c.tp:=by rw[n.tp];split<;>omega
 refine⟨by omega,by omega,by omega, ?_⟩;rw[dZ9,nf];omega
theorem bt4 (h:c.Ok){W:Zd}(hW:Wd c W):Wd c (put W (c.off 0) c.T)/\Wd c (dp9 c W)/\gg c W (dp9 c W):=by
 have h0:=kl (c:=c) (i:=0) (j:=9) (by omega);have h1:=kl (c:=c) (i:=1) (j:=9) (by omega);have z0:c.sz 0=c.T.length:=rfl;have z1:c.sz 1=c.X.length:=rfl;have w1:=hW.put h (w:=c.T) (o:=c.off 0) (by omega);have w2:=w1.put h (w:=c.X) (o:=c.off 1) (by omega);exact⟨w1,w2,gg.put h (gg.put h (gg.refl W) hW (i:=0) (by omega) (Nat.le_of_eq z0.symm)) w1 (i:=1) (by omega) (Nat.le_of_eq z1.symm)⟩
theorem ce2 (h:c.Ok):aa0 c.words=Y (gx c.words.toNat):=by
 have f:=ac6 h;have n:=h.num;have nw:=n.words;unfold aa0 wc;rw[zA (by omega),zD,zA (by omega),zD];simp only[zG];rw[zA (by simp),zD,gdz (by omega)];rfl
theorem ch0 (h:c.Ok):at1 c.words=Y (0,0,c.words):=by
 have n:=h.num;have nw:=n.words;unfold at1 uL;rw[zA (show¬(0:Int)<0 by omega),zA (show¬c.words<0 by omega)];rfl
theorem bf9 {o n:Nat}{W:Zd}(h:o+n<=W.length)(hw:W.length<=1048576):cg (n:Int) (o:Int) W=Y ((o:Int),0,((o+n:Nat):Int)):=by
 unfold cg wN;rw[zA (by omega),zD];simp only[zG];rw[ad (n:=(W.length:Int)-o) (by omega),zA (by omega),zD,ad (n:=(o:Int)+n) (by omega)]
 congr 2
theorem el2 (h:c.Ok)(hm:c.mode=3)(e:ke c.mode c.X.length c.T.length c.R c.l c.Q c.k c.len c.words=(c.fixed,c.tp,c.sl,c.ns,0)):
  w6 c.mode c.X c.T c.R c.l c.Q c.k c.len c.words=Y (.inr (.inl (c.fixed,c.tp,c.sl,c.ns,c.mode,c.R,c.Q,c.len,c.words,c.len,c.X,c.T,c.l,c.k,c.P,c.tk,c.fixed,c.fixed,c.words,(new1 c).W))):=by
 have f:=ac6 h;have n:=h.num;have nw:=n.words;have nm:=n.mul;have h9:=h.off9_le;have h89:c.off 9=c.off 8+(c.sl*c.ns).toNat:=cd2;have hzl:(gx c.words.toNat).length=c.words.toNat:=cn _;obtain⟨w1,w2,w3⟩:=bt4 h (aD9 (c:=c));unfold w6;rw[bu2 h e];simp only[zG,bg];rw[ce2 h,ch0 h];simp only[zG];rw[vj (by omega) (by omega) (by omega) (by omega)];simp only[zG];rw[show ix 8 c.P.length=Y 8 from bp (k:=8) (by rw[Cx.P_len];omega)];simp only[zG];rw[Cx.P_get (show 8<10 by omega)];simp only[zG];rw[show cg (c.off 8:Int) 0 (gx c.words.toNat)=Y (((0:Nat):Int),0,((0+c.off 8:Nat):Int))from bf9 (o:=0) (n:=c.off 8) (by rw[bD,hzl];omega) (by omega)];unfold gi;simp only[zG];rw[zB hm,zC,bB,ad (n:=c.sl*c.ns) (by omega),show c.sl*c.ns=((c.sl*c.ns).toNat:Int)by omega,bf9 (by omega) (by omega)]
 simp only[zG,kn];have etk:((0+c.off 8+(c.sl*c.ns).toNat:Nat):Int)=c.tk:=by unfold Cx.tk;omega
 rw[etk,put1 (ii:=0) (i:=0) h aD9 rfl (by omega) (aD _)];simp only[zG];rw[put1 (ii:=1) (i:=1) h w1 rfl (by omega) (aD _)];simp only[zG];have ef:(0:Int)+c.fixed=c.fixed:=by omega
 have em:max (0:Int) c.fixed=c.fixed:=by omega
 rw[ef,em];rfl
theorem dX3 (h:c.Ok)(hm:c.mode≠3)(e:ke c.mode c.X.length c.T.length c.R c.l c.Q c.k c.len c.words=(c.fixed,c.tp,c.sl,c.ns,0)):
  w6 c.mode c.X c.T c.R c.l c.Q c.k c.len c.words=Y (.inr (.inr (c.fixed,c.tp,c.sl,c.ns,c.mode,c.R,c.Q,c.len,c.words,c.len,c.X,c.T,c.l,c.k,c.P,c.tk,(c.off 8:Int),c.ns,(c.X.length:Int),c.fixed,c.fixed,c.words,(new2 c).W))):=by
 have f:=ac6 h;have n:=h.num;have nw:=n.words;have nm:=n.mul;have nx:=n.x;have nns:=h.ns;have h9:=h.off9_le;have h89:c.off 9=c.off 8+(c.sl*c.ns).toNat:=cd2;have hzl:(gx c.words.toNat).length=c.words.toNat:=cn _;have hsl:=n.sl;rw[zF hm]at hsl;have w0:Wd c (put (gx c.words.toNat) (c.off 8) (gx (c.sl*c.ns).toNat)):=(aD9 (c:=c)).put h (by rw[cn];omega);obtain⟨w1,w2,w3⟩:=bt4 h w0;unfold w6;rw[bu2 h e];simp only[zG,bg];rw[ce2 h,ch0 h];simp only[zG];rw[vj (by omega) (by omega) (by omega) (by omega)];simp only[zG];rw[show ix 8 c.P.length=Y 8 from bp (k:=8) (by rw[Cx.P_len];omega)];simp only[zG];rw[Cx.P_get (show 8<10 by omega)];simp only[zG];rw[show cg (c.off 8:Int) 0 (gx c.words.toNat)=Y (((0:Nat):Int),0,((0+c.off 8:Nat):Int))from bf9 (o:=0) (n:=c.off 8) (by rw[bD,hzl];omega) (by omega)];unfold gi
 simp only[zG];rw[zA hm,zD];unfold aU7 rn dn;rw[zB (show 0<=c.ns by omega),zB (show c.ns<=1048576 by omega),zB (show 1<=(c.X.length:Int)by omega),zB (show(c.X.length:Int)<=64 by omega)];simp only[zC,zD,Bool.not_true,zG];rw[ad (n:=(c.X.length:Int)+1) (by omega),<-hsl,bB c.ns,ad (n:=c.sl*c.ns) (by omega)];have esn:c.sl*c.ns=(((c.sl*c.ns).toNat:Nat):Int):=by omega
 rw[show cg (c.sl*c.ns) ((0+c.off 8:Nat):Int) (gx c.words.toNat)=Y (((0+c.off 8:Nat):Int),0,((0+c.off 8+(c.sl*c.ns).toNat:Nat):Int))from by
  conv=>lhs;rw[esn]
  exact bf9 (by omega) (by omega)]
 simp only[zG];rw[zA (by simp),zD,gdz (by omega),show List.replicate (c.sl*c.ns).toNat (0:Int)=gx (c.sl*c.ns).toNat from rfl,xn (by rw[cn];exact aD _) (by omega) (by omega),bD];simp only[zG,bg];have etk:((c.off 8+(c.sl*c.ns).toNat:Nat):Int)=c.tk:=by unfold Cx.tk;omega
 rw[etk,bA4 (ii:=0) (i:=0) h w0 rfl (by omega) (aD _)];simp only[zG];rw[bA4 (ii:=1) (i:=1) h w1 rfl (by omega) (aD _)];simp only[zG];have ef:(0:Int)+c.fixed=c.fixed:=by omega
 have em:max (0:Int) c.fixed=c.fixed:=by omega
 rw[ef,em];rfl
theorem dp7 (h:c.Ok)(hm:c.mode=3):InvB c (new1 c):=by
 have f:=ac6 h;have n:=h.num;have nl:=n.len;refine⟨(bt4 h aD9).2.1,rfl,⟨aB _,by show 0<=c.len;omega⟩,⟨by show(-1:Int)<= -1;omega,by show(-1:Int)<=c.len;omega⟩,λhq=> ?_, ?_,⟨aB _,f.2.1⟩⟩
 .have hq:(0:Int)<= -1:=hq;omega
 .show c.fixed=c.fixed+c.sl*0;omega
theorem bT7 (h:c.Ok)(hm:c.mode≠3){k:Nat}(hk:k<c.ns.toNat):jq c (new2 c).W k=0:=by
 have h9:=h.off9_le;have nw:=h.num.words;have h89:c.off 9=c.off 8+(c.sl*c.ns).toNat:=cd2;have w0:Wd c (put (gx c.words.toNat) (c.off 8) (gx (c.sl*c.ns).toNat)):=(aD9 (c:=c)).put h (by rw[cn];omega);obtain⟨w1,w2,w3⟩:=bt4 h w0;show jq c (dp9 c _) k=0;rw[w3.tag];obtain⟨s1,_,_⟩:=zf h hm hk;unfold jq rg;rw[Int.toNat_natCast,List.getD_eq_getElem?_getD,bu4 (by rw[cn,cn];omega)];unfold gx;split
 .rw[cB];split<;>rfl
 .rw[cB];split<;>rfl
theorem dp8 (h:c.Ok)(hm:c.mode≠3):Inv c (new2 c):=by
 have f:=ac6 h;have n:=h.num;have nl:=n.len;have nw:=n.words;have h9:=h.off9_le;have h89:c.off 9=c.off 8+(c.sl*c.ns).toNat:=cd2;have w0:Wd c (put (gx c.words.toNat) (c.off 8) (gx (c.sl*c.ns).toNat)):=(aD9 (c:=c)).put h (by rw[cn];omega)
 have hu:ld c (new2 c).W=0:=by
  unfold ld;rw[List.countP_eq_zero];intro k hk;rw[bT7 h hm (List.mem_range.1 hk)];decide
 refine⟨(bt4 h w0).2.1,⟨by show 0<=c.len;omega,by show c.len<=65535;omega⟩,⟨aB _,by show 0<=c.len;omega⟩,⟨by show(-1:Int)<= -1;omega,by show(-1:Int)<=c.len;omega⟩,λk hk=> ?_, ?_,⟨aB _,f.2.1⟩⟩
 .rw[bT7 h hm hk];exact⟨aB _,by show(0:Int)<=c.len+1;omega⟩
 .rw[hu];show c.fixed=c.fixed+c.sl*0;omega
end
end
end Go.V
