/- A part of the proofs of this claim: what functions of the program answer on an abstract machine, and plain laws. No condition. -/
import Derived.Test.YtgigjokffalgkaaGreatL1
set_option linter.unusedVariables false
set_option linter.unusedSimpArgs false
set_option linter.unusedSectionVars false
namespace Go.V
open Go.Ab
open Option renaming some->C,none->O
open Bool renaming true->Za,false->Zb
open Decidable renaming decide->Zc
section
open Go.IntKind renaming wrap -> zH, i64 -> zI, u64 -> zJ
open Int renaming toNat_natCast -> aB
open List renaming getElem?_eq_getElem -> aD
set_option maxRecDepth 100000
theorem ap3 (f:Nat->Int): ∀{j:Nat},j<8->List.getD [f 0,f 1,f 2,f 3,f 4,f 5,f 6,f 7] j 0=f j
 |0,_=>rfl
 |1,_=>rfl
 |2,_=>rfl
 |3,_=>rfl
 |4,_=>rfl
 |5,_=>rfl
 |6,_=>rfl
 |7,_=>rfl
 |n+8,h=>by omega
def app (o:cq)(x y:Int):Int:=
 if o.1=1 then zH zJ (x+y)else if o.1=2 then zH zJ (x-y)else if o.1=3 then zH zJ (x*y)else if o.1=4 then zH zJ (0-x)else if o.1=5 then o.2.2.2.2 else if o.1=6 then x else 0
theorem aU0 (o:cq)(x y:Int):oU o.1 o.2.1 o.2.2.1 o.2.2.2.1 o.2.2.2.2 x y=C (app o x y):=by
 unfold oU app;simp only[bv]
 repeat' split
 all_goals rfl
def inR (R:Nat)(o:cq):Prop:=(0<=o.2.1/\o.2.1<R)/\(0<=o.2.2.1/\o.2.2.1<R)/\0<=o.2.2.2.1/\o.2.2.2.1<R
theorem zO {R:Nat}{o:cq}(h:inR R o): ∃d a b:Nat,o.2.1=d/\o.2.2.1=a/\o.2.2.2.1=b/\d<R/\a<R/\b<R:=by
 unfold inR at h;exact⟨o.2.1.toNat,o.2.2.1.toNat,o.2.2.2.1.toNat,by omega,by omega,by omega,by omega,by omega,by omega⟩
def rg (r:Zd)(k:Int):Int:=r.getD k.toNat 0
theorem fh {r:Zd}{k:Nat}(h:k<r.length):r[k]?=C (rg r (k:Int)):=by
 unfold rg;rw[aB,aD h,List.getD_eq_getElem?_getD,aD h];rfl
abbrev TS :=Zd×Zd×Nat
def mm (o:cq)(s:TS):TS:=(s.1.set o.2.1.toNat (app o (rg s.1 o.2.2.1) (rg s.1 o.2.2.2.1)),s.2.1.set s.2.2 (rg s.1 o.2.1),s.2.2+1)
def VdT (R N:Nat)(m:Nat)(s:TS):Prop:=s.1.length=R/\s.2.1.length=N/\s.2.2+m<=N
def stT (p d:Nat)(l:Nat->Int)(s:TS):Int×Int×Int×(Zd)×(Zd)×Int×Int×Int×Int×Int×Int×Int×Int:=
 ((p:Int),(s.2.2:Int),(d:Int),s.1,s.2.1,l 0,l 1,l 2,l 3,l 4,l 5,l 6,l 7)
theorem pR {code:List xg}{p:Nat}{x:xg}(hc:code.length<=1000)(h:code[p]?=C x):p<code.length/\ix (p:Int) code.length=C p:=by
 have:=(List.getElem?_eq_some_iff.1 h).1;exact⟨this,cl this⟩
theorem cM8 {code:List xg}(hc:code.length<=1000){R N:Nat}(hN:N<=1000000):Runs (lf code) code stT mm (VdT R N) (inR R)where
 op:=by
  intro p d l s m o to h hg hk hd hv;obtain⟨h1,h2⟩:=pR hc h;obtain⟨kd,ka,kb,e1,e2,e3,g1,g2,g3⟩:=zO hg;obtain⟨v1,v2,v3⟩:=hv;refine⟨?_,by unfold mm;exact⟨by simp[v1],by simp[v2],by show s.2.2+1+m<=N;omega⟩⟩;unfold stT mm;simp only[lf];rw[zA (by omega),zD,h2];simp only[zG];rw[h];simp only[zG,di];rw[zA (by omega),zD,zA (by omega),zD];simp only[aU0,zG];rw[e1,e2,e3,cl (show kd<s.1.length by omega)];simp only[zG];rw[fh (show kd<s.1.length by omega)];simp only[zG];rw[cl (show s.2.2<s.2.1.length by omega)];simp only[zG];rw[fh (show s.2.2<s.2.1.length by omega)];simp only[zG];rw[cl (show ka<s.1.length by omega)];simp only[zG];rw[fh (show ka<s.1.length by omega)];simp only[zG];rw[cl (show kb<s.1.length by omega)];simp only[zG];rw[fh (show kb<s.1.length by omega)]
  simp only[zG];rw[bq (n:=(p:Int)+1) (by omega),bq (n:=(s.2.2:Int)+1) (by omega)];rfl
 rep:=by
  intro p d l s m o to h hk hd hv;obtain⟨h1,h2⟩:=pR hc h;unfold stT;simp only[lf];rw[zA (by omega),zD,h2];simp only[zG];rw[h];simp only[zG,di];rw[zB hk,zC,cl hd];simp only[zG];rw[bq (n:=(p:Int)+1) (by omega),bq (n:=(d:Int)+1) (by omega)];rfl
 nxt:=by
  intro p d l s m e to h hk hd hl hl2 hv;obtain⟨h1,h2⟩:=pR hc h;have h8:=ap3 (upd l d (l d-1)) hd;rw[qL]at h8;unfold upd at h8;unfold stT;simp only[lf];rw[zA (by omega),zD,h2];simp only[zG];rw[h];simp only[zG,di];rw[zA (by omega),zD,zB hk,zC,bq (n:=((d+1:Nat):Int)-1) (by omega),show((d+1:Nat):Int)-1=(d:Int)by omega,cl hd];simp only[zG];rw[ap3 l hd,nZ (by omega),h8,zB (by omega),zC];rfl
 out:=by
  intro p d l s m e to h hk hd hl hv;obtain⟨h1,h2⟩:=pR hc h;have h8:=ap3 (upd l d (l d-1)) hd;rw[qL]at h8;unfold upd at h8;unfold stT;simp only[lf];rw[zA (by omega),zD,h2];simp only[zG];rw[h];simp only[zG,di];rw[zA (by omega),zD,zB hk,zC,bq (n:=((d+1:Nat):Int)-1) (by omega),show((d+1:Nat):Int)-1=(d:Int)by omega,cl hd];simp only[zG];rw[ap3 l hd,nZ (by omega),h8,zA (by omega),zD,bq (n:=(p:Int)+1) (by omega)];rfl
abbrev FS :=Zd×Nat
def an6 (o:cq)(s:FS):FS:=(s.1.set o.2.1.toNat (app o (rg s.1 o.2.2.1) (rg s.1 o.2.2.2.1)),s.2+1)
def VdF (R M:Nat)(m:Nat)(s:FS):Prop:=s.1.length=R/\s.2+m<=M
def stF (p d:Nat)(l:Nat->Int)(s:FS):Int×Int×Int×(Zd)×Int×Int×Int×Int×Int×Int×Int×Int:=
 ((p:Int),(s.2:Int),(d:Int),s.1,l 0,l 1,l 2,l 3,l 4,l 5,l 6,l 7)
theorem cY2 {code:List xg}(hc:code.length<=1000){R M:Nat}(hM:M<=1000000):Runs (jt (-1) code) code stF an6 (VdF R M) (inR R)where
 op:=by
  intro p d l s m o to h hg hk hd hv;obtain⟨h1,h2⟩:=pR hc h;obtain⟨kd,ka,kb,e1,e2,e3,g1,g2,g3⟩:=zO hg;obtain⟨v1,v2⟩:=hv;refine⟨?_,by unfold an6;exact⟨by simp[v1],by show s.2+1+m<=M;omega⟩⟩;unfold stF an6;simp only[jt];rw[zA (show¬((p:Int)=(code.length:Int))by omega),zD,zA (show¬((s.2:Int)= -1)by omega),zD,h2];simp only[zG];rw[h];simp only[zG,di];rw[zA (by omega),zD,zA (by omega),zD];simp only[aU0,vD,zG];rw[e1,e2,e3,cl (show ka<s.1.length by omega)];simp only[zG];rw[fh (show ka<s.1.length by omega)];simp only[zG];rw[cl (show kb<s.1.length by omega)];simp only[zG];rw[fh (show kb<s.1.length by omega)];simp only[zG];rw[cl (show kd<s.1.length by omega)];simp only[zG];rw[fh (show kd<s.1.length by omega)];simp only[zG]
  rw[bq (n:=(p:Int)+1) (by omega),bq (n:=(s.2:Int)+1) (by omega)];rfl
 rep:=by
  intro p d l s m o to h hk hd hv;obtain⟨h1,h2⟩:=pR hc h;unfold stF;simp only[jt];rw[zA (show¬((p:Int)=(code.length:Int))by omega),zD,zA (show¬((s.2:Int)= -1)by omega),zD,h2];simp only[zG];rw[h];simp only[zG,di];rw[zB hk,zC,cl hd];simp only[zG];rw[bq (n:=(p:Int)+1) (by omega),bq (n:=(d:Int)+1) (by omega)];rfl
 nxt:=by
  intro p d l s m e to h hk hd hl hl2 hv;obtain⟨h1,h2⟩:=pR hc h;have h8:=ap3 (upd l d (l d-1)) hd;rw[qL]at h8;unfold upd at h8;unfold stF;simp only[jt];rw[zA (show¬((p:Int)=(code.length:Int))by omega),zD,zA (show¬((s.2:Int)= -1)by omega),zD,h2];simp only[zG];rw[h];simp only[zG,di];rw[zA (by omega),zD,zB hk,zC,bq (n:=((d+1:Nat):Int)-1) (by omega),show((d+1:Nat):Int)-1=(d:Int)by omega,cl hd];simp only[zG];rw[ap3 l hd,nZ (by omega),h8,zB (by omega),zC];rfl
 out:=by
  intro p d l s m e to h hk hd hl hv;obtain⟨h1,h2⟩:=pR hc h;have h8:=ap3 (upd l d (l d-1)) hd;rw[qL]at h8;unfold upd at h8;unfold stF;simp only[jt];rw[zA (show¬((p:Int)=(code.length:Int))by omega),zD,zA (show¬((s.2:Int)= -1)by omega),zD,h2];simp only[zG];rw[h];simp only[zG,di];rw[zA (by omega),zD,zB hk,zC,bq (n:=((d+1:Nat):Int)-1) (by omega),show((d+1:Nat):Int)-1=(d:Int)by omega,cl hd];simp only[zG];rw[ap3 l hd,nZ (by omega),h8,zA (by omega),zD,bq (n:=(p:Int)+1) (by omega)];rfl
def par (o:cq)(x y:Int):Int×Int:=
 if o.1=1 then(1,1)else if o.1=2 then(1,18446744073709551615)else if o.1=3 then(y,x)else if o.1=4 then(18446744073709551615,0)else if o.1=6 then(1,0)else(0,0)
theorem bk2 (o:cq)(x y:Int):oE o.1 o.2.1 o.2.2.1 o.2.2.2.1 o.2.2.2.2 x y=C (par o x y):=by
 unfold oE par;simp only[bv]
 repeat' split
 all_goals rfl
def ba4 (o:cq)(r a:Zd)(t:Int):Zd×Zd:=
 let g:=rg a o.2.1
 let r1:=r.set o.2.1.toNat t
 let a1:=a.set o.2.1.toNat 0
 let q:=par o (rg r1 o.2.2.1) (rg r1 o.2.2.2.1)
 let a2:=a1.set o.2.2.1.toNat (zH zJ (rg a1 o.2.2.1+zH zJ (q.1*g)))
 (r1,a2.set o.2.2.2.1.toNat (zH zJ (rg a2 o.2.2.2.1+zH zJ (q.2*g))))
theorem cA8 {o:cq}{r a t:Zd}{n:Nat}(hg:inR r.length o)(ha:a.length=r.length)(hn:n<t.length):
  nC o.1 o.2.1 o.2.2.1 o.2.2.2.1 o.2.2.2.2 (n:Int) r a t=C (ba4 o r a (rg t (n:Int))):=by
 obtain⟨kd,ka,kb,e1,e2,e3,g1,g2,g3⟩:=zO hg;unfold nC;simp only[bk2,zG];unfold ba4;simp only[e1,e2,e3,aB];rw[cl (show kd<a.length by omega)];simp only[zG];rw[fh (show kd<a.length by omega)];simp only[zG];rw[cl hn];simp only[zG];rw[fh hn];simp only[zG];rw[cl g1];simp only[zG];rw[fh g1];simp only[zG];have hr1: ∀x:Int,(r.set kd x).length=r.length:=by simp
 have ha1:(a.set kd 0).length=a.length:=by simp
 rw[cl (show ka<(r.set kd (rg t (n:Int))).length by rw[hr1];omega)];simp only[zG];rw[fh (show ka<(r.set kd (rg t (n:Int))).length by rw[hr1];omega)];simp only[zG];rw[cl (show kb<(r.set kd (rg t (n:Int))).length by rw[hr1];omega)];simp only[zG];rw[fh (show kb<(r.set kd (rg t (n:Int))).length by rw[hr1];omega)];simp only[zG];rw[cl (show ka<(a.set kd 0).length by omega)];simp only[zG];rw[fh (show ka<(a.set kd 0).length by omega)];simp only[zG];generalize hP:par o _ _=P;generalize hA:(a.set kd 0).set ka _=A2;have hA2:A2.length=a.length:=by rw[<-hA];simp
 rw[cl (show kb<A2.length by omega)];simp only[zG];rw[fh (show kb<A2.length by omega)];simp only[zG]
abbrev BS :=Zd×Zd×Nat
def oO (t:Zd)(o:cq)(s:BS):BS:=((ba4 o s.1 s.2.1 (rg t ((s.2.2-1:Nat):Int))).1,(ba4 o s.1 s.2.1 (rg t ((s.2.2-1:Nat):Int))).2,s.2.2-1)
def VdB (R N:Nat)(m:Nat)(s:BS):Prop:=s.1.length=R/\s.2.1.length=R/\m<=s.2.2/\s.2.2<=N
def stB (p d:Nat)(l:Nat->Int)(s:BS):Int×Int×Int×(Zd)×(Zd)×Int×Int×Int×Int×Int×Int×Int×Int:=
 ((p:Int)-1,(d:Int),(s.2.2:Int),s.1,s.2.1,l 0,l 1,l 2,l 3,l 4,l 5,l 6,l 7)
theorem co2 (o:cq)(r a:Zd)(t:Int):(ba4 o r a t).1.length=r.length/\(ba4 o r a t).2.length=a.length:=by
 unfold ba4;simp
theorem dw4 {code:List xg}(hc:code.length<=1000){R:Nat}{t:Zd}(hN:t.length<=1000000):Backs (gn t code) code stB (oO t) (VdB R t.length) (inR R)where
 op:=by
  intro p d l s m o to h hg hk hd hv;obtain⟨h1,h2⟩:=pR hc h;obtain⟨v1,v2,v3,v4⟩:=hv;obtain⟨q1,q2⟩:=co2 o s.1 s.2.1 (rg t ((s.2.2-1:Nat):Int));refine⟨?_,by unfold oO;exact⟨by simp[v1,q1],by simp[v2,q2],by show m<=s.2.2-1;omega,by show s.2.2-1<=_;omega⟩⟩;unfold stB oO;simp only[gn];rw[show((p+1:Nat):Int)-1=(p:Int)by omega,zA (by omega),zD,h2];simp only[zG];rw[h];simp only[zG,di];rw[zA (by omega),zD,zA (by omega),zD,bq (n:=(s.2.2:Int)-1) (by omega),show(s.2.2:Int)-1=((s.2.2-1:Nat):Int)by omega,cA8 (by rw[v1];exact hg) (by omega) (by omega)];simp only[zG];rw[bq (n:=(p:Int)-1) (by omega)]
 rep:=by
  intro p q d l s m o e to h hk h' hd hv;obtain⟨h1,h2⟩:=pR hc h;obtain⟨h3,h4⟩:=pR hc h';unfold stB;simp only[gn];rw[show((p+1:Nat):Int)-1=(p:Int)by omega,zA (by omega),zD,h2];simp only[zG];rw[h];simp only[zG,di];rw[zB hk,zC,bq (n:=((q+1:Nat):Int)-1) (by omega),show((q+1:Nat):Int)-1=(q:Int)by omega,h4];simp only[zG];rw[h'];simp only[zG,di];rw[cl hd];simp only[zG];rw[bq (n:=(p:Int)-1) (by omega),bq (n:=(d:Int)+1) (by omega)];rfl
 nxt:=by
  intro p d l s m o to h hto hk hd hl hl2 hv;obtain⟨h1,h2⟩:=pR hc h;have h8:=ap3 (upd l d (l d-1)) hd;rw[qL]at h8;unfold upd at h8;unfold stB;simp only[gn];rw[show((p+1:Nat):Int)-1=(p:Int)by omega,zA (by omega),zD,h2];simp only[zG];rw[h];simp only[zG,di];rw[zA (by omega),zD,zB hk,zC,bq (n:=((d+1:Nat):Int)-1) (by omega),show((d+1:Nat):Int)-1=(d:Int)by omega,cl hd];simp only[zG];rw[ap3 l hd,nZ (by omega),h8,zB (by omega),zC];rw[bq (n:=((to+1:Nat):Int)-2) (by omega),show((to+1:Nat):Int)-2=(to:Int)-1 by omega];rfl
 out:=by
  intro p d l s m o to h hk hd hl hv;obtain⟨h1,h2⟩:=pR hc h;have h8:=ap3 (upd l d (l d-1)) hd;rw[qL]at h8;unfold upd at h8;unfold stB;simp only[gn];rw[show((p+1:Nat):Int)-1=(p:Int)by omega,zA (by omega),zD,h2];simp only[zG];rw[h];simp only[zG,di];rw[zA (by omega),zD,zB hk,zC,bq (n:=((d+1:Nat):Int)-1) (by omega),show((d+1:Nat):Int)-1=(d:Int)by omega,cl hd];simp only[zG];rw[ap3 l hd,nZ (by omega),h8,zA (by omega),zD,bq (n:=(p:Int)-1) (by omega)];rfl
end
section
open Bool renaming and_eq_true -> cB, not_eq_true' -> cD
open List renaming getElem?_append_right -> bB, append_assoc -> bD, length_append -> dB
open Nat renaming le_refl -> aB, sub_self -> aD
theorem dw5 {w v c:Int}{n:Nat}(h:yZ w v=C c)(hv:0<=v)(hw:w=(n:Int)):c=((n*v.toNat:Nat):Int):=by
 have hvv:((v.toNat:Nat):Int)=v:=Int.toNat_of_nonneg hv;rw[Int.natCast_mul,hvv,<-hw];unfold yZ at h;split at h
 .rename_i hz;injection h with h
  rw[hz,Int.zero_mul,h]
 split at h
 .cases h
 split at h
 .cases h
 .injection h with h
  exact h.symm
def cB5 (l:List cq)(m S:Zd):Prop:=m.length=l.length/\S.length=l.length/\∀(A B:List cq) (o e:cq) (b:Fo),l=A++o::(b.src++e::B)->b.Ok->o.1=7->e.1=0->
 m[A.length]?=C ((A.length+1+b.len:Nat):Int)/\S[A.length]?=C ((b.n*oQ o:Nat):Int)
theorem do7 {l:List cq}{m S R:Zd}(hm:MOK l m)(hS:S.length=l.length)(hv: ∀o∈l,okV o)(h: ∀j,j<l.length->∃a b,S[j]?=C a/\R[j]?=C b/\dp8 l j a b):cB5 l m S:=by
 refine⟨hm.len,hS,λA B o e b hl hb ho he=> ?_⟩;have hlen:l.length=A.length+1+(b.len+(B.length+1)):=by rw[hl];simp[Fo.src_len];omega
 have hlt:A.length<l.length:=by omega
 have hget:l[A.length]=o:=by
  have:l[A.length]?=C o:=by rw[hl,bB (aB _),aD];rfl
  rw[List.getElem?_eq_getElem hlt]at this;injection this
 have hd:l.drop (A.length+1)=b.src++e::B:=by rw[hl,List.drop_append,List.drop_of_length_le (by omega),show A.length+1-A.length=1 by omega];rfl
 refine⟨?_, ?_⟩
 .have:=hm.at' A.length hlt (by rw[hget];exact ho) b.src e B hd he (Fo.scan0 hb);rw[Fo.src_len]at this;exact this
 .obtain⟨a,c,h1,h2,h3⟩:=h A.length hlt;obtain⟨h4,h5⟩:=(h3 hlt).1 (by rw[hget];exact ho) b.src e B hd he (Fo.scan0 hb);have hmem: ∀x∈b.src,0<=x.2.2.2.2:=λx hx=>(hv x (by rw[hl];simp[hx])).1
  have e1:=Fo.Q9_n b hb hmem h4;rw[hget]at h5;rw[h1,dw5 h5 (hv o (by rw[hl];simp)).1 e1];rfl
section
variable {l:List cq} {m S:Zd} {em es:Int}
theorem dx7 {i:Nat}{op:Zd}{out:List xg}(hl:l.length<=1000)(ho:out.length<=1000){x:cq}(hx:l[i]?=C x)(hk:0<x.1/\x.1<7):
  gi l (em,m) (es,S) ((i:Int),op,out)=C (.inl (((i+1:Nat):Int),op,out++[di x 0])):=by
 obtain⟨hi,hg⟩:=List.getElem?_eq_some_iff.1 hx;simp only[gi];rw[zB (show(i:Int)<(l.length:Int)by omega),zC,ci hi,hg];simp only[zG];rw[zA (show¬x.1=7 by omega),zA (show¬x.1=0 by omega)];simp only[zD,zG,cn];rw[dh (by omega) (by omega),bq (by omega)];rfl
theorem dd4 {i j:Nat}{op:Zd}{out:List xg}(hl:l.length<=1000){x:cq}(hx:l[i]?=C x)(hk:x.1=7)(hs:S[i]?=C 0)(hm:m[i]?=C (j:Int))(hj:j<=1000):
  gi l (em,m) (es,S) ((i:Int),op,out)=C (.inl (((j+1:Nat):Int),op,out)):=by
 obtain⟨hi,hg⟩:=List.getElem?_eq_some_iff.1 hx;obtain⟨hi2,_⟩:=List.getElem?_eq_some_iff.1 hs;obtain⟨hi3,_⟩:=List.getElem?_eq_some_iff.1 hm;simp only[gi];rw[zB (show(i:Int)<(l.length:Int)by omega),zC,ci hi,hg];simp only[zG];rw[zB hk];simp only[zC];rw[cl hi2];simp only[zG];rw[hs];simp only[zG,de];rw[decide_true,zC,cl hi3];simp only[zG];rw[hm];simp only[zG,de];rw[bq (by omega)];rfl
theorem dd3 {i:Nat}{n:Int}{op:Zd}{out:List xg}(hl:l.length<=1000)(ho:out.length<=1000)(hp:op.length<=1000){x:cq}(hx:l[i]?=C x)(hk:x.1=7)(hs:S[i]?=C n)(hn:n≠0):
  gi l (em,m) (es,S) ((i:Int),op,out)=C (.inl (((i+1:Nat):Int),op++[(out.length:Int)],out++[di x 0])):=by
 obtain⟨hi,hg⟩:=List.getElem?_eq_some_iff.1 hx;obtain⟨hi2,_⟩:=List.getElem?_eq_some_iff.1 hs;simp only[gi];rw[zB (show(i:Int)<(l.length:Int)by omega),zC,ci hi,hg];simp only[zG];rw[zB hk];simp only[zC];rw[cl hi2];simp only[zG];rw[hs];simp only[zG,de];rw[zA hn,zD,dh (by omega) (by omega)];simp only[zG,de,cn];rw[dh (by omega) (by omega),bq (by omega)];rfl
theorem cS2 {i q:Nat}{op:Zd}{out:List xg}{o:cq}{t:Nat}(hl:l.length<=1000)(ho:out.length<=1000)(hp:op.length<=1000){x:cq}(hx:l[i]?=C x)(hk:x.1=0)(hq:out[q]?=C (di o t)):
  gi l (em,m) (es,S) ((i:Int),op++[(q:Int)],out)=C (.inl (((i+1:Nat):Int),op,out.set q (di o (out.length+1))++[di x (q+1)])):=by
 obtain⟨hi,hg⟩:=List.getElem?_eq_some_iff.1 hx;obtain⟨hq1,_⟩:=List.getElem?_eq_some_iff.1 hq;have hlen:(op++[(q:Int)]).length=op.length+1:=by simp
 simp only[gi];rw[zB (show(i:Int)<(l.length:Int)by omega),zC,ci hi,hg];simp only[zG];rw[zA (show¬x.1=7 by omega),zB hk];simp only[zD,zC,zG,cn];rw[bq (n:=((op++[(q:Int)]).length:Int)-1) (by omega),show((op++[(q:Int)]).length:Int)-1=(op.length:Int)by omega,cl (show op.length<(op++[(q:Int)]).length by omega)];simp only[zG];rw[bB (aB _),aD];simp only[List.getElem?_cons_zero,zG];rw[lF (by omega),fq,cl hq1];simp only[zG];rw[hq];simp only[zG];rw[dh (by simp;omega) (by omega)];simp only[zG,de,cn]
 have htk:(op++[(q:Int)]).take ((op.length:Int).toNat-0)=op:=by
  rw[show(op.length:Int).toNat-0=op.length by omega,List.take_left'];rfl
 rw[htk,bq (n:=(i:Int)+1) (by omega),bq (n:=(out.length:Int)+1) (by omega),bq (n:=(q:Int)+1) (by omega)];rfl
theorem bu1 (hl:l.length<=1000)(hK:cB5 l m S): ∀(f:Fo) (A B:List cq) (op:Zd) (out:List xg),l=A++f.src++B->f.Ok->op.length<=A.length->out.length<=A.length->
  ∃k,k<=f.len/\Reach (gi l (em,m) (es,S)) k ((A.length:Int),op,out) (((A.length+f.len:Nat):Int),op,out++f.bare.code out.length)
 | .nil,A,B,op,out,hs,_,_,_=>by
  refine⟨0,aB _, ?_⟩;simp only[Fo.bare,Fo.code,Fo.len,List.append_nil,Nat.add_zero];exact Reach.refl
 | .op o r,A,B,op,out,hs,hk,hp,ho=>by
  have hA:(A++[o]).length=A.length+1:=by simp
  have hll:l.length=A.length+(r.len+1)+B.length:=by rw[hs];simp[Fo.src,Fo.src_len];omega
  have hx:l[A.length]?=C o:=by rw[hs,bD,bB (aB _),aD];rfl
  obtain⟨k,k1,k2⟩:=bu1 hl hK r (A++[o]) B op (out++[di o 0]) (by rw[hs];simp[Fo.src]) hk.2 (by omega) (by simp;omega);refine⟨1+k,by simp only[Fo.len];omega, ?_⟩;have h1:=(Reach.one (dx7 (em:=em) (es:=es) (op:=op) (out:=out) hl (by omega) hx hk.1)).trans (show Reach _ k _ _ from by rw[hA]at k2;exact k2);simp only[Fo.bare,Fo.code,Fo.len];rw[show A.length+(r.len+1)=A.length+1+r.len by omega];rw[bD,dB]at h1;exact h1
 | .rep o b e r,A,B,op,out,hs,hk,hp,ho=>by
  obtain⟨⟨k1,k2⟩,k3,k4⟩:=hk;have hll:l.length=A.length+(b.len+r.len+2)+B.length:=by rw[hs];simp[Fo.src,Fo.src_len];omega
  have hx:l[A.length]?=C o:=by rw[hs,bD,bB (aB _),aD];rfl
  obtain⟨hm,hS⟩:=hK.2.2 A (r.src++B) o e b (by rw[hs];simp[Fo.src]) k3 k1 k2;have hAe:(A++o::b.src).length=A.length+1+b.len:=by simp[Fo.src_len];omega
  have hxe:l[A.length+1+b.len]?=C e:=by
   rw[show l=(A++o::b.src)++(e::(r.src++B))by rw[hs];simp[Fo.src],<-hAe,bB (aB _),aD];rfl
  have hAr:(A++o::(b.src++[e])).length=A.length+1+b.len+1:=by simp[Fo.src_len];omega
  simp only[Fo.bare,Fo.len];by_cases hz:b.n*oQ o=0
  .rw[zE hz];rw[hz]at hS;obtain⟨k,g1,g2⟩:=bu1 hl hK r (A++o::(b.src++[e])) B op out (by rw[hs];simp[Fo.src]) k4 (by omega) (by omega);refine⟨1+k,by omega, ?_⟩;have h1:=(Reach.one (dd4 (em:=em) (es:=es) (op:=op) (out:=out) hl hx k1 hS hm (by omega))).trans (show Reach _ k _ _ from by rw[hAr]at g2;exact g2);rw[show A.length+(b.len+r.len+2)=A.length+1+b.len+1+r.len by omega];exact h1
  .rw[zF hz];have hA:(A++[o]).length=A.length+1:=by simp
   obtain⟨kb,b1,b2⟩:=bu1 hl hK b (A++[o]) (e::(r.src++B)) (op++[(out.length:Int)]) (out++[di o 0]) (by rw[hs];simp[Fo.src]) k3 (by simp;omega) (by simp;omega);rw[hA]at b2;have hbl:=b.bare_len;have hrl:=r.bare_len;have holen:(out++[di o 0]++b.bare.code (out++[di o 0]).length).length=out.length+1+b.bare.len:=by simp[Fo.code_len];omega
   have hq:(out++[di o 0]++b.bare.code (out++[di o 0]).length)[out.length]?=C (di o 0):=by
    rw[bD,bB (aB _),aD];rfl
   have h2:=cS2 (em:=em) (es:=es) (m:=m) (S:=S) (op:=op) hl (by omega) (by omega) hxe k2 hq;rw[holen]at h2
   have hset:(out++[di o 0]++b.bare.code (out++[di o 0]).length).set out.length (di o (out.length+1+b.bare.len+1))=out++di o (out.length+1+b.bare.len+1)::b.bare.code (out.length+1):=by
    rw[bD,List.set_append_right _ _ (aB _),aD,dB];rfl
   rw[hset]at h2;obtain⟨k,g1,g2⟩:=bu1 hl hK r (A++o::(b.src++[e])) B op (out++di o (out.length+1+b.bare.len+1)::b.bare.code (out.length+1)++[di e (out.length+1)]) (by rw[hs];simp[Fo.src]) k4 (by omega) (by rw[hAr];simp[Fo.code_len];omega);rw[hAr]at g2;refine⟨1+kb+1+k,by omega, ?_⟩;have h1:=(((Reach.one (dd3 (em:=em) (es:=es) (m:=m) (op:=op) (out:=out) hl (by omega) (by omega) hx k1 hS (by omega))).trans b2).trans (Reach.one h2)).trans g2;rw[show A.length+(b.len+r.len+2)=A.length+1+b.len+1+r.len by omega]
   have e1:out++di o (out.length+1+b.bare.len+1)::b.bare.code (out.length+1)++[di e (out.length+1)]++r.bare.code (out++di o (out.length+1+b.bare.len+1)::b.bare.code (out.length+1)++[di e (out.length+1)]).length=out++(Fo.rep o b.bare e r.bare).code out.length:=by
    have hl3:(out++di o (out.length+1+b.bare.len+1)::b.bare.code (out.length+1)++[di e (out.length+1)]).length=out.length+b.bare.len+2:=by simp[Fo.code_len];omega
    rw[hl3];simp only[Fo.code];rw[show out.length+1+b.bare.len+1=out.length+b.bare.len+2 by omega];simp
   rw[e1]at h1;exact h1
end
theorem bI4 {l:List cq}:ag7 l=(lb l).bind λr=>C (r.2.1,r.2.2.1):=rfl
theorem cJ4 {R:Int}{l:List cq}(h:yA R l=0):lk0 l=0/\lk1 R l=0/\lk2 l=0/\lk3 l=0:=by
 unfold yA at h;split at h
 .omega
 split at h
 .omega
 split at h
 .omega
 .omega
structure Prg (R:Int)(l:List cq)(f:Fo):Prop where
 ops:OpsOk l
 ok:f.Ok
 src:f.src=l
 z:yA R l=0
 R1:1<=R/\R<=64
 deep:f.hi<=8
 n:f.n<=65536
 w:eg l=((f.n:Int),0)
 regs: ∀o∈l,0<o.1/\o.1<7->inR R.toNat o
theorem cX1 {R:Int}{l:List cq}(h:OpsOk l)(hp:yA R l=0): ∃f,Prg R l f:=by
 obtain⟨h0,h1,h2,h3⟩:=cJ4 hp
 have hform:be9 l=Za:=by
  unfold lk0 at h0;split at h0
  .assumption
  .omega
 have hregs:aV0 R l=Za:=by
  unfold lk1 at h1;split at h1
  .assumption
  .omega
 unfold be9 at hform;rw[cB,decide_eq_true_eq,cD]at hform;obtain⟨hs,hr⟩:=hform;unfold aV0 at hregs;rw[cB,decide_eq_true_eq,cD]at hregs;obtain⟨hR,ho⟩:=hregs;obtain⟨f,f1,f2⟩:=Fo.parse _ l (aB _) hs
 have hq: ∃t,Q9 l=C t/\t<=65536:=by
  unfold lk3 eg at h3;rw[zE hs]at h3;cases hq:Q9 l with
  |none=>rw[hq]at h3;cases h3
  |some t=>
   rw[hq]at h3;refine⟨t,rfl, ?_⟩;by_cases c:65536<t
   .simp only[zE c]at h3;cases h3
   .omega
 obtain⟨t,ht,hle⟩:=hq;have hn:t=(f.n:Int):=Fo.Q9_n f f1 (λx hx=>(h.v x (f2▸hx)).1) (by rw[f2];exact ht);refine⟨f,h,f1,f2,hp,hR, ?_,by omega, ?_,λo hm hk=> ?_⟩
 .have h4:=Fo.hi_le f1;rw[f2]at h4;unfold lk2 bt3 at h2;rw[zE hs]at h2;by_cases c:(8:Int)<((hmax l 0 0:Nat):Int)
  .simp only[zE c]at h2;cases h2
  .omega
 .unfold eg;rw[zE hs,ht];show(if 65536<t then((0:Int),(9:Int))else(t,0))=_;rw[zF (by omega),hn]
 .have h5:=List.any_eq_false.1 hr o hm;have h6:=List.any_eq_false.1 ho o hm;have h5:ul o=Za:=by simpa using h5
  have h6:cb7 R o=Zb:=by simpa using h6
  obtain⟨k,d,a,b,v⟩:=o;have hk:k=1∨k=2∨k=3∨k=4∨k=5∨k=6:=by simp only at hk;omega
  unfold inR
  rcases hk with rfl|rfl|rfl|rfl|rfl|rfl<;>
   .simp[ul,as8,cw]at h5;simp[cb7,cw]at h6;simp only;omega
theorem aY8 {R:Int}{l:List cq}{f:Fo}(hP:Prg R l f):rG R l=C (0,f.bare.code 0):=by
 unfold rG;rw[bH3 hP.ops];simp only[zG];rw[hP.z,zA (by simp),zD];have hl:=hP.ops.len;have hs:co l 0=C 0:=by rw[<-hP.src];exact Fo.scan0 hP.ok
 obtain⟨m,hm,hM⟩:=bj8 (l:=l) (by omega) hs;obtain⟨r,hr,r1,r2,r3⟩:=aV6 (l:=l) (by omega) hP.ops.v;rw[hm,bI4,hr];simp only[zG];have hw:=hP.w;rcases r3 with⟨r3,_⟩|⟨_,_,r4,r5,r6⟩
 .rw[hw]at r3;exact(r3 rfl).elim
 have hK:=do7 hM r4 (λo ho=>hP.ops.v o ho) r6;obtain⟨k,k1,k2⟩:=bu1 (em:=0) (es:=r.2.1) (by omega) hK f [] [] [] [] (by simp[hP.src]) hP.ok (by simp) (by simp);have hfl:f.len=l.length:=by rw[<-Fo.src_len,hP.src]
 have h1:=k2 (18446744073709551616-k);rw[show 18446744073709551616-k+k=dq by unfold dq;omega,show 18446744073709551616-k=(18446744073709551615-k)+1 by omega]at h1
 have hloop:ca (gi l (0,m) (r.2.1,r.2.2.1)) dq ((0:Int),([]:Zd),([]:List xg))=C (f.bare.code 0):=by
  refine h1.trans ?_;rw[df];simp only[gi];rw[zA (by rw[hfl];simp),zD];rfl
 rw[hloop];rfl
end
section
open List renaming replicate -> aB, length_replicate -> aD
theorem gk {α γ:Type}{g:α->Option (α⊕γ)}{k:Nat}{s s':α}{c:γ}(h:Reach g k s s')(hk:k<=1000000000)(he:g s'=C (.inr c)):ca g dq s=C c:=by
 have h1:=h (18446744073709551616-k);rw[show 18446744073709551616-k+k=dq by unfold dq;omega,show 18446744073709551616-k=(18446744073709551615-k)+1 by omega]at h1;refine h1.trans ?_;rw[df,he];rfl
section
variable {R:Int} {l:List cq} {f:Fo}
theorem Prg.len (h:Prg R l f):f.len<=100:=by
 have:=h.ops.len;rw[<-Fo.src_len,h.src];exact this
theorem Prg.clen (h:Prg R l f):(f.bare.code 0).length<=1000:=by
 have h1:=h.len;have h2:=f.bare_len;rw[Fo.code_len];omega
theorem Prg.steps (h:Prg R l f):f.bare.steps<=1000000000:=by
 have h1:=Fo.steps_le f.bare f.bare_pos;rw[Fo.bare_n]at h1;have h2:=h.len;have h3:=f.bare_len;have h4:=h.n;have h5:(2*f.bare.len+1)*f.n<=201*65536:=Nat.mul_le_mul (by omega) h4;omega
theorem Prg.good (h:Prg R l f): ∀o∈f.bare.src,(0<o.1/\o.1<7->inR R.toNat o)/\okV o:=λo ho=>by
 have:=Fo.bare_mem f ho;rw[h.src]at this;exact⟨h.regs o this,h.ops.v o this⟩
theorem Prg.hi (h:Prg R l f):0+f.bare.hi<=8:=by
 have h1:=h.deep;have h2:=f.bare_hi;omega
theorem Prg.writes (h:Prg R l f):jq l=C ((f.n:Int),0):=by
 rw[vx (by have:=h.ops.len;omega) h.ops.v,h.w]
def do4 (R:Nat)(o:cq):Prop:=0<o.1/\o.1<7->inR R o
theorem bM6 {Y γ S:Type}{g:Y->Option (Y⊕γ)}{code:List xg}{st:Nat->Nat->(Nat->Int)->S->Y}{stp:cq->S->S}{Vd:Nat->S->Prop}{R:Nat}(h:Runs g code st stp Vd (inR R)):Runs g code st stp Vd (do4 R):=
 ⟨λh1 h2 h3 h4 h5=>h.op h1 (h2 h3) h3 h4 h5,h.rep,h.nxt,h.out⟩
theorem cu4 {Y γ S:Type}{g:Y->Option (Y⊕γ)}{code:List xg}{st:Nat->Nat->(Nat->Int)->S->Y}{stp:cq->S->S}{Vd:Nat->S->Prop}{R:Nat}(h:Backs g code st stp Vd (inR R)):Backs g code st stp Vd (do4 R):=
 ⟨λh1 h2 h3 h4 h5=>h.op h1 (h2 h3) h3 h4 h5,h.rep,h.nxt,h.out⟩
def rC (f:Fo)(r t:Zd):TS:=vC mm f.unroll (r,t,0)
theorem cN5 (h:Prg R l f){r t:Zd}(hr:r.length=R.toNat)(ht:f.n<=t.length)(ht2:t.length<=1000000):
  zr (f.bare.code 0) r t=C (((rC f r t).2.2:Int),(rC f r t).1,(rC f r t).2.1)/\(rC f r t).1.length=R.toNat/\(rC f r t).2.1.length=t.length:=by
 obtain⟨l',_,h2,h3⟩:=by3 (m:=0) (l:=λ_=>0) (s:=((r,t,0):TS)) (d:=0) (p:=0) (A:=[]) (B:=[]) (bM6 (cM8 (R:=R.toNat) (N:=t.length) h.clen ht2)) f.bare (by simp) rfl (Fo.bare_ok f h.ok) f.bare_pos h.hi h.good ⟨hr,rfl,by rw[Fo.bare_n];show 0+(f.n+0)<=_;omega⟩;rw[Fo.bare_unroll]at h2 h3;refine⟨?_,h3.1,h3.2.1⟩;unfold zr
 have:=gk h2 h.steps (c:=(((rC f r t).2.2:Int),(rC f r t).1,(rC f r t).2.1,l' 0,l' 1,l' 2,l' 3,l' 4,l' 5,l' 6,l' 7)) (by
  unfold stT;simp only[lf];rw[zB (by rw[Fo.code_len];omega),zC]
  rfl)
 have e:stT 0 0 (λ_=>0) ((r,t,0):TS)=(0,0,0,r,t,0,0,0,0,0,0,0,0):=rfl;rw[e]at this;rw[this];rfl
theorem bg3 (h:Prg R l f){r t:Zd}(hr:r.length=R.toNat)(ht:f.n<=t.length)(ht2:t.length<=1000000):
  qA R l r t=C (((rC f r t).2.2:Int),0,(rC f r t).1,(rC f r t).2.1)/\(rC f r t).1.length=R.toNat/\(rC f r t).2.1.length=t.length:=by
 obtain⟨h1,h2,h3⟩:=cN5 h hr ht ht2;refine⟨?_,h2,h3⟩;unfold qA ag8;rw[aY8 h,h.writes];have hR:=h.R1;simp only[zG];rw[zA (show¬((0:Int)≠0)by simp),zD,zA (show¬((r.length:Int)≠R)by omega),zD,zA (show¬((t.length:Int)<(f.n:Int))by omega),zD];simp only[zG];rw[zA (show¬((0:Int)≠0)by simp),zD,h1];rfl
def aV4 (f:Fo)(r:Zd):Zd:=(vC an6 f.unroll (r,0)).1
theorem ca6 (h:Prg R l f){r:Zd}(hr:r.length=R.toNat):sj (-1) (f.bare.code 0) r=C (aV4 f r)/\(aV4 f r).length=R.toNat:=by
 obtain⟨l',_,h2,h3⟩:=by3 (m:=0) (l:=λ_=>0) (s:=((r,0):FS)) (d:=0) (p:=0) (A:=[]) (B:=[]) (bM6 (cY2 (R:=R.toNat) (M:=65536) h.clen (by omega))) f.bare (by simp) rfl (Fo.bare_ok f h.ok) f.bare_pos h.hi h.good ⟨hr,by rw[Fo.bare_n];show 0+(f.n+0)<=_;have:=h.n;omega⟩;rw[Fo.bare_unroll]at h2 h3;refine⟨?_,h3.1⟩;unfold sj
 have:=gk h2 h.steps (c:=(aV4 f r,l' 0,l' 1,l' 2,l' 3,l' 4,l' 5,l' 6,l' 7)) (by
  unfold stF;simp only[jt];rw[zB (by rw[Fo.code_len];omega),zC]
  rfl)
 have e:stF 0 0 (λ_=>0) ((r,0):FS)=(0,0,0,r,0,0,0,0,0,0,0,0):=rfl;rw[e]at this;rw[this];rfl
def fill (R:Int)(r:Zd):Zd:=r++aB (R.toNat-r.length) 0
theorem ip {R:Int}{r:Zd}(h:r.length<=R.toNat):(fill R r).length=R.toNat:=by
 unfold fill;rw[List.length_append,aD];omega
theorem cI3 {R:Int}{r:Zd}(h:r.length<=R.toNat):ae3 (aB R.toNat (0:Int)) 0 (aB R.toNat (0:Int)).length r=fill R r:=by
 unfold ae3 fill;rw[aD,List.take_zero,List.nil_append,Nat.zero_add,Nat.min_eq_right h,List.take_of_length_le h,List.drop_replicate]
theorem cl4 (h:Prg R l f){r:Zd}(hr:r.length<=R.toNat):qs R l r=C (0,aV4 f (fill R r))/\(aV4 f (fill R r)).length=R.toNat:=by
 obtain⟨h1,h2⟩:=ca6 h (ip hr);refine⟨?_,h2⟩;have hR:=h.R1;unfold qs vE;rw[aY8 h];simp only[zG];rw[zA (show¬((0:Int)≠0)by simp),zD,zA (show¬(R<(r.length:Int))by omega),zD,zB (show 0<=R by omega),zB (show R<=R by omega),zB (show 8*R<=140737488355328 by omega),cI3 hr];show((gd Za _).bind _)=_;rw[fq];simp only[zG];rw[zA (show¬((0:Int)≠0)by simp),zD,h1];rfl
def rS (f:Fo)(r a t:Zd):BS:=zc (oO t) f.unroll (r,a,f.n)
theorem cA7 (h:Prg R l f){r a t:Zd}(hr:r.length=R.toNat)(ha:a.length=R.toNat)(ht:f.n<=t.length)(ht2:t.length<=1000000):
  nB (f.n:Int) r a t (f.bare.code 0)=C ((rS f r a t).1,(rS f r a t).2.1)/\(rS f r a t).1.length=R.toNat/\(rS f r a t).2.1.length=R.toNat:=by
 obtain⟨l',_,h2,h3⟩:=bl0 (m:=0) (l:=λ_=>0) (s:=((r,a,f.n):BS)) (d:=0) (p:=0) (A:=[]) (B:=[]) (cu4 (dw4 (R:=R.toNat) (t:=t) h.clen ht2)) f.bare (by simp) rfl (Fo.bare_ok f h.ok) f.bare_pos h.hi h.good ⟨hr,ha,by rw[Fo.bare_n];exact Nat.le_refl _,ht⟩;rw[Fo.bare_unroll]at h2 h3;refine⟨?_,h3.1,h3.2.1⟩;unfold nB;have hl:=h.clen;rw[Fo.code_len]at hl
 have:=gk h2 h.steps (c:=((rS f r a t).1,(rS f r a t).2.1,l' 0,l' 1,l' 2,l' 3,l' 4,l' 5,l' 6,l' 7)) (by
  unfold stB;simp only[gn];rw[zB (by omega),zC]
  rfl)
 have e:stB (0+f.bare.len) 0 (λ_=>0) ((r,a,f.n):BS)=(IntKind.i64.wrap (((f.bare.code 0).length:Int)-1),0,(f.n:Int),r,a,0,0,0,0,0,0,0,0):=by
  unfold stB;rw[Fo.code_len,bq (by omega),Nat.zero_add];rfl
 rw[e]at this;rw[this];rfl
theorem yG (h:Prg R l f){r a t:Zd}(hr:r.length=R.toNat)(ha:a.length=R.toNat)(ht:f.n<=t.length)(ht2:t.length<=1000000):
  sX R l r a t=C (0,(rS f r a t).1,(rS f r a t).2.1)/\(rS f r a t).1.length=R.toNat/\(rS f r a t).2.1.length=R.toNat:=by
 obtain⟨h1,h2,h3⟩:=cA7 h hr ha ht ht2;refine⟨?_,h2,h3⟩;have hR:=h.R1;unfold sX;rw[aY8 h,h.writes];simp only[zG];rw[zA (show¬((0:Int)≠0)by simp),zD,zA (show¬((r.length:Int)≠R)by omega),zD,zA (show¬((a.length:Int)≠R)by omega),zD,zA (show¬((t.length:Int)<(f.n:Int))by omega),zD,h1];rfl
end
end
section
open List renaming length_take -> aB, getElem?_take -> aD, ext_getElem? -> bB, getElem?_drop -> bD, getElem?_append_left -> cB, getElem?_append_right -> cD, length_append -> dB, length_drop -> dD, take_length -> eB
def seg (W:Zd)(o n:Nat):Zd:=(W.drop o).take n
def put (W:Zd)(o:Nat)(w:Zd):Zd:=W.take o++(w++W.drop (o+w.length))
theorem uF (W:Zd)(o n i:Nat):(seg W o n)[i]?=if i<n then W[o+i]? else O:=by
 unfold seg;rw[aD];split
 .rw[bD]
 .rfl
theorem am7 {W:Zd}{o:Nat}{w:Zd}(h:o+w.length<=W.length)(i:Nat):(put W o w)[i]?=if o<=i/\i<o+w.length then w[i-o]? else W[i]?:=by
 unfold put;have hl:(W.take o).length=o:=by rw[aB];omega
 by_cases h1:i<o
 .rw[cB (by omega),aD,zE h1,zF (by omega)]
 .rw[cD (by omega),hl];by_cases h2:i<o+w.length
  .rw[cB (by omega),zE ⟨by omega,h2⟩]
  .rw[cD (by omega),bD,zF (by omega)]
   congr 1
   omega
theorem jK {W:Zd}{o n:Nat}(h:o+n<=W.length):(seg W o n).length=n:=by
 unfold seg;rw[aB,dD];omega
theorem di0 {W:Zd}{o:Nat}{w:Zd}(h:o+w.length<=W.length):(put W o w).length=W.length:=by
 unfold put;rw[dB,dB,aB,dD];omega
theorem cz8 {W:Zd}{o:Nat}{w:Zd}{n:Nat}(h:o+w.length<=W.length)(hn:n<=w.length):seg (put W o w) o n=w.take n:=by
 apply bB;intro i;rw[uF,aD,am7 h];split
 .rw[zE (by omega)]
  congr 1
  omega
 .rfl
theorem tF {W:Zd}{o:Nat}{w:Zd}(h:o+w.length<=W.length):seg (put W o w) o w.length=w:=by
 rw[cz8 h (Nat.le_refl _),eB]
theorem yE {W:Zd}{o:Nat}{w:Zd}{o' n:Nat}(h:o+w.length<=W.length)(hd:o'+n<=o∨o+w.length<=o'):seg (put W o w) o' n=seg W o' n:=by
 apply bB;intro i;rw[uF,uF];split
 .rw[am7 h,zF (by omega)]
 .rfl
theorem cc4 {W:Zd}{o:Nat}{w:Zd}{i:Nat}(h:o+w.length<=W.length)(hd:i<o∨o+w.length<=i):(put W o w)[i]?=W[i]?:=by
 rw[am7 h,zF (by omega)]
theorem cQ9 {W w:Zd}{o:Nat}(h:o+w.length<=W.length):ae3 W o w.length w=put W o w:=by
 unfold ae3 put;rw[eB,Nat.min_self]
theorem br1 {W:Zd}{o n tk:Nat}(h:o+n<=tk)(ht:tk<=W.length)(hw:W.length<=1048576):gw (o:Int) (n:Int) (tk:Int) W=C (0,seg W o n):=by
 unfold gw;rw[zA (by omega),zD,zA (by omega),zD,zA (by omega),zD,bq (n:=(tk:Int)-o) (by omega),zA (by omega),zD,bq (n:=(o:Int)+n) (by omega),lF (by omega),fq];unfold cd;rw[show((o:Int)+n).toNat-(o:Int).toNat=n by omega,show(o:Int).toNat=o by omega,dh (by rw[aB];omega) (by omega)];rfl
theorem cH7 {W:Zd}{o tk:Nat}(h:o<tk)(ht:tk<=W.length)(hw:W.length<=1048576):gq (o:Int) (tk:Int) W=C (rg W (o:Int),0):=by
 unfold gq;rw[zA (by omega),zD,zA (by omega),zD,bq (n:=(tk:Int)-o) (by omega),zA (by omega),zD,bq (n:=(o:Int)+1) (by omega),lF (by omega),fq];unfold cd;rw[show((o:Int)+1).toNat-(o:Int).toNat=1 by omega,show(o:Int).toNat=o by omega,dh (by rw[aB];omega) (by omega)]
 have hs:(W.drop o).take 1=[rg W (o:Int)]:=by
  apply bB;intro i;rw[aD,bD];rcases Nat.eq_zero_or_pos i with rfl|hi
  .rw[zE (by omega),Nat.add_zero,fh (by omega)];rfl
  .rw[zF (by omega),List.getElem?_eq_none (by simp;omega)]
 rw[hs];rfl
theorem cj4 {W w:Zd}{o tk:Nat}(h:o+w.length<=tk)(ht:tk<=W.length)(hw:W.length<=1048576):gm (o:Int) w (tk:Int) W=C (0,put W o w):=by
 unfold gm;rw[zA (by omega),zD,zA (by omega),zD,zA (by omega),zD,bq (n:=(tk:Int)-o) (by omega),zA (by omega),zD,bq (n:=(o:Int)+w.length) (by omega),lF (by omega),fq,show((o:Int)+w.length).toNat-(o:Int).toNat=w.length by omega,show(o:Int).toNat=o by omega,cQ9 (by omega)]
end
section
structure Cx where
 mode:Int
 R:Int
 Q:Int
 len:Int
 words:Int
 X:Zd
 T:Zd
 l:List cq
 k:List cq
 fl:Fo
 fk:Fo
 fixed:Int
 tp:Int
 sl:Int
 ns:Int
namespace Cx
def sz (c:Cx):Nat->Nat
 |0=>c.T.length
 |1=>c.X.length
 |2=>c.R.toNat
 |3=>c.Q.toNat
 |4=>max c.R.toNat c.Q.toNat
 |5=>c.X.length
 |6=>c.T.length
 |7=>c.tp.toNat
 |8=>(c.sl*c.ns).toNat
 |_=>0
def off (c:Cx):Nat->Nat
 |0=>0
 |i+1=>c.off i+c.sz i
def P (c:Cx):Zd:=(List.range 10).map λi=>(c.off i:Int)
def tk (c:Cx):Int:=(c.off 9:Int)
structure Ok (c:Cx):Prop where
 hl:OpsOk c.l
 hk:OpsOk c.k
 hc:xq c.mode c.X.length c.T.length c.R c.l c.Q c.k c.len c.words=0
 pl:Prg c.R c.l c.fl
 pk:Prg c.Q c.k c.fk
 fixed:c.fixed=oN c.X.length c.T.length c.R c.Q
 tp:c.tp=nY c.mode c.l c.k
 sl:c.sl=oM c.mode c.X.length c.R c.l
 ns:0<=c.ns/\c.ns<=1048576
 fit:c.fixed+c.tp+c.sl*c.ns<=c.words
 base:c.mode=3->c.ns=c.len
end Cx
structure Num (c:Cx):Prop where
 mode:1<=c.mode/\c.mode<=3
 R:1<=c.R/\c.R<=64
 Q:1<=c.Q/\c.Q<=64
 x:1<=c.X.length/\c.X.length<=64
 t:c.T.length<=64
 xtR:(c.X.length:Int)+c.T.length+1<=c.R
 xtQ:(c.X.length:Int)+c.T.length<=c.Q
 len:0<=c.len/\c.len<=65535
 words:0<=c.words/\c.words<=1048576
 n:c.fl.n<=65536
 m:c.fk.n<=65536
 tp:c.tp=(if c.mode=3 then(c.fk.n:Int)else c.fl.n+c.fk.n)
 sl:c.sl=(if c.mode=3 then(c.fl.n:Int)+c.R else c.X.length+1)
 fixed:c.fixed=2*c.T.length+2*c.X.length+c.R+c.Q+max c.R c.Q
 mul:0<=c.sl*c.ns
theorem aZ0 {m:Int}{x t:Nat}{R:Int}{l:List cq}{Q:Int}{k:List cq}{n b:Int}(h:xq m x t R l Q k n b=0):qo R l Q k=0/\zM R Q x t=0:=by
 unfold xq at h;split at h
 .rename_i c;exact(c h).elim
 split at h
 .rename_i c;exact(c h).elim
 split at h
 .rename_i c;exact(c h).elim
 rename_i c1 c2 c3;exact⟨by omega,by omega⟩
theorem cL7 {R Q:Int}{l k:List cq}(h:qo R l Q k=0):yA R l=0/\yA Q k=0:=by
 unfold qo at h
 repeat' split at h
 all_goals first|(exact absurd h (by assumption))|skip
 unfold yA;constructor
 .repeat' split
  all_goals first|(rename_i c;exact(by omega))|omega
 .repeat' split
  all_goals first|(rename_i c;exact(by omega))|omega
theorem bJ8 {R Q:Int}{x t:Nat}(hx:x<=64)(ht:t<=64)(h:zM R Q x t=0):(x:Int)+t+1<=R/\(x:Int)+t<=Q:=by
 unfold zM at h;rw[bq (n:=(x:Int)+t) (by omega),bq (n:=(x:Int)+t+1) (by omega)]at h
 repeat' split at h
 all_goals omega
theorem Cx.Ok.num {c:Cx}(h:c.Ok):Num c:=by
 have f:=am1 h.hl h.hk h.hc;obtain⟨h1,h2⟩:=aZ0 h.hc;obtain⟨h3,h4⟩:=bJ8 f.xs.2 f.ts h2;have w1:=h.pl.w;have w2:=h.pk.w;have s:=bb2 h.hl h.hk h.hc;refine⟨f.mode,f.regs,f.regs',f.xs,f.ts,h3,h4,f.len,f.bud,h.pl.n,h.pk.n, ?_, ?_, ?_, ?_⟩
 .rw[h.tp];unfold nY;rw[w1,w2]
 .rw[h.sl];unfold oM;rw[w1]
 .rw[h.fixed];unfold oN;rfl
 .rw[h.sl];exact(bv7 (by have:=s.sl;omega) h.ns).1
section
variable {c:Cx}
theorem dF4 :c.off 1=c.T.length:=Nat.zero_add _
theorem dF5 :c.off 2=c.T.length+c.X.length:=by show c.off 1+_=_;rw[dF4];rfl
theorem dF6 :c.off 3=c.T.length+c.X.length+c.R.toNat:=by show c.off 2+_=_;rw[dF5];rfl
theorem dF7 :c.off 4=c.T.length+c.X.length+c.R.toNat+c.Q.toNat:=by show c.off 3+_=_;rw[dF6];rfl
theorem dF8 :c.off 5=c.T.length+c.X.length+c.R.toNat+c.Q.toNat+max c.R.toNat c.Q.toNat:=by show c.off 4+_=_;rw[dF7];rfl
theorem dF9 :c.off 6=c.T.length+c.X.length+c.R.toNat+c.Q.toNat+max c.R.toNat c.Q.toNat+c.X.length:=by show c.off 5+_=_;rw[dF8];rfl
theorem dA2 :c.off 7=c.T.length+c.X.length+c.R.toNat+c.Q.toNat+max c.R.toNat c.Q.toNat+c.X.length+c.T.length:=by show c.off 6+_=_;rw[dF9];rfl
theorem dG0 :c.off 8=c.off 7+c.tp.toNat:=rfl
theorem bH9 :c.off 9=c.off 8+(c.sl*c.ns).toNat:=rfl
theorem cx7 {i j:Nat}(h:i<=j):c.off i<=c.off j:=by
 induction j with
 |zero=>rw[Nat.le_zero.1 h];exact Nat.le_refl _
 |succ j ih=>
  rcases Nat.lt_or_ge i (j+1)with h1|h1
  .exact Nat.le_trans (ih (by omega)) (Nat.le_add_right _ _)
  .rw[Nat.le_antisymm h h1];exact Nat.le_refl _
theorem jm {i j:Nat}(h:i<j):c.off i+c.sz i<=c.off j:=cx7 (c:=c) (i:=i+1) h
theorem Cx.Ok.off9_le (h:c.Ok):(c.off 9:Int)<=c.words:=by
 have n:=h.num;have g1:=n.R;have g2:=n.Q;have g3:=n.fixed;have g4:=n.tp;have g5:=n.mul;have g6:=h.fit;have htp:0<=c.tp:=by rw[g4];split<;>omega
 rw[bH9,dG0,dA2];omega
theorem Cx.P_get {i:Nat}(h:i<10):c.P[i]?=C (c.off i:Int):=by
 unfold Cx.P;rw[List.getElem?_map,List.getElem?_range h];rfl
theorem Cx.P_len :c.P.length=10:=by unfold Cx.P;simp
def Wd (c:Cx)(W:Zd):Prop:=W.length=c.words.toNat
theorem Wd.tk {W:Zd}(h:c.Ok)(hW:Wd c W):c.off 9<=W.length/\W.length<=1048576:=by
 have:=h.off9_le;have:=h.num.words;unfold Wd at hW;omega
theorem Wd.put {W w:Zd}{o:Nat}(h:c.Ok)(hW:Wd c W)(ho:o+w.length<=c.off 9):Wd c (put W o w):=by
 have:=hW.tk h;unfold Wd at hW⊢;rw[di0 (by omega),hW]
theorem put1 {i:Nat}{ii a0 a1 a2 a3 a4 a5 a6 a7 a8 a9 a10 a11 a12 a13 a14 a15 a16:Int}{X T:Zd}{l k:List cq}{lv pk bd:Int}{W w:Zd}(h:c.Ok)(hW:Wd c W)(hi:ii=(i:Int))(hi9:i<9)(hw:w.length<=c.sz i):
  kS ii w a0 a1 a2 a3 a4 a5 a6 a7 a8 a9 a10 a11 a12 a13 a14 a15 a16 X T l k c.P c.tk lv pk bd W=C (put W (c.off i) w):=by
 subst hi;have hk:=hW.tk h;have h9:=jm (c:=c) (i:=i) (j:=9) hi9;unfold kS;rw[cl (show i<c.P.length by rw[Cx.P_len];omega)];simp only[zG];rw[Cx.P_get (show i<10 by omega)];simp only[zG];unfold Cx.tk;rw[cj4 (by omega) hk.1 hk.2];rfl
end
end
section
open List renaming length_append -> aB
theorem gdz {β:Type}{n:Int}{y:Option β}(h:0<=n/\n<=1048576):gd (Nat.beq 1 (Sh.w (.int .u64))&&Zc (0<=n)&&Zc (n<=n)&&Zc ((8:Int)*n<=140737488355328)&&Nat.ble 1 8) y=y:=by
 rw[zB h.1,zB (Int.le_refl n),zB (by omega)];rfl
section
variable {c:Cx}
theorem Cx.Ok.of (h:c.Ok):ob c.mode c.X c.T c.R c.l c.Q c.k c.len c.words=C ((c.fl.n:Int),(c.fk.n:Int)):=by
 rw[cF1 h.hl h.hk,zF (λk=>k h.hc),h.pl.w,h.pk.w]
def dg (n:Nat):Zd:=List.replicate n 0
def stepR (c:Cx)(W:Zd)(p:Int):TS:=rC c.fl (fill c.R (seg W (c.off 1) c.X.length++(seg W 0 c.T.length++[IntKind.u64.wrap p]))) (dg c.fl.n)
def lossR (c:Cx)(W x:Zd):TS:=rC c.fk (fill c.Q (x++(seg W 0 c.T.length++[]))) (dg c.fk.n)
def yY (x:Nat)(g a:Zd):Zd:=(List.range g.length).map λ(i:Nat)=>IntKind.u64.wrap (rg g (i:Int)+rg a ((x+i:Nat):Int))
def aS1 (c:Cx)(W a:Zd):Zd:=
 put (put (put W (c.off 4) a) (c.off 5) (a.take c.X.length)) (c.off 6) (yY c.X.length (seg (put (put W (c.off 4) a) (c.off 5) (a.take c.X.length)) (c.off 6) c.T.length) a)
theorem ae2 (x:Nat)(g a:Zd):(yY x g a).length=g.length:=by unfold yY;simp
theorem Wd.in' {W:Zd}(h:c.Ok)(hW:Wd c W){i:Nat}(hi:i<9):c.off i+c.sz i<=W.length:=by
 have:=hW.tk h;have:=jm (c:=c) (i:=i) (j:=9) hi;omega
theorem gl (n:Nat):(dg n).length=n:=List.length_replicate
theorem pp (h:c.Ok){W:Zd}(hW:Wd c W)(p:Int):(fill c.R (seg W (c.off 1) c.X.length++(seg W 0 c.T.length++[IntKind.u64.wrap p]))).length=c.R.toNat/\(stepR c W p).1.length=c.R.toNat/\(stepR c W p).2.1.length=c.fl.n:=by
 have n:=h.num;have h1:=hW.in' h (i:=1) (by omega);have h0:=hW.in' h (i:=0) (by omega);have l1:(seg W (c.off 1) c.X.length).length=c.X.length:=jK h1;have l0:(seg W 0 c.T.length).length=c.T.length:=jK h0
 have hf:(fill c.R (seg W (c.off 1) c.X.length++(seg W 0 c.T.length++[IntKind.u64.wrap p]))).length=c.R.toNat:=by
  apply ip;rw[aB,aB,l1,l0];have:=n.xtR;simp;omega
 obtain⟨_,h2,h3⟩:=bg3 h.pl hf (t:=dg c.fl.n) (by rw[gl];exact Nat.le_refl _) (by rw[gl];have:=n.n;omega);rw[gl]at h3;exact⟨hf,h2,h3⟩
theorem bf3 (h:c.Ok){W x:Zd}(hW:Wd c W)(hx:x.length=c.X.length):(fill c.Q (x++(seg W 0 c.T.length++[]))).length=c.Q.toNat/\(lossR c W x).1.length=c.Q.toNat/\(lossR c W x).2.1.length=c.fk.n:=by
 have n:=h.num;have h0:=hW.in' h (i:=0) (by omega);have l0:(seg W 0 c.T.length).length=c.T.length:=jK h0
 have hf:(fill c.Q (x++(seg W 0 c.T.length++[]))).length=c.Q.toNat:=by
  apply ip;rw[aB,aB,l0,hx];have:=n.xtQ;simp;omega
 obtain⟨_,h2,h3⟩:=bg3 h.pk hf (t:=dg c.fk.n) (by rw[gl];exact Nat.le_refl _) (by rw[gl];have:=n.m;omega);rw[gl]at h3;exact⟨hf,h2,h3⟩
theorem zK (h:c.Ok){W a:Zd}(hW:Wd c W)(ha:c.X.length+c.T.length<=a.length)(ha2:a.length<=max c.R.toNat c.Q.toNat):
  Wd c (put W (c.off 4) a)/\Wd c (put (put W (c.off 4) a) (c.off 5) (a.take c.X.length))/\Wd c (aS1 c W a):=by
 have h4:=jm (c:=c) (i:=4) (j:=9) (by omega);have h5:=jm (c:=c) (i:=5) (j:=9) (by omega);have h6:=jm (c:=c) (i:=6) (j:=9) (by omega);have s4:c.sz 4=max c.R.toNat c.Q.toNat:=rfl;have s5:c.sz 5=c.X.length:=rfl;have s6:c.sz 6=c.T.length:=rfl;have w1:=hW.put h (w:=a) (o:=c.off 4) (by omega);have w2:=w1.put h (w:=a.take c.X.length) (o:=c.off 5) (by rw[List.length_take];omega);refine⟨w1,w2, ?_⟩;unfold aS1;refine w2.put h ?_;rw[ae2,jK (n:=c.T.length) (w2.in' h (i:=6) (by omega))];omega
def cv5 (c:Cx)(W x:Zd):Zd:=aS1 c (put W (c.off 3) (lossR c W x).1) (rS c.fk (lossR c W x).1 (fill c.Q [1]) (lossR c W x).2.1).2.1
theorem bl1 (h:c.Ok){W x:Zd}(hW:Wd c W)(hx:x.length=c.X.length):Wd c (put W (c.off 3) (lossR c W x).1)/\Wd c (cv5 c W x):=by
 have n:=h.num;obtain⟨f1,f2,f3⟩:=bf3 h hW hx;have nR:=n.R;have nQ:=n.Q;have n2:=n.xtQ;have nx:=n.x;have nm:=n.m;have h3:=jm (c:=c) (i:=3) (j:=9) (by omega);have s3:c.sz 3=c.Q.toNat:=rfl;have w1:=hW.put h (w:=(lossR c W x).1) (o:=c.off 3) (by omega);obtain⟨_,r2,r3⟩:=yG h.pk f2 (a:=fill c.Q [1]) (t:=(lossR c W x).2.1) (ip (by simp;omega)) (Nat.le_of_eq f3.symm) (by omega);exact⟨w1,(zK h w1 (by omega) (by omega)).2.2⟩
end
end
section
section
variable {c:Cx}
def bN3 (c:Cx)(W r t:Zd):Zd:=aS1 c W (rS c.fl r (fill c.R (seg W (c.off 5) c.X.length)) t).2.1
theorem bA0 (h:c.Ok){W r t:Zd}(hW:Wd c W)(hr:r.length=c.R.toNat)(ht:t.length=c.fl.n):(fill c.R (seg W (c.off 5) c.X.length)).length=c.R.toNat/\Wd c (bN3 c W r t):=by
 have n:=h.num;have nR:=n.R;have n1:=n.xtR;have nx:=n.x;have nn:=n.n;have h5:=hW.in' h (i:=5) (by omega);have l5:(seg W (c.off 5) c.X.length).length=c.X.length:=jK h5;have hf:(fill c.R (seg W (c.off 5) c.X.length)).length=c.R.toNat:=ip (by omega);obtain⟨_,r2,r3⟩:=yG h.pl hr hf (Nat.le_of_eq ht.symm) (by omega);exact⟨hf,(zK h hW (by omega) (by omega)).2.2⟩
def cX8 (c:Cx)(W:Zd)(p:Int):Zd:=bN3 c (put W (c.off 2) (stepR c W p).1) (stepR c W p).1 (stepR c W p).2.1
theorem bb5 (h:c.Ok){W:Zd}(hW:Wd c W)(p:Int):Wd c (put W (c.off 2) (stepR c W p).1):=by
 obtain⟨_,f2,_⟩:=pp h hW p;have h2:=jm (c:=c) (i:=2) (j:=9) (by omega);have s2:c.sz 2=c.R.toNat:=rfl;exact hW.put h (by omega)
def cj8 (c:Cx)(W:Zd)(p:Int):Zd:=bN3 c (cv5 c (put W (c.off 2) (stepR c W p).1) ((stepR c W p).1.take c.X.length)) (stepR c W p).1 (stepR c W p).2.1
def bg1 (c:Cx)(W:Zd)(p:Int):Zd:=aV4 c.fl (fill c.R (seg W (c.off 1) c.X.length++(seg W 0 c.T.length++[IntKind.u64.wrap p])))
def adv1 (c:Cx)(W:Zd)(p:Int):Zd:=put (put W (c.off 2) (bg1 c W p)) (c.off 1) ((bg1 c W p).take c.X.length)
def advW (c:Cx)(W:Zd)(p:Int):Nat->Zd
 |0=>W
 |i+1=>adv1 c (advW c W p i) (p+i)
theorem cJ3 {R:Int}{r:Zd}(h:r.length=R.toNat):fill R r=r:=by
 unfold fill;rw[h,Nat.sub_self];simp
theorem bg2 (h:c.Ok){W:Zd}(hW:Wd c W)(p:Int):qs c.R c.l (fill c.R (seg W (c.off 1) c.X.length++(seg W 0 c.T.length++[IntKind.u64.wrap p])))=C (0,bg1 c W p)/\(bg1 c W p).length=c.R.toNat:=by
 obtain⟨f1,_,_⟩:=pp h hW p;have:=cl4 h.pl (r:=fill c.R (seg W (c.off 1) c.X.length++(seg W 0 c.T.length++[IntKind.u64.wrap p]))) (Nat.le_of_eq f1);rw[cJ3 f1]at this;exact this
theorem cB9 (h:c.Ok){W:Zd}(hW:Wd c W)(p:Int):Wd c (put W (c.off 2) (bg1 c W p))/\Wd c (adv1 c W p):=by
 have n:=h.num;have nR:=n.R;have n1:=n.xtR;obtain⟨_,f2⟩:=bg2 h hW p;have h1:=jm (c:=c) (i:=1) (j:=9) (by omega);have h2:=jm (c:=c) (i:=2) (j:=9) (by omega);have s1:c.sz 1=c.X.length:=rfl;have s2:c.sz 2=c.R.toNat:=rfl;have w1:=hW.put h (w:=bg1 c W p) (o:=c.off 2) (by omega);exact⟨w1,w1.put h (by rw[List.length_take];omega)⟩
theorem bY4 (h:c.Ok){W:Zd}(hW:Wd c W)(p:Int): ∀i,Wd c (advW c W p i)
 |0=>hW
 |i+1=>(cB9 h (bY4 h hW p i) _).2
end
end
section
open List renaming range -> aB
def lL (a n:Int):Bool:=if a<1 then Zb else if 9<a then Zb else if a=1 then Zc (1<=n/\n<65536)else if a<=4 then Zc (0<=n/\n<1048576)else Zc (n=0)
section
variable {c:Cx}
def sp (c:Cx)(k:Nat):Nat:=c.off 8+k*(c.X.length+1)
def eu (c:Cx)(W:Zd)(k:Nat):Int:=rg W (sp c k:Int)
def vS (c:Cx)(W:Zd):Zd:=(aB c.ns.toNat).map λ(k:Nat)=>eu c W k-1
structure Dy where
 L:Int
 p:Int
 q:Int
 c0:Int
 c1:Int
 c2:Int
 c3:Int
 z:Int
 lv:Int
 pk:Int
 W:Zd
def jo (c:Cx)(W:Zd):Nat:=(aB c.ns.toNat).countP λ(k:Nat)=>Zc (0<eu c W k)
structure Inv (c:Cx)(s:Dy):Prop where
 w:Wd c s.W
 L:0<=s.L/\s.L<=65535
 p:0<=s.p/\s.p<=s.L
 q: -1<=s.q/\s.q<=s.L
 tag: ∀k,k<c.ns.toNat->0<=eu c s.W k/\eu c s.W k<=s.L+1
 lv:s.lv=c.fixed+c.sl*jo c s.W
 pk:s.lv<=s.pk/\s.pk<=c.words
theorem wB (h:c.Ok)(hm:c.mode≠3){k:Nat}(hk:k<c.ns.toNat):sp c k+(c.X.length+1)<=c.off 9/\c.ns.toNat*(c.X.length+1)+c.off 8=c.off 9/\c.ns.toNat<=524288:=by
 have n:=h.num;have hsl:=n.sl;rw[zF hm]at hsl;have hns:=h.ns
 have e:(c.sl*c.ns).toNat=c.ns.toNat*(c.X.length+1):=by
  have:c.sl*c.ns=((c.ns.toNat*(c.X.length+1):Nat):Int):=by
   rw[Int.natCast_mul,hsl,Int.toNat_of_nonneg hns.1,Int.mul_comm]
   congr 1
  rw[this];rfl
 have h9:c.off 9=c.off 8+c.ns.toNat*(c.X.length+1):=by rw[bH9,e]
 have h1:(k+1)*(c.X.length+1)<=c.ns.toNat*(c.X.length+1):=Nat.mul_le_mul_right _ hk;rw[Nat.succ_mul]at h1;have h2:=h.off9_le;have h3:=n.words;have h4:c.ns.toNat*2<=c.ns.toNat*(c.X.length+1):=Nat.mul_le_mul_left _ (by have:=n.x;omega);unfold sp;omega
theorem am6 (h:c.Ok)(hm:c.mode≠3){k:Nat}(hk:k<c.ns.toNat):ed (c.off 8:Int) c.ns (c.X.length:Int) (k:Int)=C (sp c k:Int):=by
 obtain⟨h1,h2,h3⟩:=wB h hm hk;have h4:=h.off9_le;have h5:=h.num.words;have h6:=h.num.x;unfold sp at h1;unfold ed gg;simp only[zG];have e:(k:Int)*((c.X.length:Int)+1)=((k*(c.X.length+1):Nat):Int):=by rw[Int.natCast_mul];congr 1
 rw[bq (n:=(c.X.length:Int)+1) (by omega),e,bq (n:=((k*(c.X.length+1):Nat):Int)) (by omega),bq (by omega)];unfold sp
 congr 1
theorem bm2 (h:c.Ok)(hm:c.mode≠3){W:Zd}(hW:Wd c W){k:Nat}(hk:k<c.ns.toNat):gq (sp c k:Int) c.tk W=C (eu c W k,0):=by
 obtain⟨h1,_,_⟩:=wB h hm hk;obtain⟨h2,h3⟩:=hW.tk h;exact cH7 (by omega) h2 h3
theorem ce0 (h:c.Ok)(hm:c.mode≠3){W:Zd}(hW:Wd c W)(ht: ∀k,k<c.ns.toNat->0<=eu c W k/\eu c W k<=65536):jg (c.off 8:Int) c.ns (c.X.length:Int) c.tk W=C (vS c W):=by
 unfold jg;have hns:=h.ns
 have key:ca (jh (c.off 8:Int) c.ns (c.X.length:Int) c.tk W) dq (0,(aB 0).map λ(k:Nat)=>eu c W k-1)=C (vS c W):=by
  refine ff (n:=c.ns.toNat) (λi=>(aB i).map λ(k:Nat)=>eu c W k-1) (by omega) (λi hi=> ?_) ?_
  .have hti:=ht i hi;unfold jh;simp only;rw[zB (by omega),zC,am6 h hm hi];simp only[zG];rw[bm2 h hm hW hi];simp only[zG];rw[dh (by simp;omega) (by omega),bq (n:=(i:Int)+1) (by omega),bq (n:=eu c W i) (by omega),bq (n:=eu c W i-1) (by omega),List.range_succ,List.map_append];rfl
  .unfold jh;simp only;rw[zA (by omega),zD];rfl
 have key:ca (jh (c.off 8:Int) c.ns (c.X.length:Int) c.tk W) dq (0,[])=_:=key;rw[key];rfl
theorem bz2 {W:Zd}{k:Nat}(hk:k<c.ns.toNat):(vS c W)[k]?=C (eu c W k-1):=by
 unfold vS;rw[List.getElem?_map,List.getElem?_range hk];rfl
theorem af9 {W:Zd}:(vS c W).length=c.ns.toNat:=by unfold vS;simp
theorem bH4 {l:Zd}{L:Int}(hl:l.length<1000000)(h: ∀t∈l,-1<=t/\t<=L):dy l L=C Zb:=by
 unfold dy jb
 have key:ca (cv l L) dq 0=C (.inr ()):=by
  refine ug (n:=l.length) (by omega) (λi hi=> ?_) ?_
  .have:=h l[i] (List.getElem_mem hi);unfold cv kc;rw[zB (by omega),zC,ci hi];simp only[zG];rw[zA (by omega),zD];simp only[zG];rw[zA (by omega),zD,bq (by omega)];rfl
  .unfold cv;rw[zA (by omega),zD]
 rw[key];rfl
theorem cx1 {L p q:Int}{l:Zd}(hL:0<=L/\L<=65535)(hp:0<=p/\p<=L)(hq: -1<=q/\q<=L)(hl:l.length<1000000)(h: ∀t∈l,-1<=t/\t<=L):kH L p q l=C (.inr (p,q,L,l)):=by
 unfold kH su kc;rw[zB (show 0<=L by omega),zB (show L<65536 by omega)];simp only[zC,zG,Bool.not_true,zD];rw[zA (show¬(1048576<(l.length:Int))by omega),zA (show¬p= -1 by omega),zA (show¬p< -1 by omega),zA (show¬L<p by omega),zA (show¬q< -1 by omega),zA (show¬L<q by omega)];simp only[zD,zG];rw[bH4 hl h];simp only[zG,zD];unfold kK;rw[dh (by omega) (by omega)];rfl
end
end
section
open Int renaming mul_le_mul_of_nonneg_left -> aB
open List renaming countP_le_length -> aD
section
variable {c:Cx}
def doF (c:Cx)(a n:Int)(s:Dy):Int×Dy:=
 if lL a n=Zb∨7<a then(2,s)
 else if(2<=a/\a<=4)/\c.ns<=n then(2,s)
 else if a=1 then(if s.L-s.p<n then(17,s)else(0,{s with p:=s.p+n,c0:=s.c0+n,W:=advW c s.W s.p n.toNat}))
 else if a=2 then(if 0<=eu c s.W n.toNat-1 then(15,s)else(0,{s with lv:=s.lv+c.sl,pk:=max s.pk (s.lv+c.sl),W:=put s.W (sp c n.toNat) (IntKind.u64.wrap (IntKind.i64.wrap (s.p+1))::seg s.W (c.off 1) c.X.length)}))
 else if a=3 then(if eu c s.W n.toNat-1<0 then(16,s)else(0,{s with p:=eu c s.W n.toNat-1,W:=put s.W (c.off 1) (seg s.W (sp c n.toNat+1) c.X.length)}))
 else if a=4 then(if eu c s.W n.toNat-1<0 then(16,s)else(0,{s with lv:=s.lv-c.sl,W:=put s.W (sp c n.toNat) (dg (c.X.length+1))}))
 else if a=5 then(if s.q≠ -1 then(18,s)else if s.p≠s.L then(17,s)else(0,{s with q:=s.p,c2:=s.c2+1,c3:=s.c3+1,z:=rg (lossR c s.W (seg s.W (c.off 1) c.X.length)).1 0,pk:=max s.pk (s.lv+c.fk.n),W:=cv5 c s.W (seg s.W (c.off 1) c.X.length)}))
 else if a=6 then(if s.q≠ -1 then(18,s)else if s.p≠s.L-1 then(17,s)else(0,{s with q:=s.p,c1:=s.c1+1,c2:=s.c2+1,c3:=s.c3+1+1,z:=rg (lossR c (put s.W (c.off 2) (stepR c s.W s.p).1) ((stepR c s.W s.p).1.take c.X.length)).1 0,pk:=max s.pk (s.lv+(c.fl.n+c.fk.n)),W:=cj8 c s.W s.p}))
 else(if s.q<=0 then(18,s)else if s.p≠s.q-1 then(17,s)else(0,{s with q:=s.p,c1:=s.c1+1,c3:=s.c3+1,pk:=max s.pk (s.lv+c.fl.n),W:=cX8 c s.W s.p}))
def Cnt (B:Int)(s:Dy):Prop:=(0<=s.c0/\s.c0<=B)/\(0<=s.c1/\s.c1<=B)/\(0<=s.c2/\s.c2<=B)/\(0<=s.c3/\s.c3<=B)
theorem cG6 (c:Cx)(W:Zd):jo c W<=c.ns.toNat:=by
 unfold jo;exact Nat.le_trans aD (by simp)
theorem bl7 (h:c.Ok){s:Dy}(hi:Inv c s):0<=s.lv/\s.lv+c.tp<=c.words/\c.words<=1048576/\0<=c.tp:=by
 have n:=h.num;have h1:=hi.lv;have h2:=cG6 c s.W;have h3:=h.fit;have h4:=n.fixed;have h5:=h.ns;have h6:=n.sl;have h7:1<=c.sl:=by rw[h6];have:=n.R;split<;>omega
 have h8:c.sl*(jo c s.W:Int)<=c.sl*c.ns:=aB (by omega) (by omega);have h9:0<=c.sl*(jo c s.W:Int):=Int.mul_nonneg (by omega) (by omega);have h10:0<=c.tp:=by rw[n.tp];split<;>omega
 have:=n.R;have:=n.Q;have:=n.words;refine⟨by omega,by omega,by omega,h10⟩
theorem cK5 (h:c.Ok){s:Dy}(hi:Inv c s)(hu:jo c s.W<c.ns.toNat):s.lv+c.sl<=c.words:=by
 have n:=h.num;have h1:=hi.lv;have h3:=h.fit;have h5:=h.ns;have h6:=n.sl;have h7:1<=c.sl:=by rw[h6];have:=n.R;split<;>omega
 have h8:c.sl*((jo c s.W:Int)+1)<=c.sl*c.ns:=aB (by omega) (by omega);have h10:0<=c.tp:=by rw[n.tp];split<;>omega
 rw[Int.mul_add,Int.mul_one]at h8;omega
theorem cI6 {l:List Nat}{P:Nat->Bool}{k:Nat}(hk:k∈l)(hP:P k=Zb):l.countP P<l.length:=by
 rcases Nat.lt_or_ge (l.countP P) l.length with h|h
 .exact h
 .have:=List.countP_eq_length.1 (Nat.le_antisymm aD h) k hk;rw[hP]at this;cases this
theorem cJ5 {W:Zd}{k:Nat}(hk:k<c.ns.toNat)(ht:eu c W k<=0):jo c W<c.ns.toNat:=by
 have:=cI6 (l:=List.range c.ns.toNat) (P:=λ(k:Nat)=>Zc (0<eu c W k)) (k:=k) (List.mem_range.2 hk) (zA (by omega));rw[List.length_range]at this;exact this
end
end
section
def cx0 (a n p q L tot:Int)(l:Zd):Int×Int×Int×Int×Int×Zd:=
 if lL a n=Zb∨7<a then(2,p,q,L,tot,l)
 else if(2<=a/\a<=4)/\(l.length:Int)<=n then(2,p,q,L,tot,l)
 else if a=1 then(if L-p<n then(17,p,q,L,tot,l)else(0,p+n,q,L,tot+n,l))
 else if a=2 then(if 0<=rg l n then(15,p,q,L,tot,l)else(0,p,q,L,tot,l.set n.toNat p))
 else if a=3 then(if rg l n<0 then(16,p,q,L,tot,l)else(0,rg l n,q,L,tot,l))
 else if a=4 then(if rg l n<0 then(16,p,q,L,tot,l)else(0,p,q,L,tot,l.set n.toNat (-1)))
 else if a=5 then(if q≠ -1 then(18,p,q,L,tot,l)else if p≠L then(17,p,q,L,tot,l)else(0,p,p,L,tot,l))
 else if a=6 then(if q≠ -1 then(18,p,q,L,tot,l)else if p≠L-1 then(17,p,q,L,tot,l)else(0,p,p,L,tot,l))
 else(if q<=0 then(18,p,q,L,tot,l)else if p≠q-1 then(17,p,q,L,tot,l)else(0,p,p,L,tot,l))
theorem am9 {a n:Int}(h: ¬(lL a n=Zb∨7<a)):lL a n=Za/\(a=1∨a=2∨a=3∨a=4∨a=5∨a=6∨a=7):=by
 have h1:lL a n=Za:=by
  cases hr:lL a n with
  |true=>rfl
  |false=>exact(h (.inl hr)).elim
 refine⟨h1, ?_⟩;have h2: ¬a<1:=λh3=>by unfold lL at h1;rw[zE h3]at h1;cases h1
 omega
theorem xx {a n:Int}(h:lL a n=Za)(ha:1<=a/\a<=4):0<=n/\n<1048576/\(a=1->1<=n/\n<65536):=by
 unfold lL at h;rw[zF (by omega),zF (by omega)]at h;by_cases h1:a=1
 .rw[zE h1]at h;have:=of_decide_eq_true h;omega
 .rw[zF h1,zE (by omega)]at h;have:=of_decide_eq_true h;omega
section
variable {c:Cx}
theorem cr2 {W:Zd}{L:Int}(ht: ∀k,k<c.ns.toNat->0<=eu c W k/\eu c W k<=L+1): ∀t∈vS c W,-1<=t/\t<=L:=λt hm=>by
 unfold vS at hm;obtain⟨k,hk,rfl⟩:=List.mem_map.1 hm;have:=ht k (List.mem_range.1 hk);omega
theorem di3 {W:Zd}{n:Int}(h:0<=n)(hn:n.toNat<c.ns.toNat):rg (vS c W) n=eu c W n.toNat-1:=by
 have h1:=bz2 (c:=c) (W:=W) hn;have h2:=fh (r:=vS c W) (k:=n.toNat) (by rw[af9];exact hn);rw[h1,Int.toNat_of_nonneg h]at h2;injection h2 with h2
 exact h2.symm
theorem Cnt.in' {B:Int}{s:Dy}(h:Cnt B s)(hB:B<=2305843009213693952):(0<=s.c0/\s.c0<=2305843009213693952)/\(0<=s.c1/\s.c1<=2305843009213693952)/\(0<=s.c2/\s.c2<=2305843009213693952)/\(0<=s.c3/\s.c3<=2305843009213693952):=by
 unfold Cnt at h;omega
theorem da4 {W:Zd}{k:Nat}(hk:k<c.ns.toNat)(ht:0<eu c W k):0<jo c W:=by
 unfold jo;exact List.countP_pos_iff.2 ⟨k,List.mem_range.2 hk,zB ht⟩
theorem cU1 (h:c.Ok){s:Dy}(hi:Inv c s)(hu:0<jo c s.W):c.sl<=s.lv:=by
 have n:=h.num;have h1:=hi.lv;have h4:=n.fixed;have h6:=n.sl;have h7:1<=c.sl:=by rw[h6];have:=n.R;split<;>omega
 have h8:c.sl*1<=c.sl*(jo c s.W:Int):=Int.mul_le_mul_of_nonneg_left (by omega) (by omega);have:=n.R;have:=n.Q;omega
end
end
section
open Go.IntKind renaming wrap -> zH, i64 -> zI, u64 -> zJ
open Int renaming reduceEq -> aB, le_max_left -> cB, toNat_natCast -> cD
open List renaming getD_eq_getElem?_getD -> aD, range -> bD, length_take -> dB, countP_append -> eB
open Nat renaming le_of_eq -> bB, le_refl -> dD
section
variable {c:Cx}
def fe (c:Cx)(W W':Zd):Prop:= ∀i,c.off 8<=i->W'[i]?=W[i]?
theorem fe.refl (W:Zd):fe c W W:=λ_ _=>rfl
theorem fe.trans {W W' W'':Zd}(h:fe c W W')(h':fe c W' W''):fe c W W'':=λi hi=>(h' i hi).trans (h i hi)
theorem fe.put (h:c.Ok){W W' w:Zd}{i:Nat}(hK:fe c W W')(hW:Wd c W')(hi:i<8)(hw:w.length<=c.sz i):fe c W (put W' (c.off i) w):=λj hj=>by
 have h1:=jm (c:=c) (i:=i) (j:=8) hi;have h2:=hW.in' h (i:=i) (by omega);rw[cc4 (by omega) (.inr (by omega))];exact hK j hj
theorem fe.rg {W W':Zd}(h:fe c W W'){i:Nat}(hi:c.off 8<=i):rg W' (i:Int)=rg W (i:Int):=by
 unfold Go.V.rg;rw[cD,aD,aD,h i hi]
theorem fe.tag {W W':Zd}(h:fe c W W')(k:Nat):eu c W' k=eu c W k:=h.rg (by unfold sp;omega)
theorem fe.used {W W':Zd}(h:fe c W W'):jo c W'=jo c W:=by
 unfold jo
 congr 1
 funext k
 rw[h.tag k]
theorem fe.seg {W W':Zd}(h:fe c W W'){o n:Nat}(ho:c.off 8<=o):seg W' o n=seg W o n:=by
 apply List.ext_getElem?;intro i;rw[uF,uF];split
 .exact h _ (by omega)
 .rfl
theorem bu9 (h:c.Ok){W a:Zd}(hW:Wd c W)(ha:c.X.length+c.T.length<=a.length)(ha2:a.length<=max c.R.toNat c.Q.toNat):fe c W (aS1 c W a):=by
 obtain⟨w1,w2,w3⟩:=zK h hW ha ha2;unfold aS1;refine fe.put h (fe.put h (fe.put h (fe.refl W) hW (by omega) ?_) w1 (by omega) ?_) w2 (by omega) ?_
 .exact ha2
 .rw[dB];exact Nat.min_le_left _ _
 .rw[ae2,jK (n:=c.T.length) (w2.in' h (i:=6) (by omega))];exact dD _
theorem bl6 (h:c.Ok){W x:Zd}(hW:Wd c W)(hx:x.length=c.X.length):fe c W (cv5 c W x):=by
 have n:=h.num;have nR:=n.R;have nQ:=n.Q;have n2:=n.xtQ;have nx:=n.x;have nm:=n.m;obtain⟨f1,f2,f3⟩:=bf3 h hW hx;obtain⟨w1,w2⟩:=bl1 h hW hx;obtain⟨_,r2,r3⟩:=yG h.pk f2 (a:=fill c.Q [1]) (t:=(lossR c W x).2.1) (ip (by simp;omega)) (bB f3.symm) (by omega);exact(fe.put h (fe.refl W) hW (i:=3) (by omega) (bB f2)).trans (bu9 h w1 (by omega) (by omega))
theorem cm2 (h:c.Ok){W r t:Zd}(hW:Wd c W)(hr:r.length=c.R.toNat)(ht:t.length=c.fl.n):fe c W (bN3 c W r t):=by
 have n:=h.num;have nR:=n.R;have n1:=n.xtR;have nx:=n.x;have nn:=n.n;obtain⟨f1,f2⟩:=bA0 h hW hr ht;obtain⟨_,r2,r3⟩:=yG h.pl hr f1 (bB ht.symm) (by omega);exact bu9 h hW (by omega) (by omega)
theorem bK7 (h:c.Ok){W:Zd}(hW:Wd c W)(p:Int):fe c W (put W (c.off 2) (stepR c W p).1):=
 fe.put h (fe.refl W) hW (i:=2) (by omega) (bB (pp h hW p).2.1)
theorem cb1 (h:c.Ok){W:Zd}(hW:Wd c W)(p:Int):fe c W (cX8 c W p)/\Wd c (cX8 c W p):=by
 obtain⟨f1,f2,f3⟩:=pp h hW p;have w1:=bb5 h hW p;exact⟨(bK7 h hW p).trans (cm2 h w1 f2 f3),(bA0 h w1 f2 f3).2⟩
theorem cN4 (h:c.Ok){W:Zd}(hW:Wd c W)(p:Int):((stepR c W p).1.take c.X.length).length=c.X.length:=by
 have n:=h.num;have nR:=n.R;have n1:=n.xtR;obtain⟨f1,f2,f3⟩:=pp h hW p;rw[dB];omega
theorem bv0 (h:c.Ok){W:Zd}(hW:Wd c W)(p:Int):fe c W (cj8 c W p)/\Wd c (cj8 c W p):=by
 obtain⟨f1,f2,f3⟩:=pp h hW p;have w1:=bb5 h hW p;have hx:=cN4 h hW p;have w2:=(bl1 h w1 hx).2;exact⟨((bK7 h hW p).trans (bl6 h w1 hx)).trans (cm2 h w2 f2 f3),(bA0 h w2 f2 f3).2⟩
theorem cT3 (h:c.Ok){W:Zd}(hW:Wd c W)(p:Int):fe c W (adv1 c W p):=by
 obtain⟨_,f2⟩:=bg2 h hW p;obtain⟨w1,w2⟩:=cB9 h hW p;refine fe.put h (fe.put h (fe.refl W) hW (i:=2) (by omega) (bB f2)) w1 (i:=1) (by omega) ?_;rw[dB];exact Nat.min_le_left _ _
theorem cb0 (h:c.Ok){W:Zd}(hW:Wd c W)(p:Int): ∀i,fe c W (advW c W p i)
 |0=>fe.refl W
 |i+1=>(cb0 h hW p i).trans (cT3 h (bY4 h hW p i) _)
theorem ay1 {P P':Nat->Bool}{k:Nat}: ∀{n:Nat},k<n->P k=Zb->P' k=Za->(∀j,j<n->j≠k->P' j=P j)->(bD n).countP P'=(bD n).countP P+1
 |n+1,hk,h0,h1,hne=>by
  rw[List.range_succ,eB,eB];by_cases hkn:k=n
  .subst hkn
   have e:(bD k).countP P'=(bD k).countP P:=List.countP_congr λj hj=>by
    have:=List.mem_range.1 hj;rw[hne j (by omega) (by omega)]
   rw[e];simp[h0,h1]
  .rw[ay1 (n:=n) (by omega) h0 h1 λj hj hjk=>hne j (by omega) hjk];have:[n].countP P'=[n].countP P:=by simp[hne n (by omega) (by omega)]
   omega
theorem dp2 {j k:Nat}(h:j<k):sp c j+(c.X.length+1)<=sp c k:=by
 have h1:(j+1)*(c.X.length+1)<=k*(c.X.length+1):=Nat.mul_le_mul_right _ h;rw[Nat.succ_mul]at h1;unfold sp;omega
theorem cG1 {W w:Zd}{j k:Nat}(hlen:sp c k+w.length<=W.length)(hw:w.length=c.X.length+1)(hjk:j≠k):eu c (put W (sp c k) w) j=eu c W j:=by
 unfold eu rg;rw[cD,aD,aD,cc4 hlen];rcases Nat.lt_or_ge j k with h|h
 .exact .inl (by have:=dp2 (c:=c) h;omega)
 .exact .inr (by have:=dp2 (c:=c) (show k<j by omega);omega)
theorem aV9 {W w:Zd}{k:Nat}(hlen:sp c k+w.length<=W.length)(hw:w.length=c.X.length+1):eu c (put W (sp c k) w) k=w.getD 0 0:=by
 unfold eu rg;rw[cD,aD,aD,am7 hlen,zE ⟨dD _,by omega⟩,Nat.sub_self]
theorem ay9 {s s':Dy}(hi:Inv c s)(hW:Wd c s'.W)(hk:fe c s.W s'.W)(hL:s'.L=s.L)(hp:0<=s'.p/\s'.p<=s.L)(hq: -1<=s'.q/\s'.q<=s.L)(hlv:s'.lv=s.lv)(hpk:s.pk<=s'.pk/\s'.pk<=c.words):Inv c s':=
 ⟨hW,by rw[hL];exact hi.L,by rw[hL];exact hp,by rw[hL];exact hq,λk hkk=>by rw[hk.tag,hL];exact hi.tag k hkk,by rw[hlv,hk.used];exact hi.lv,by rw[hlv];exact⟨Int.le_trans hi.pk.1 hpk.1,hpk.2⟩⟩
theorem cC7 (h:c.Ok)(hm:c.mode≠3){s:Dy}(hi:Inv c s)(a n:Int):Inv c (doF c a n s).2:=by
 have nm:=h.num;have hW:=hi.w;have hL:=hi.L;have hp:=hi.p;have hq:=hi.q;have hpk:=hi.pk;have hns:=h.ns;have nx:=nm.x;obtain⟨g1,g2,g3,g4⟩:=bl7 h hi;have htp:=nm.tp;rw[zF hm]at htp;have hsl:=nm.sl;rw[zF hm]at hsl;have l1:(seg s.W (c.off 1) c.X.length).length=c.X.length:=jK (hW.in' h (i:=1) (by omega));unfold doF;by_cases h1:lL a n=Zb∨7<a
 .rw[zE h1];exact hi
 rw[zF h1];obtain⟨h2,hk⟩:=am9 h1;by_cases h4:(2<=a/\a<=4)/\c.ns<=n
 .rw[zE h4];exact hi
 rw[zF h4]
 have slot:(2<=a/\a<=4)->n.toNat<c.ns.toNat:=λhs=>by
  have hn:=xx h2 ⟨by omega,hs.2⟩;have: ¬c.ns<=n:=λh7=>h4 ⟨hs,h7⟩
  omega
 rcases hk with rfl|rfl|rfl|rfl|rfl|rfl|rfl
 .have hn:=xx h2 (by omega);simp only[aB,reduceIte];by_cases h5:s.L-s.p<n
  .rw[zE h5];exact hi
  .rw[zF h5];exact ay9 hi (bY4 h hW _ _) (cb0 h hW _ _) rfl ⟨by show 0<=s.p+n;omega,by show s.p+n<=s.L;omega⟩ hq rfl ⟨Int.le_refl _,hpk.2⟩
 .have hlt:=slot (by omega);simp only[aB,reduceIte];by_cases h5:0<=eu c s.W n.toNat-1
  .rw[zE h5];exact hi
  rw[zF h5];generalize n.toNat=k at*;obtain⟨s1,s2,s3⟩:=wB h hm hlt;obtain⟨t1,t2⟩:=hW.tk h;have htk:=hi.tag k hlt;have hw:(zH zJ (zH zI (s.p+1))::seg s.W (c.off 1) c.X.length).length=c.X.length+1:=by simp[l1]
  have hnew:=aV9 (c:=c) (W:=s.W) (k:=k) (w:=zH zJ (zH zI (s.p+1))::seg s.W (c.off 1) c.X.length) (by omega) hw
  have hv:(zH zJ (zH zI (s.p+1))::seg s.W (c.off 1) c.X.length).getD 0 0=s.p+1:=by
   show zH zJ (zH zI (s.p+1))=_;rw[bq (by omega),nZ (by omega)]
  rw[hv]at hnew;have hold: ∀j,j≠k->eu c (put s.W (sp c k) (zH zJ (zH zI (s.p+1))::seg s.W (c.off 1) c.X.length)) j=eu c s.W j:=λj hj=>cG1 (by omega) hw hj
  have hmore:=cK5 h hi (cJ5 hlt (by omega))
  have hu:jo c (put s.W (sp c k) (zH zJ (zH zI (s.p+1))::seg s.W (c.off 1) c.X.length))=jo c s.W+1:=by
   unfold jo;exact ay1 hlt (zA (by omega)) (zB (by rw[hnew];omega)) λj _ hj=>by rw[hold j hj]
  refine⟨hW.put h (by omega),hL,hp,hq,λj hj=> ?_, ?_, ?_⟩
  .by_cases hjk:j=k
   .subst hjk;rw[hnew];show 0<=s.p+1/\s.p+1<=s.L+1;omega
   .rw[hold j hjk];exact hi.tag j hj
  .show s.lv+c.sl=c.fixed+c.sl*((jo c (put s.W (sp c k) _):Nat):Int);rw[hu,hi.lv];rw[show(((jo c s.W+1:Nat)):Int)=(jo c s.W:Int)+1 by omega,Int.mul_add,Int.mul_one,Int.add_assoc]
  .show s.lv+c.sl<=max s.pk (s.lv+c.sl)/\max s.pk (s.lv+c.sl)<=c.words;omega
 .have hlt:=slot (by omega);simp only[aB,reduceIte];by_cases h5:eu c s.W n.toNat-1<0
  .rw[zE h5];exact hi
  rw[zF h5];obtain⟨s1,s2,s3⟩:=wB h hm hlt;obtain⟨t1,t2⟩:=hW.tk h;have htk:=hi.tag _ hlt;have l2:(seg s.W (sp c n.toNat+1) c.X.length).length=c.X.length:=jK (by omega);have h1o:=jm (c:=c) (i:=1) (j:=9) (by omega);have z1:c.sz 1=c.X.length:=rfl;exact ay9 hi (hW.put h (by rw[l2];omega)) (fe.put h (fe.refl s.W) hW (i:=1) (by omega) (by rw[l2];exact dD _)) rfl ⟨by show 0<=eu c s.W n.toNat-1;omega,by show eu c s.W n.toNat-1<=s.L;omega⟩ hq rfl ⟨Int.le_refl _,hpk.2⟩
 .have hlt:=slot (by omega);simp only[aB,reduceIte];by_cases h5:eu c s.W n.toNat-1<0
  .rw[zE h5];exact hi
  rw[zF h5];generalize n.toNat=k at*;obtain⟨s1,s2,s3⟩:=wB h hm hlt;obtain⟨t1,t2⟩:=hW.tk h;have htk:=hi.tag k hlt;have hw:(dg (c.X.length+1)).length=c.X.length+1:=gl _;have hnew:=aV9 (c:=c) (W:=s.W) (k:=k) (w:=dg (c.X.length+1)) (by omega) hw;have hv:(dg (c.X.length+1)).getD 0 0=0:=rfl;rw[hv]at hnew;have hold: ∀j,j≠k->eu c (put s.W (sp c k) (dg (c.X.length+1))) j=eu c s.W j:=λj hj=>cG1 (by omega) hw hj
  have hu:jo c s.W=jo c (put s.W (sp c k) (dg (c.X.length+1)))+1:=by
   unfold jo;exact ay1 hlt (zA (by omega)) (zB (by omega)) λj _ hj=>by rw[hold j hj]
  refine⟨hW.put h (by omega),hL,hp,hq,λj hj=> ?_, ?_, ?_⟩
  .by_cases hjk:j=k
   .subst hjk;rw[hnew];show(0:Int)<=0/\0<=s.L+1;omega
   .rw[hold j hjk];exact hi.tag j hj
  .show s.lv-c.sl=c.fixed+c.sl*((jo c (put s.W (sp c k) (dg (c.X.length+1))):Nat):Int);rw[hi.lv,hu];rw[show(((jo c (put s.W (sp c k) (dg (c.X.length+1)))+1:Nat)):Int)=(jo c (put s.W (sp c k) (dg (c.X.length+1))):Int)+1 by omega,Int.mul_add,Int.mul_one];omega
  .show s.lv-c.sl<=s.pk/\s.pk<=c.words;omega
 .simp only[aB,reduceIte];by_cases h5:s.q≠ -1
  .rw[zE h5];exact hi
  rw[zF h5];by_cases h6:s.p≠s.L
  .rw[zE h6];exact hi
  rw[zF h6];exact ay9 hi (bl1 h hW l1).2 (bl6 h hW l1) rfl hp ⟨by show-1<=s.p;omega,hp.2⟩ rfl ⟨cB _ _,by show max s.pk (s.lv+(c.fk.n:Int))<=c.words;omega⟩
 .simp only[aB,reduceIte];by_cases h5:s.q≠ -1
  .rw[zE h5];exact hi
  rw[zF h5];by_cases h6:s.p≠s.L-1
  .rw[zE h6];exact hi
  rw[zF h6];exact ay9 hi (bv0 h hW s.p).2 (bv0 h hW s.p).1 rfl hp ⟨by show-1<=s.p;omega,hp.2⟩ rfl ⟨cB _ _,by show max s.pk (s.lv+((c.fl.n:Int)+c.fk.n))<=c.words;omega⟩
 .simp only[aB,reduceIte];by_cases h5:s.q<=0
  .rw[zE h5];exact hi
  rw[zF h5];by_cases h6:s.p≠s.q-1
  .rw[zE h6];exact hi
  rw[zF h6];exact ay9 hi (cb1 h hW s.p).2 (cb1 h hW s.p).1 rfl hp ⟨by show-1<=s.p;omega,hp.2⟩ rfl ⟨cB _ _,by show max s.pk (s.lv+(c.fl.n:Int))<=c.words;omega⟩
theorem dc6 {s:Dy}{B:Int}(hc:Cnt B s)(a n:Int):Cnt (B+65536) (doF c a n s).2:=by
 have key:Cnt (B+65536) s:=by unfold Cnt at hc⊢;omega
 unfold doF;by_cases h1:lL a n=Zb∨7<a
 .rw[zE h1];exact key
 rw[zF h1];obtain⟨h2,hk⟩:=am9 h1;split
 .exact key
 split
 .rename_i ha;have hn:=xx h2 (by omega);split
  .exact key
  .unfold Cnt at hc⊢;simp only;omega
 repeat' split
 all_goals first|exact key|(unfold Cnt at hc⊢;simp only;omega)
end
end
section
section
variable {R:Int} {l:List cq} {f:Fo}
end
end
section
open Int renaming mul_le_mul_of_nonneg_left -> aB, toNat_of_nonneg -> aD
section
variable {c:Cx}
def po (c:Cx)(i:Nat):Nat:=c.off 8+i*c.sl.toNat
def lu (s:Dy):Int:=if s.q<0 then s.p else s.q
structure InvB (c:Cx)(s:Dy):Prop where
 w:Wd c s.W
 L:s.L=c.len
 p:0<=s.p/\s.p<=s.L
 q: -1<=s.q/\s.q<=s.L
 qp:0<=s.q->s.p=s.q
 lv:s.lv=c.fixed+c.sl*lu s
 pk:s.lv<=s.pk/\s.pk<=c.words
def bz4 (c:Cx)(W:Zd)(i:Nat):Zd:=seg W (po c i) c.fl.n
def bM5 (c:Cx)(W:Zd)(i:Nat):Zd:=seg W (po c i+c.fl.n) c.R.toNat
def be1 (c:Cx)(W:Zd)(i:Nat):BS:=rS c.fl (bM5 c W i) (fill c.R (seg W (c.off 5) c.X.length)) (bz4 c W i)
def plF (c:Cx)(a n:Int)(s:Dy):Int×Dy:=
 if a=8 then(if n≠0 then(2,s)else if 0<=s.q then(18,s)else if s.p=s.L then(17,s)else
  (0,{s with p:=s.p+1,c1:=s.c1+1,lv:=s.lv+c.sl,pk:=max s.pk (s.lv+c.sl),W:=put (put (put s.W (c.off 2) (stepR c s.W s.p).1) (po c s.p.toNat) ((stepR c s.W s.p).2.1++(stepR c s.W s.p).1)) (c.off 1) ((stepR c s.W s.p).1.take c.X.length)}))
 else if a=5 then(if n≠0 then(2,s)else if 0<=s.q then(18,s)else if s.p≠s.L then(17,s)else
  (0,{s with q:=s.L,c2:=s.c2+1,c3:=s.c3+1,z:=rg (lossR c s.W (seg s.W (c.off 1) c.X.length)).1 0,pk:=max s.pk (s.lv+c.fk.n),W:=cv5 c s.W (seg s.W (c.off 1) c.X.length)}))
 else if a=9 then(if n≠0 then(2,s)else if s.q<1 then(18,s)else
  (0,{s with p:=s.q-1,q:=s.q-1,c3:=s.c3+1,lv:=s.lv-c.sl,W:=put (aS1 c s.W (be1 c s.W (s.q-1).toNat).2.1) (c.off 1) ((be1 c s.W (s.q-1).toNat).1.take c.X.length)}))
 else(2,s)
theorem aA6 (h:c.Ok)(hm:c.mode=3){i:Nat}(hi:i<c.ns.toNat):c.sl.toNat=c.fl.n+c.R.toNat/\c.sl=(c.fl.n:Int)+c.R/\po c i+c.sl.toNat<=c.off 9/\c.off 8<=po c i:=by
 have n:=h.num;have hsl:=n.sl;rw[zE hm]at hsl;have hns:=h.ns;have nR:=n.R
 have e:(c.sl*c.ns).toNat=c.ns.toNat*c.sl.toNat:=by
  have:c.sl*c.ns=((c.ns.toNat*c.sl.toNat:Nat):Int):=by
   rw[Int.natCast_mul,aD hns.1,aD (by omega),Int.mul_comm]
  rw[this];rfl
 have h9:c.off 9=c.off 8+c.ns.toNat*c.sl.toNat:=by rw[bH9,e]
 have h1:(i+1)*c.sl.toNat<=c.ns.toNat*c.sl.toNat:=Nat.mul_le_mul_right _ hi;rw[Nat.succ_mul]at h1;unfold po;omega
theorem cb3 (h:c.Ok)(hm:c.mode=3){s:Dy}(hi:InvB c s):0<=s.lv/\s.lv+c.tp<=c.words/\c.words<=1048576/\0<=c.tp/\(lu s<c.ns->s.lv+c.sl<=c.words)/\(0<lu s->c.sl<=s.lv)/\c.ns=s.L:=by
 have n:=h.num;have h1:=hi.lv;have h3:=h.fit;have h4:=n.fixed;have h5:=h.ns;have h6:=n.sl;rw[zE hm]at h6;have nR:=n.R;have nQ:=n.Q;have nw:=n.words;have hb:=h.base hm;have hL:=hi.L;have hp:=hi.p;have hq:=hi.q;have hh:0<=lu s/\lu s<=c.ns:=by unfold lu;split<;>omega
 have h7:1<=c.sl:=by omega
 have h8:c.sl*lu s<=c.sl*c.ns:=aB hh.2 (by omega);have h9:0<=c.sl*lu s:=Int.mul_nonneg (by omega) hh.1;have h10:0<=c.tp:=by rw[n.tp];split<;>omega
 refine⟨by omega,by omega,by omega,h10,λhlt=> ?_,λhpos=> ?_,by omega⟩
 .have h8:c.sl*(lu s+1)<=c.sl*c.ns:=aB (by omega) (by omega);rw[Int.mul_add,Int.mul_one]at h8;omega
 .have h8:c.sl*1<=c.sl*lu s:=aB (by omega) (by omega);omega
theorem cj5 (h:c.Ok)(hm:c.mode=3){W:Zd}(hW:Wd c W){i:Nat}(hi:i<c.ns.toNat):
  seg W (po c i) c.sl.toNat=bz4 c W i++bM5 c W i/\(bz4 c W i).length=c.fl.n/\(bM5 c W i).length=c.R.toNat/\(fill c.R (seg W (c.off 5) c.X.length)).length=c.R.toNat/\(be1 c W i).1.length=c.R.toNat/\(be1 c W i).2.1.length=c.R.toNat:=by
 obtain⟨h1,h2,h3,h4⟩:=aA6 h hm hi;obtain⟨t1,t2⟩:=hW.tk h;have n:=h.num;have nR:=n.R;have n1:=n.xtR;have nn:=n.n;have l5:(seg W (c.off 5) c.X.length).length=c.X.length:=jK (hW.in' h (i:=5) (by omega));have e1:(bz4 c W i).length=c.fl.n:=jK (by omega);have e2:(bM5 c W i).length=c.R.toNat:=jK (by omega);have e3:(fill c.R (seg W (c.off 5) c.X.length)).length=c.R.toNat:=ip (by omega);obtain⟨_,r2,r3⟩:=yG h.pl e2 e3 (t:=bz4 c W i) (Nat.le_of_eq e1.symm) (by omega);refine⟨?_,e1,e2,e3,r2,r3⟩;apply List.ext_getElem?;intro j;rw[uF];by_cases hj:j<c.fl.n
 .rw[zE (by omega),List.getElem?_append_left (by omega)];unfold bz4;rw[uF,zE hj]
 .rw[List.getElem?_append_right (by omega),e1];unfold bM5;rw[uF];by_cases hj2:j<c.sl.toNat
  .rw[zE hj2,zE (by omega)]
   congr 1
   omega
  .rw[zF hj2,zF (by omega)]
end
end
section
open Int renaming le_refl -> aB
open List renaming getElem?_replicate -> aD
theorem cM1 {m:Int}{x t:Nat}{R:Int}{l:List cq}{Q:Int}{k:List cq}{n b:Int}(hl:OpsOk l)(hk:OpsOk k)(h:(jc m x t R l Q k n b).2.2.2.2=0):
  xq m x t R l Q k n b=0/\∃ns,jc m x t R l Q k n b=(oN x t R Q,nY m l k,oM m x R l,ns,0)/\(0<=ns/\ns<=1048576)/\oN x t R Q+nY m l k+oM m x R l*ns<=b/\(m=3->ns=n):=by
 unfold jc at h⊢;by_cases hc:xq m x t R l Q k n b≠0
 .rw[zE hc]at h;exact(hc h).elim
 rw[zF hc]at h⊢;have hc:xq m x t R l Q k n b=0:=by omega
 have s:=bb2 hl hk hc;have f:=am1 hl hk hc;have g1:=f.mode;have g2:=f.len;have g3:=f.bud;have g4:=s.xs;have g5:=s.ts;have g6:=s.r;have g7:=s.r';have g8:=s.tp;have g9:=s.sl;have hfx:0<=oN x t R Q/\oN x t R Q<=1000:=by unfold oN;omega
 split at h
 .cases h
 rename_i c;rw[zF c];refine⟨hc,_,rfl, ?_, ?_,λh3=>zE h3⟩
 .split
  .omega
  .rename_i c3;unfold least at c;rw[zF c3]at c;have hd2:(b-oN x t R Q-nY m l k) / oM m x R l<=b-oN x t R Q-nY m l k:=Int.ediv_le_self _ (by omega);have hd1:0<=(b-oN x t R Q-nY m l k) / oM m x R l:=Int.ediv_nonneg (by omega) (by omega);omega
 .unfold least at c;split
  .rename_i c3;rw[zE c3,Int.mul_comm]at c;omega
  .rename_i c3;rw[zF c3]at c;have:=Int.mul_ediv_self_le (x:=b-oN x t R Q-nY m l k) (k:=oM m x R l) (by omega);omega
theorem dF1 {m:Int}{X T:Zd}{R:Int}{l:List cq}{Q:Int}{k:List cq}{n b:Int}(hl:OpsOk l)(hk:OpsOk k)(h:(jc m X.length T.length R l Q k n b).2.2.2.2=0):
  ∃c:Cx,c.Ok/\c.mode=m/\c.X=X/\c.T=T/\c.R=R/\c.l=l/\c.Q=Q/\c.k=k/\c.len=n/\c.words=b/\jc m X.length T.length R l Q k n b=(c.fixed,c.tp,c.sl,c.ns,0):=by
 obtain⟨hc,ns,h1,h2,h3,h4⟩:=cM1 hl hk h;obtain⟨h5,h6⟩:=cL7 (aZ0 hc).1;obtain⟨fl,hfl⟩:=cX1 hl h5;obtain⟨fk,hfk⟩:=cX1 hk h6;exact⟨⟨m,R,Q,n,b,X,T,l,k,fl,fk,oN X.length T.length R Q,nY m l k,oM m X.length R l,ns⟩,⟨hl,hk,hc,hfl,hfk,rfl,rfl,rfl,h2,h3,h4⟩,rfl,rfl,rfl,rfl,rfl,rfl,rfl,rfl,rfl,h1⟩
section
variable {c:Cx}
theorem Cx.Ok.plan (h:c.Ok):jc c.mode c.X.length c.T.length c.R c.l c.Q c.k c.len c.words=(c.fixed,c.tp,c.sl,c.ns,0)->rK c.mode c.X c.T c.R c.l c.Q c.k c.len c.words=C (c.fixed,c.tp,c.sl,c.ns,0):=λe=>by
 rw[ba2 h.hl h.hk,e]
theorem dh9 (h:c.Ok): ∀i,i<10->pre [((c.T.length:Nat):Int),((c.X.length:Nat):Int),c.R,c.Q,max c.R c.Q,((c.X.length:Nat):Int),((c.T.length:Nat):Int),c.tp,c.sl*c.ns] i=(c.off i:Int):=by
 have n:=h.num;have nR:=n.R;have nQ:=n.Q;have nm:=n.mul;have htp:0<=c.tp:=by rw[n.tp];split<;>omega
 have hs: ∀i,i<9->([((c.T.length:Nat):Int),((c.X.length:Nat):Int),c.R,c.Q,max c.R c.Q,((c.X.length:Nat):Int),((c.T.length:Nat):Int),c.tp,c.sl*c.ns]:Zd).getD i 0=(c.sz i:Int):=λi hi=>by
  rcases(show i=0∨i=1∨i=2∨i=3∨i=4∨i=5∨i=6∨i=7∨i=8 by omega)with rfl|rfl|rfl|rfl|rfl|rfl|rfl|rfl|rfl
  .rfl
  .rfl
  .show c.R=(c.R.toNat:Int);omega
  .show c.Q=(c.Q.toNat:Int);omega
  .show max c.R c.Q=((max c.R.toNat c.Q.toNat:Nat):Int);omega
  .rfl
  .rfl
  .show c.tp=(c.tp.toNat:Int);omega
  .show c.sl*c.ns=((c.sl*c.ns).toNat:Int);omega
 intro i;induction i with
 |zero=>intro _;rfl
 |succ i ih=>
  intro hi;simp only[pre];rw[ih (by omega),hs i (by omega)];show(c.off i:Int)+(c.sz i:Int)=((c.off i+c.sz i:Nat):Int);omega
theorem bw2 (h:c.Ok)(e:jc c.mode c.X.length c.T.length c.R c.l c.Q c.k c.len c.words=(c.fixed,c.tp,c.sl,c.ns,0)):oc c.mode c.X c.T c.R c.l c.Q c.k c.len c.words=C (0,c.P):=by
 have s:=bb2 h.hl h.hk h.hc;have s':SFacts c.X.length c.T.length c.R c.Q c.tp c.sl:=by rw[h.tp,h.sl];exact s
 unfold oc;rw[h.plan e];simp only[zG];rw[zA (by simp),zD,aM5 h.hl h.hk h.hc];simp only[zG];have hb:=cd4 (n:=c.ns) s' h.ns;rw[<-h.tp,<-h.sl,bw3 hb];simp only[zG]
 congr 2
 unfold Cx.P;apply List.map_congr_left;intro i hi;exact dh9 h i (List.mem_range.1 hi)
theorem bJ4 {l:List cq}(h:l.length<=100):gj l=C l:=by
 unfold gj;rw[dh (by omega) (by omega)]
theorem vm {l:Zd}(h:l.length<=1048576):cd l=C l:=by
 unfold cd;rw[dh (by omega) (by omega)]
theorem co0 (h:c.Ok)(e:jc c.mode c.X.length c.T.length c.R c.l c.Q c.k c.len c.words=(c.fixed,c.tp,c.sl,c.ns,0)):
  mn c.mode c.X c.T c.R c.l c.Q c.k c.len c.words=C (.inr (c.fixed,c.tp,c.sl,c.ns,c.mode,c.R,c.Q,c.len,c.words,c.len,c.X,c.T,c.l,c.k,c.P)):=by
 have n:=h.num;have nx:=n.x;have nt:=n.t;unfold mn;rw[h.plan e];simp only[zG];rw[zA (by simp),zD,bJ4 h.hl.len,bJ4 h.hk.len,vm (by omega),vm (by omega)];simp only[zG];rw[bw2 h e];rfl
theorem cM2 {m:Int}{X T:Zd}{R:Int}{l:List cq}{Q:Int}{k:List cq}{n b:Int}(hl:OpsOk l)(hk:OpsOk k)(h:(jc m X.length T.length R l Q k n b).2.2.2.2≠0):mn m X T R l Q k n b=C (.inl (jc m X.length T.length R l Q k n b).2.2.2.2):=by
 unfold mn;rw[ba2 hl hk];simp only[zG];rw[zB h,zC]
def cb5 (c:Cx)(W:Zd):Zd:=put (put W (c.off 0) c.T) (c.off 1) c.X
def new1 (c:Cx):Dy:=⟨c.len,0,-1,0,0,0,0,0,c.fixed,c.fixed,cb5 c (dg c.words.toNat)⟩
def new2 (c:Cx):Dy:=⟨c.len,0,-1,0,0,0,0,0,c.fixed,c.fixed,cb5 c (put (dg c.words.toNat) (c.off 8) (dg (c.sl*c.ns).toNat))⟩
theorem bA2 :Wd c (dg c.words.toNat):=gl _
theorem ae9 (h:c.Ok):0<=c.fixed/\c.fixed<=c.words/\1<=c.fixed/\c.fixed=(c.off 7:Int):=by
 have n:=h.num;have nR:=n.R;have nQ:=n.Q;have nf:=n.fixed;have nm:=n.mul;have ft:=h.fit;have htp:0<=c.tp:=by rw[n.tp];split<;>omega
 refine⟨by omega,by omega,by omega, ?_⟩;rw[dA2,nf];omega
theorem bl9 (h:c.Ok){W:Zd}(hW:Wd c W):Wd c (put W (c.off 0) c.T)/\Wd c (cb5 c W)/\fe c W (cb5 c W):=by
 have h0:=jm (c:=c) (i:=0) (j:=9) (by omega);have h1:=jm (c:=c) (i:=1) (j:=9) (by omega);have z0:c.sz 0=c.T.length:=rfl;have z1:c.sz 1=c.X.length:=rfl;have w1:=hW.put h (w:=c.T) (o:=c.off 0) (by omega);have w2:=w1.put h (w:=c.X) (o:=c.off 1) (by omega);exact⟨w1,w2,fe.put h (fe.put h (fe.refl W) hW (i:=0) (by omega) (Nat.le_of_eq z0.symm)) w1 (i:=1) (by omega) (Nat.le_of_eq z1.symm)⟩
theorem cG2 {o n:Nat}{W:Zd}(h:o+n<=W.length)(hw:W.length<=1048576):gf (n:Int) (o:Int) W=C ((o:Int),0,((o+n:Nat):Int)):=by
 unfold gf rj;rw[zA (by omega),zD];simp only[zG];rw[bq (n:=(W.length:Int)-o) (by omega),zA (by omega),zD,bq (n:=(o:Int)+n) (by omega)]
 congr 2
theorem cV1 (h:c.Ok)(hm:c.mode=3):InvB c (new1 c):=by
 have f:=ae9 h;have n:=h.num;have nl:=n.len;refine⟨(bl9 h bA2).2.1,rfl,⟨aB _,by show 0<=c.len;omega⟩,⟨by show(-1:Int)<= -1;omega,by show(-1:Int)<=c.len;omega⟩,λhq=> ?_, ?_,⟨aB _,f.2.1⟩⟩
 .have hq:(0:Int)<= -1:=hq;omega
 .show c.fixed=c.fixed+c.sl*0;omega
theorem bv8 (h:c.Ok)(hm:c.mode≠3){k:Nat}(hk:k<c.ns.toNat):eu c (new2 c).W k=0:=by
 have h9:=h.off9_le;have nw:=h.num.words;have h89:c.off 9=c.off 8+(c.sl*c.ns).toNat:=bH9;have w0:Wd c (put (dg c.words.toNat) (c.off 8) (dg (c.sl*c.ns).toNat)):=(bA2 (c:=c)).put h (by rw[gl];omega);obtain⟨w1,w2,w3⟩:=bl9 h w0;show eu c (cb5 c _) k=0;rw[w3.tag];obtain⟨s1,_,_⟩:=wB h hm hk;unfold eu rg;rw[Int.toNat_natCast,List.getD_eq_getElem?_getD,am7 (by rw[gl,gl];omega)];unfold dg;split
 .rw[aD];split<;>rfl
 .rw[aD];split<;>rfl
theorem cV2 (h:c.Ok)(hm:c.mode≠3):Inv c (new2 c):=by
 have f:=ae9 h;have n:=h.num;have nl:=n.len;have nw:=n.words;have h9:=h.off9_le;have h89:c.off 9=c.off 8+(c.sl*c.ns).toNat:=bH9;have w0:Wd c (put (dg c.words.toNat) (c.off 8) (dg (c.sl*c.ns).toNat)):=(bA2 (c:=c)).put h (by rw[gl];omega)
 have hu:jo c (new2 c).W=0:=by
  unfold jo;rw[List.countP_eq_zero];intro k hk;rw[bv8 h hm (List.mem_range.1 hk)];decide
 refine⟨(bl9 h w0).2.1,⟨by show 0<=c.len;omega,by show c.len<=65535;omega⟩,⟨aB _,by show 0<=c.len;omega⟩,⟨by show(-1:Int)<= -1;omega,by show(-1:Int)<=c.len;omega⟩,λk hk=> ?_, ?_,⟨aB _,f.2.1⟩⟩
 .rw[bv8 h hm hk];exact⟨aB _,by show(0:Int)<=c.len+1;omega⟩
 .rw[hu];show c.fixed=c.fixed+c.sl*0;omega
end
end
section
open Go.IntKind renaming wrap -> zH, i64 -> zI, u64 -> zJ
section
variable {c:Cx}
def cY3 (c:Cx)(s:Dy):Int×Int×Int×Int×Int×Int×Int×Int×Int×Int×Int×Int×Int×Int×Int×Int:=
 (zH zJ c.mode,zH zJ s.L,zH zJ s.p,zH zJ (zH zI (s.q+1)),zH zJ c.ns,zH zJ s.c0,zH zJ s.c1,zH zJ s.c2,zH zJ s.c3,zH zJ s.lv,zH zJ s.pk,s.z,0,0,0,0)
theorem cP1 (s:Dy):kG c.fixed c.tp c.sl c.ns c.mode c.R c.Q c.len c.words s.L s.p s.q s.c0 s.c1 s.c2 s.c3 s.z c.X c.T c.l c.k c.P c.tk s.lv s.pk c.words s.W=C (cY3 c s):=by
 unfold kG qf qg kV kW;simp only[zG];have key:ca (pV c.ns c.mode s.L s.p s.q s.c0 s.c1 s.c2 s.c3 s.lv s.pk) dq ((0,0,0,0,0,0,0,0,0,0,0,0,0,0,0,0,0))=C (zH zJ c.mode,zH zJ s.L,zH zJ s.p,zH zJ (zH zI (s.q+1)),zH zJ c.ns,zH zJ s.c0,zH zJ s.c1,zH zJ s.c2,zH zJ s.c3,zH zJ s.lv,zH zJ s.pk,0,0,0,0,0):=by kernel_rfl
 rw[key];rfl
theorem ci4 (s:Dy){sb sn sx:Int}:iy c.fixed c.tp c.sl c.ns c.mode c.R c.Q c.len c.words s.L s.p s.q s.c0 s.c1 s.c2 s.c3 s.z c.X c.T c.l c.k c.P c.tk sb sn sx s.lv s.pk c.words s.W=C (cY3 c s):=by
 unfold iy ol om kV kW;simp only[zG];have key:ca (oD c.ns c.mode s.L s.p s.q s.c0 s.c1 s.c2 s.c3 s.lv s.pk) dq ((0,0,0,0,0,0,0,0,0,0,0,0,0,0,0,0,0))=C (zH zJ c.mode,zH zJ s.L,zH zJ s.p,zH zJ (zH zI (s.q+1)),zH zJ c.ns,zH zJ s.c0,zH zJ s.c1,zH zJ s.c2,zH zJ s.c3,zH zJ s.lv,zH zJ s.pk,0,0,0,0,0):=by kernel_rfl
 rw[key];rfl
theorem cO2 {l:Zd}(hl:l.length<1000000):ca (ji l) dq (0,0)=C ((l.countP λt=>Zc (0<=t):Nat):Int):=by
 have h: ∀i,((l.take i).countP λt=>Zc (0<=t))<=l.length:=λi=>Nat.le_trans List.countP_le_length (by simp;omega)
 have key:ca (ji l) dq (0,(((l.take 0).countP λt=>Zc (0<=t):Nat):Int))=C (((l.take l.length).countP λt=>Zc (0<=t):Nat):Int):=by
  refine ff (n:=l.length) (λi=>(((l.take i).countP λt=>Zc (0<=t):Nat):Int)) (by omega) (λi hi=> ?_) ?_
  .have h1:=h i;unfold ji;simp only;rw[zB (show(i:Int)<(l.length:Int)by omega),zC,cl hi];simp only[zG];rw[List.getElem?_eq_getElem hi];simp only[zG];rw[bq (n:=(i:Int)+1) (by omega),List.take_succ_eq_append_getElem hi,List.countP_append,bv];by_cases hp:0<=l[i]
   .rw[zE hp,bq (by omega)];simp[hp]
   .rw[zF hp];simp[hp]
  .unfold ji;simp only;rw[zA (by omega),zD]
 rw[List.take_length]at key;exact key
theorem cO3 (W:Zd):((vS c W).countP λt=>Zc (0<=t))=jo c W:=by
 unfold vS jo;rw[List.countP_map];apply List.countP_congr;intro k _;simp only[Function.comp,decide_eq_true_eq];omega
theorem cd8 (h:c.Ok)(hm:c.mode≠3){W:Zd}(hW:Wd c W)(ht: ∀k,k<c.ns.toNat->0<=eu c W k/\eu c W k<=65536):lQ (c.off 8:Int) c.ns (c.X.length:Int) c.tk W=C (.inr ((c.off 8:Int),c.ns,(c.X.length:Int))):=by
 have n:=h.num;have nx:=n.x;have nns:=h.ns;have nm:=n.mul;have nw:=n.words;have hsl:=n.sl;rw[zF hm]at hsl;have h9:=h.off9_le;have h89:c.off 9=c.off 8+(c.sl*c.ns).toNat:=bH9;obtain⟨t1,t2⟩:=hW.tk h;unfold lQ mb gg;rw[zB (show 0<=c.ns by omega),zB (show c.ns<=1048576 by omega),zB (show 1<=(c.X.length:Int)by omega),zB (show(c.X.length:Int)<=64 by omega)];simp only[zC,zD,Bool.not_true,zG];rw[bq (n:=(c.X.length:Int)+1) (by omega),<-hsl,Int.mul_comm c.ns,bq (n:=c.sl*c.ns) (by omega)]
 have hrd:gw (c.off 8:Int) (c.sl*c.ns) c.tk W=C (0,seg W (c.off 8) (c.sl*c.ns).toNat):=by
  have:=br1 (W:=W) (o:=c.off 8) (n:=(c.sl*c.ns).toNat) (tk:=c.off 9) (by omega) t1 t2;rw[Int.toNat_of_nonneg nm]at this;exact this
 rw[hrd];simp only[zG];rw[zA (by simp),zD]
 have key:ca (gx (c.off 8:Int) c.ns (c.X.length:Int) c.tk W) dq 0=C (.inr ()):=by
  refine ug (n:=c.ns.toNat) (by omega) (λi hi=> ?_) ?_
  .have hti:=ht i hi;unfold gx;rw[zB (by omega),zC,am6 h hm hi];simp only[zG];rw[bm2 h hm hW hi];simp only[zG];rw[zA (by omega),zD,bq (by omega)];rfl
  .unfold gx;rw[zA (by omega),zD]
 rw[key];rfl
def do0 (c:Cx)(s:Dy):Int×Int×Int×Int×Int×Int×Int×Int×Int×Int×Int×Int×Int×Int×Int×Int×Int×(Zd)×(Zd)×(List (Int×Int×Int×Int×Int))×(List (Int×Int×Int×Int×Int))×(Zd)×Int×Int×Int×Int×Zd:=
 (c.fixed,c.tp,c.sl,c.ns,c.mode,c.R,c.Q,c.len,c.words,s.L,s.p,s.q,s.c0,s.c1,s.c2,s.c3,s.z,c.X,c.T,c.l,c.k,c.P,c.tk,s.lv,s.pk,c.words,s.W)
def do1 (c:Cx)(s:Dy):Int×Int×Int×Int×Int×Int×Int×Int×Int×Int×Int×Int×Int×Int×Int×Int×Int×(Zd)×(Zd)×(List (Int×Int×Int×Int×Int))×(List (Int×Int×Int×Int×Int))×(Zd)×Int×Int×Int×Int×Int×Int×Int×Zd:=
 (c.fixed,c.tp,c.sl,c.ns,c.mode,c.R,c.Q,c.len,c.words,s.L,s.p,s.q,s.c0,s.c1,s.c2,s.c3,s.z,c.X,c.T,c.l,c.k,c.P,c.tk,(c.off 8:Int),c.ns,(c.X.length:Int),s.lv,s.pk,c.words,s.W)
theorem br0 (h:c.Ok){W:Zd}(hW:Wd c W):wD W=C (.inr W):=by
 have f:=ae9 h;have nw:=h.num.words;unfold Wd at hW;unfold wD ur;rw[zA (by omega),zD,zA (by omega),zD];simp only[zG];rw[zA (by simp),zD,vm (by omega)];rfl
theorem cm8 {b lv pk:Int}(h:0<=lv)(h1:lv<=pk)(h2:pk<=b):kT b lv pk=C (.inr (lv,pk,b)):=by
 unfold kT;rw[zA (by omega),zD,zA (by omega),zD,zA (by omega),zD]
def ch1 (c:Cx)(s:Dy):Prop:=c.mode≠2->s.L=c.len
end
end
section
open List renaming length_take -> aB
section
variable {c:Cx}
theorem cF0 (h:c.Ok)(hm:c.mode=3){s:Dy}(hi:InvB c s)(a n:Int):InvB c (plF c a n s).2:=by
 have nm:=h.num;have hW:=hi.w;have hL:=hi.L;have hp:=hi.p;have hq:=hi.q;have hpk:=hi.pk;have hqp:=hi.qp;have hns:=h.ns;have nR:=nm.R;have n1:=nm.xtR;have nx:=nm.x;obtain⟨g1,g2,g3,g4,g5,g6,g7⟩:=cb3 h hm hi;have htp:=nm.tp;rw[zE hm]at htp;have l1:(seg s.W (c.off 1) c.X.length).length=c.X.length:=jK (hW.in' h (i:=1) (by omega));have z1:c.sz 1=c.X.length:=rfl;have o1:=jm (c:=c) (i:=1) (j:=9) (by omega);unfold plF;by_cases a8:a=8
 .rw[zE a8];by_cases hn:n≠0
  .rw[zE hn];exact hi
  rw[zF hn];by_cases hq0:0<=s.q
  .rw[zE hq0];exact hi
  rw[zF hq0];by_cases hpl:s.p=s.L
  .rw[zE hpl];exact hi
  rw[zF hpl];have hheld:lu s=s.p:=by unfold lu;rw[zE (by omega)]
  have hlt:s.p.toNat<c.ns.toNat:=by omega
  obtain⟨s1,s2,s3,s4⟩:=aA6 h hm hlt;obtain⟨f1,f2,f3⟩:=pp h hW s.p;have w1:=bb5 h hW s.p;have hla:((stepR c s.W s.p).2.1++(stepR c s.W s.p).1).length=c.sl.toNat:=by rw[List.length_append];omega
  have w2:=w1.put h (w:=(stepR c s.W s.p).2.1++(stepR c s.W s.p).1) (o:=po c s.p.toNat) (by rw[hla];exact s3);have hbd:=g5 (by rw[hheld];omega);refine⟨w2.put h (by rw[aB];omega),hL,⟨by show 0<=s.p+1;omega,by show s.p+1<=s.L;omega⟩,hq,λhq1=> ?_, ?_, ?_⟩
  .have hq1:0<=s.q:=hq1;omega
  .show s.lv+c.sl=c.fixed+c.sl*(if s.q<0 then s.p+1 else s.q);rw[zE (by omega),hi.lv,hheld,Int.mul_add,Int.mul_one];omega
  .show s.lv+c.sl<=max s.pk (s.lv+c.sl)/\max s.pk (s.lv+c.sl)<=c.words;omega
 rw[zF a8];by_cases a5:a=5
 .rw[zE a5];by_cases hn:n≠0
  .rw[zE hn];exact hi
  rw[zF hn];by_cases hq0:0<=s.q
  .rw[zE hq0];exact hi
  rw[zF hq0];by_cases hpl:s.p≠s.L
  .rw[zE hpl];exact hi
  rw[zF hpl];refine⟨(bl1 h hW l1).2,hL,hp,⟨by show-1<=s.L;omega,Int.le_refl _⟩,λ_=>by show s.p=s.L;omega, ?_, ?_⟩
  .show s.lv=c.fixed+c.sl*(if s.L<0 then s.p else s.L);rw[zF (by omega),hi.lv];unfold lu;rw[zE (by omega),show s.p=s.L by omega]
  .show s.lv<=max s.pk (s.lv+(c.fk.n:Int))/\max s.pk (s.lv+(c.fk.n:Int))<=c.words;omega
 rw[zF a5];by_cases a9:a=9
 .rw[zE a9];by_cases hn:n≠0
  .rw[zE hn];exact hi
  rw[zF hn];by_cases hq1:s.q<1
  .rw[zE hq1];exact hi
  rw[zF hq1];have hlt:(s.q-1).toNat<c.ns.toNat:=by omega
  obtain⟨b1,b2,b3,b4,b5,b6⟩:=cj5 h hm hW hlt;obtain⟨v1,v2,v3⟩:=zK h (a:=(be1 c s.W (s.q-1).toNat).2.1) hW (by omega) (by omega);refine⟨v3.put h (by rw[aB];omega),hL,⟨by show 0<=s.q-1;omega,by show s.q-1<=s.L;omega⟩,⟨by show-1<=s.q-1;omega,by show s.q-1<=s.L;omega⟩,λ_=>rfl, ?_, ?_⟩
  .show s.lv-c.sl=c.fixed+c.sl*(if s.q-1<0 then s.q-1 else s.q-1);have hheld:lu s=s.q:=by unfold lu;rw[zF (by omega)]
   rw[zF (by omega),hi.lv,hheld,Int.mul_sub,Int.mul_one];omega
  .show s.lv-c.sl<=s.pk/\s.pk<=c.words;have:=nm.sl;rw[zE hm]at this;omega
 rw[zF a9];exact hi
theorem dh7 {s:Dy}{B:Int}(hc:Cnt B s)(a n:Int):Cnt (B+65536) (plF c a n s).2:=by
 have key:Cnt (B+65536) s:=by unfold Cnt at hc⊢;omega
 unfold plF
 repeat' split
 all_goals first|exact key|(unfold Cnt at hc⊢;simp only;omega)
def mg (c:Cx)(s:Dy):Int×Dy:=if c.mode≠2 then(19,s)else if 0<=s.q then(19,s)else if s.L=65535 then(14,s)else(0,{s with L:=s.L+1})
theorem bL2 {s:Dy}{B:Int}(hc:Cnt B s):Cnt (B+65536) (mg c s).2:=by
 have key:Cnt (B+65536) s:=by unfold Cnt at hc⊢;omega
 unfold mg
 repeat' split
 all_goals first|exact key|(unfold Cnt at hc⊢;simp only;omega)
theorem cx4 (hm:c.mode=3){s:Dy}(hi:InvB c s):InvB c (mg c s).2:=by
 unfold mg;rw[zE (by omega)];exact hi
theorem cx5 {s:Dy}(hi:Inv c s):Inv c (mg c s).2:=by
 unfold mg;split
 .exact hi
 split
 .exact hi
 split
 .exact hi
 .have:=hi.L;have:=hi.p;have:=hi.q;exact⟨hi.w,⟨by show 0<=s.L+1;omega,by show s.L+1<=65535;omega⟩,⟨hi.p.1,by show s.p<=s.L+1;omega⟩,⟨hi.q.1,by show s.q<=s.L+1;omega⟩,λk hk=>by have:=hi.tag k hk;exact⟨this.1,by show eu c s.W k<=s.L+1+1;omega⟩,hi.lv,hi.pk⟩
theorem cK8 {s:Dy}(hl:ch1 c s):ch1 c (mg c s).2:=by
 intro hm;unfold mg;rw[zE hm];exact hl hm
theorem dx5 (a n:Int)(s:Dy):(doF c a n s).2.L=s.L:=by
 unfold doF;by_cases h1:lL a n=Zb∨7<a
 .rw[zE h1]
 rw[zF h1];by_cases h4:(2<=a/\a<=4)/\c.ns<=n
 .rw[zE h4]
 rw[zF h4]
 have two: ∀{P:Prop} [Decidable P] {x y:Int×Dy},x.2.L=s.L->y.2.L=s.L->(if P then x else y).2.L=s.L:=by
  intro P _ x y hx hy;by_cases hP:P
  .rw[zE hP];exact hx
  .rw[zF hP];exact hy
 exact two (two rfl rfl) (two (two rfl rfl) (two (two rfl rfl) (two (two rfl rfl) (two (two rfl (two rfl rfl)) (two (two rfl (two rfl rfl)) (two rfl (two rfl rfl)))))))
theorem dc7 {s:Dy}(hl:ch1 c s)(a n:Int):ch1 c (doF c a n s).2:=λhm=>(dx5 a n s).trans (hl hm)
def bG8 (c:Cx)(x:Int×Int)(s:Dy):Int×Dy:=if x.1=0 then mg c s else plF c x.1 x.2 s
def bG9 (c:Cx)(x:Int×Int)(s:Dy):Int×Dy:=if x.1=0 then mg c s else doF c x.1 x.2 s
theorem aM2 (s:Dy):(mg c s).2={s with L:=(mg c s).2.L}:=by
 unfold mg
 repeat' split
 all_goals rfl
structure Well1 (c:Cx)(i:Nat)(s:Dy):Prop where
 inv:InvB c s
 cnt:Cnt (65536*i) s
structure Well2 (c:Cx)(i:Nat)(s:Dy):Prop where
 inv:Inv c s
 cnt:Cnt (65536*i) s
 len:ch1 c s
theorem Well1.act (h:c.Ok)(hm:c.mode=3){i:Nat}{s:Dy}(w:Well1 c i s)(x:Int×Int):Well1 c (i+1) (bG8 c x s).2:=by
 have e:(65536:Int)*((i+1:Nat):Int)=65536*i+65536:=by omega
 unfold bG8;split
 .exact⟨cx4 hm w.inv,by rw[e];exact bL2 w.cnt⟩
 .exact⟨cF0 h hm w.inv _ _,by rw[e];exact dh7 w.cnt _ _⟩
theorem Well2.act (h:c.Ok)(hm:c.mode≠3){i:Nat}{s:Dy}(w:Well2 c i s)(x:Int×Int):Well2 c (i+1) (bG9 c x s).2:=by
 have e:(65536:Int)*((i+1:Nat):Int)=65536*i+65536:=by omega
 unfold bG9;split
 .exact⟨cx5 w.inv,by rw[e];exact bL2 w.cnt,cK8 w.len⟩
 .exact⟨cC7 h hm w.inv _ _,by rw[e];exact dc6 w.cnt _ _,dc7 w.len _ _⟩
theorem Well1.L (h:c.Ok){i:Nat}{s:Dy}(w:Well1 c i s):0<=s.L/\s.L<=65535:=by
 have:=w.inv.L;have:=h.num.len;omega
def dt9 (f:(Int×Int)->Dy->Int×Dy)(l:List (Int×Int))(s:Dy):Nat->Dy
 |0=>s
 |i+1=>(f (l.getD i (0,0)) (dt9 f l s i)).2
theorem cE2 (s:Dy)(h:s.c0=0/\s.c1=0/\s.c2=0/\s.c3=0):Cnt (65536*(0:Nat)) s:=by
 unfold Cnt;omega
theorem bN5 (h:c.Ok)(hm:c.mode=3)(l:List (Int×Int)): ∀i,Well1 c i (dt9 (bG8 c) l (new1 c) i)
 |0=>⟨cV1 h hm,cE2 _ ⟨rfl,rfl,rfl,rfl⟩⟩
 |i+1=>(bN5 h hm l i).act h hm _
theorem bN6 (h:c.Ok)(hm:c.mode≠3)(l:List (Int×Int)): ∀i,Well2 c i (dt9 (bG9 c) l (new2 c) i)
 |0=>⟨cV2 h hm,cE2 _ ⟨rfl,rfl,rfl,rfl⟩,λ_=>rfl⟩
 |i+1=>(bN6 h hm l i).act h hm _
def cp4 (c:Cx)(s:Dy):Int×Int×(Zd)×Zd:=if s.q≠0 then(0,19,[],[])else(s.z,0,seg s.W (c.off 5) c.X.length,seg s.W (c.off 6) c.T.length)
theorem dr7 (h:c.Ok){s:Dy}(hW:Wd c s.W):lR c.fixed c.tp c.sl c.ns c.mode c.R c.Q c.len c.words s.L s.p s.q s.c0 s.c1 s.c2 s.c3 s.z c.X c.T c.l c.k c.P c.tk s.lv s.pk c.words s.W=C s.W:=by
 unfold lR kw;rw[vm (hW.tk h).2];rfl
theorem cT1 (h:c.Ok){s:Dy}(hW:Wd c s.W):jr c.fixed c.tp c.sl c.ns c.mode c.R c.Q c.len c.words s.L s.p s.q s.c0 s.c1 s.c2 s.c3 s.z c.X c.T c.l c.k c.P c.tk (c.off 8:Int) c.ns (c.X.length:Int) s.lv s.pk c.words s.W=C s.W:=by
 unfold jr kw;rw[vm (hW.tk h).2];rfl
end
end
section
section
variable {c:Cx}
end
end
section
section
variable {a0:Int} {a1 a2:Zd} {a3:Int} {a4:List cq} {a5:Int} {a6:List cq} {a7 a8:Int}
theorem di9 (h4: ∀o∈a4,okV o)(h6: ∀o∈a6,okV o):mq a0 a1 a2 a3 a4 a5 a6 a7 a8=C Zb∨(mq a0 a1 a2 a3 a4 a5 a6 a7 a8=C Za/\OpsOk a4/\OpsOk a6/\a1.length<=200/\a2.length<=200):=by
 unfold mq zY;by_cases c1:(a4.length:Int)<=60
 .by_cases c2:(a6.length:Int)<=60
  .by_cases c3:(a1.length:Int)<=200
   .by_cases c4:(a2.length:Int)<=200
    .have o4:OpsOk a4:=⟨by omega,h4⟩;have o6:OpsOk a6:=⟨by omega,h6⟩;rw[zB c1,zB c2,zB c3,zB c4];simp only[zC,zG,Bool.not_true,zD];rw[aU8 o4 o6];simp only[zG,bv]
     have key: ∀b:Bool,(C b=C Zb)∨(C b=C Za/\OpsOk a4/\OpsOk a6/\a1.length<=200/\a2.length<=200):=λb=>by
      cases b
      .exact .inl rfl
      .exact .inr ⟨rfl,o4,o6,by omega,by omega⟩
     repeat' split
     all_goals exact key _
    .rw[zB c1,zB c2,zB c3,zA c4];exact .inl rfl
   .rw[zB c1,zB c2,zA c3];exact .inl rfl
  .rw[zB c1,zA c2];exact .inl rfl
 .rw[zA c1];exact .inl rfl
end
end
end Go.V
