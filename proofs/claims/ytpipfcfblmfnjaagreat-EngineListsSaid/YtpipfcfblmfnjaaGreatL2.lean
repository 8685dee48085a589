/- A part of the proofs of this claim: what functions of the program answer on an abstract machine, and plain laws. No condition. -/
import Derived.Test.YtpipfcfblmfnjaaGreatL1
set_option linter.unusedVariables false
set_option linter.unusedSimpArgs false
set_option linter.unusedSectionVars false
namespace Go.V
open Go.Ab
section
open Go.IntKind renaming wrap → zH, i64 → zI, u64 → zJ
open Int renaming toNat_natCast → aB
open List renaming getElem?_eq_getElem → aD
set_option maxRecDepth 100000
theorem sI (f:Nat→Int): ∀{j:Nat},j<8→List.getD [f 0,f 1,f 2,f 3,f 4,f 5,f 6,f 7] j 0=f j
 |0,_=>rfl
 |1,_=>rfl
 |2,_=>rfl
 |3,_=>rfl
 |4,_=>rfl
 |5,_=>rfl
 |6,_=>rfl
 |7,_=>rfl
 |n+8,h=>by omega
def app (o:dR)(x y:Int):Int:=
 if o.1=1 then zH zJ (x+y)else if o.1=2 then zH zJ (x-y)else if o.1=3 then zH zJ (x*y)else if o.1=4 then zH zJ (0-x)else if o.1=5 then o.2.2.2.2 else if o.1=6 then x else 0
theorem aw9 (o:dR)(x y:Int):mn o.1 o.2.1 o.2.2.1 o.2.2.2.1 o.2.2.2.2 x y=some (app o x y):=by
 unfold mn app;simp only[cr]
 repeat' split
 all_goals rfl
def inR (R:Nat)(o:dR):Prop:=(0≤o.2.1∧o.2.1<R)∧(0≤o.2.2.1∧o.2.2.1<R)∧0≤o.2.2.2.1∧o.2.2.2.1<R
theorem aL9 {R:Nat}{o:dR}(h:inR R o): ∃d a b:Nat,o.2.1=d∧o.2.2.1=a∧o.2.2.2.1=b∧d<R∧a<R∧b<R:=by
 unfold inR at h;exact⟨o.2.1.toNat,o.2.2.1.toNat,o.2.2.2.1.toNat,by omega,by omega,by omega,by omega,by omega,by omega⟩
def rg (r:List Int)(k:Int):Int:=r.getD k.toNat 0
theorem hC {r:List Int}{k:Nat}(h:k<r.length):r[k]?=some (rg r (k:Int)):=by
 unfold rg;rw[aB,aD h,List.getD_eq_getElem?_getD,aD h];rfl
abbrev TS :=List Int×List Int×Nat
def cy7 (o:dR)(s:TS):TS:=(s.1.set o.2.1.toNat (app o (rg s.1 o.2.2.1) (rg s.1 o.2.2.2.1)),s.2.1.set s.2.2 (rg s.1 o.2.1),s.2.2+1)
def VdT (R N:Nat)(m:Nat)(s:TS):Prop:=s.1.length=R∧s.2.1.length=N∧s.2.2+m≤N
def stT (p d:Nat)(l:Nat→Int)(s:TS):Int×Int×Int×(List Int)×(List Int)×Int×Int×Int×Int×Int×Int×Int×Int:=
 ((p:Int),(s.2.2:Int),(d:Int),s.1,s.2.1,l 0,l 1,l 2,l 3,l 4,l 5,l 6,l 7)
theorem i8 {code:List rZ}{p:Nat}{x:rZ}(hc:code.length≤8192)(h:code[p]?=some x):p<code.length∧ix (p:Int) code.length=some p:=by
 have:=(List.getElem?_eq_some_iff.1 h).1;exact⟨this,dp this⟩
theorem cc7 {code:List rZ}(hc:code.length≤8192){R N:Nat}(hN:N≤1000000):Runs (iT code) code stT cy7 (VdT R N) (inR R)where
 op:=by
  intro p d l s m o to h hg hk hd hv;obtain⟨h1,h2⟩:=i8 hc h;obtain⟨kd,ka,kb,e1,e2,e3,g1,g2,g3⟩:=aL9 hg;obtain⟨v1,v2,v3⟩:=hv;refine⟨?_,by unfold cy7;exact⟨by simp[v1],by simp[v2],by show s.2.2+1+m≤N;omega⟩⟩;unfold stT cy7;simp only[iT];rw[zA (by omega),zD,h2];simp only[zG];rw[h];simp only[zG,dG];rw[zA (by omega),zD,zA (by omega),zD];simp only[aw9,zG];rw[e1,e2,e3,dp (show kd<s.1.length by omega)];simp only[zG];rw[hC (show kd<s.1.length by omega)];simp only[zG];rw[dp (show s.2.2<s.2.1.length by omega)];simp only[zG];rw[hC (show s.2.2<s.2.1.length by omega)];simp only[zG];rw[dp (show ka<s.1.length by omega)];simp only[zG];rw[hC (show ka<s.1.length by omega)];simp only[zG];rw[dp (show kb<s.1.length by omega)];simp only[zG];rw[hC (show kb<s.1.length by omega)]
  simp only[zG];rw[ck (n:=(p:Int)+1) (by omega),ck (n:=(s.2.2:Int)+1) (by omega)];rfl
 rep:=by
  intro p d l s m o to h hk hd hv;obtain⟨h1,h2⟩:=i8 hc h;unfold stT;simp only[iT];rw[zA (by omega),zD,h2];simp only[zG];rw[h];simp only[zG,dG];rw[zB hk,zC,dp hd];simp only[zG];rw[ck (n:=(p:Int)+1) (by omega),ck (n:=(d:Int)+1) (by omega)];rfl
 nxt:=by
  intro p d l s m e to h hk hd hl hl2 hv;obtain⟨h1,h2⟩:=i8 hc h;have h8:=sI (upd l d (l d-1)) hd;rw[lF]at h8;unfold upd at h8;unfold stT;simp only[iT];rw[zA (by omega),zD,h2];simp only[zG];rw[h];simp only[zG,dG];rw[zA (by omega),zD,zB hk,zC,ck (n:=((d+1:Nat):Int)-1) (by omega),show((d+1:Nat):Int)-1=(d:Int)by omega,dp hd];simp only[zG];rw[sI l hd,hZ (by omega),h8,zB (by omega),zC];rfl
 out:=by
  intro p d l s m e to h hk hd hl hv;obtain⟨h1,h2⟩:=i8 hc h;have h8:=sI (upd l d (l d-1)) hd;rw[lF]at h8;unfold upd at h8;unfold stT;simp only[iT];rw[zA (by omega),zD,h2];simp only[zG];rw[h];simp only[zG,dG];rw[zA (by omega),zD,zB hk,zC,ck (n:=((d+1:Nat):Int)-1) (by omega),show((d+1:Nat):Int)-1=(d:Int)by omega,dp hd];simp only[zG];rw[sI l hd,hZ (by omega),h8,zA (by omega),zD,ck (n:=(p:Int)+1) (by omega)];rfl
abbrev FS :=List Int×Nat
def cy6 (o:dR)(s:FS):FS:=(s.1.set o.2.1.toNat (app o (rg s.1 o.2.2.1) (rg s.1 o.2.2.2.1)),s.2+1)
def VdF (R M:Nat)(m:Nat)(s:FS):Prop:=s.1.length=R∧s.2+m≤M
def stF (p d:Nat)(l:Nat→Int)(s:FS):Int×Int×Int×(List Int)×Int×Int×Int×Int×Int×Int×Int×Int:=
 ((p:Int),(s.2:Int),(d:Int),s.1,l 0,l 1,l 2,l 3,l 4,l 5,l 6,l 7)
theorem cn5 {code:List rZ}(hc:code.length≤8192){R M:Nat}(hM:M≤1000000):Runs (gy (-1) code) code stF cy6 (VdF R M) (inR R)where
 op:=by
  intro p d l s m o to h hg hk hd hv;obtain⟨h1,h2⟩:=i8 hc h;obtain⟨kd,ka,kb,e1,e2,e3,g1,g2,g3⟩:=aL9 hg;obtain⟨v1,v2⟩:=hv;refine⟨?_,by unfold cy6;exact⟨by simp[v1],by show s.2+1+m≤M;omega⟩⟩;unfold stF cy6;simp only[gy];rw[zA (show¬((p:Int)=(code.length:Int))by omega),zD,zA (show¬((s.2:Int)= -1)by omega),zD,h2];simp only[zG];rw[h];simp only[zG,dG];rw[zA (by omega),zD,zA (by omega),zD];simp only[aw9,rR,zG];rw[e1,e2,e3,dp (show ka<s.1.length by omega)];simp only[zG];rw[hC (show ka<s.1.length by omega)];simp only[zG];rw[dp (show kb<s.1.length by omega)];simp only[zG];rw[hC (show kb<s.1.length by omega)];simp only[zG];rw[dp (show kd<s.1.length by omega)];simp only[zG];rw[hC (show kd<s.1.length by omega)];simp only[zG]
  rw[ck (n:=(p:Int)+1) (by omega),ck (n:=(s.2:Int)+1) (by omega)];rfl
 rep:=by
  intro p d l s m o to h hk hd hv;obtain⟨h1,h2⟩:=i8 hc h;unfold stF;simp only[gy];rw[zA (show¬((p:Int)=(code.length:Int))by omega),zD,zA (show¬((s.2:Int)= -1)by omega),zD,h2];simp only[zG];rw[h];simp only[zG,dG];rw[zB hk,zC,dp hd];simp only[zG];rw[ck (n:=(p:Int)+1) (by omega),ck (n:=(d:Int)+1) (by omega)];rfl
 nxt:=by
  intro p d l s m e to h hk hd hl hl2 hv;obtain⟨h1,h2⟩:=i8 hc h;have h8:=sI (upd l d (l d-1)) hd;rw[lF]at h8;unfold upd at h8;unfold stF;simp only[gy];rw[zA (show¬((p:Int)=(code.length:Int))by omega),zD,zA (show¬((s.2:Int)= -1)by omega),zD,h2];simp only[zG];rw[h];simp only[zG,dG];rw[zA (by omega),zD,zB hk,zC,ck (n:=((d+1:Nat):Int)-1) (by omega),show((d+1:Nat):Int)-1=(d:Int)by omega,dp hd];simp only[zG];rw[sI l hd,hZ (by omega),h8,zB (by omega),zC];rfl
 out:=by
  intro p d l s m e to h hk hd hl hv;obtain⟨h1,h2⟩:=i8 hc h;have h8:=sI (upd l d (l d-1)) hd;rw[lF]at h8;unfold upd at h8;unfold stF;simp only[gy];rw[zA (show¬((p:Int)=(code.length:Int))by omega),zD,zA (show¬((s.2:Int)= -1)by omega),zD,h2];simp only[zG];rw[h];simp only[zG,dG];rw[zA (by omega),zD,zB hk,zC,ck (n:=((d+1:Nat):Int)-1) (by omega),show((d+1:Nat):Int)-1=(d:Int)by omega,dp hd];simp only[zG];rw[sI l hd,hZ (by omega),h8,zA (by omega),zD,ck (n:=(p:Int)+1) (by omega)];rfl
def par (o:dR)(x y:Int):Int×Int:=
 if o.1=1 then(1,1)else if o.1=2 then(1,18446744073709551615)else if o.1=3 then(y,x)else if o.1=4 then(18446744073709551615,0)else if o.1=6 then(1,0)else(0,0)
theorem yX (o:dR)(x y:Int):ib o.1 o.2.1 o.2.2.1 o.2.2.2.1 o.2.2.2.2 x y=some (par o x y):=by
 unfold ib par;simp only[cr]
 repeat' split
 all_goals rfl
def bE5 (o:dR)(r a:List Int)(t:Int):List Int×List Int:=
 let g:=rg a o.2.1
 let r1:=r.set o.2.1.toNat t
 let a1:=a.set o.2.1.toNat 0
 let q:=par o (rg r1 o.2.2.1) (rg r1 o.2.2.2.1)
 let a2:=a1.set o.2.2.1.toNat (zH zJ (rg a1 o.2.2.1+zH zJ (q.1*g)))
 (r1,a2.set o.2.2.2.1.toNat (zH zJ (rg a2 o.2.2.2.1+zH zJ (q.2*g))))
theorem bQ2 {o:dR}{r a t:List Int}{n:Nat}(hg:inR r.length o)(ha:a.length=r.length)(hn:n<t.length):
  kY o.1 o.2.1 o.2.2.1 o.2.2.2.1 o.2.2.2.2 (n:Int) r a t=some (bE5 o r a (rg t (n:Int))):=by
 obtain⟨kd,ka,kb,e1,e2,e3,g1,g2,g3⟩:=aL9 hg;unfold kY;simp only[yX,zG];unfold bE5;simp only[e1,e2,e3,aB];rw[dp (show kd<a.length by omega)];simp only[zG];rw[hC (show kd<a.length by omega)];simp only[zG];rw[dp hn];simp only[zG];rw[hC hn];simp only[zG];rw[dp g1];simp only[zG];rw[hC g1];simp only[zG];have hr1: ∀x:Int,(r.set kd x).length=r.length:=by simp
 have ha1:(a.set kd 0).length=a.length:=by simp
 rw[dp (show ka<(r.set kd (rg t (n:Int))).length by rw[hr1];omega)];simp only[zG];rw[hC (show ka<(r.set kd (rg t (n:Int))).length by rw[hr1];omega)];simp only[zG];rw[dp (show kb<(r.set kd (rg t (n:Int))).length by rw[hr1];omega)];simp only[zG];rw[hC (show kb<(r.set kd (rg t (n:Int))).length by rw[hr1];omega)];simp only[zG];rw[dp (show ka<(a.set kd 0).length by omega)];simp only[zG];rw[hC (show ka<(a.set kd 0).length by omega)];simp only[zG];generalize hP:par o _ _=P;generalize hA:(a.set kd 0).set ka _=A2;have hA2:A2.length=a.length:=by rw[←hA];simp
 rw[dp (show kb<A2.length by omega)];simp only[zG];rw[hC (show kb<A2.length by omega)];simp only[zG]
abbrev BS :=List Int×List Int×Nat
def bQ0 (t:List Int)(o:dR)(s:BS):BS:=((bE5 o s.1 s.2.1 (rg t ((s.2.2-1:Nat):Int))).1,(bE5 o s.1 s.2.1 (rg t ((s.2.2-1:Nat):Int))).2,s.2.2-1)
def VdB (R N:Nat)(m:Nat)(s:BS):Prop:=s.1.length=R∧s.2.1.length=R∧m≤s.2.2∧s.2.2≤N
def stB (p d:Nat)(l:Nat→Int)(s:BS):Int×Int×Int×(List Int)×(List Int)×Int×Int×Int×Int×Int×Int×Int×Int:=
 ((p:Int)-1,(d:Int),(s.2.2:Int),s.1,s.2.1,l 0,l 1,l 2,l 3,l 4,l 5,l 6,l 7)
theorem bE6 (o:dR)(r a:List Int)(t:Int):(bE5 o r a t).1.length=r.length∧(bE5 o r a t).2.length=a.length:=by
 unfold bE5;simp
theorem cI5 {code:List rZ}(hc:code.length≤8192){R:Nat}{t:List Int}(hN:t.length≤1000000):Backs (eZ t code) code stB (bQ0 t) (VdB R t.length) (inR R)where
 op:=by
  intro p d l s m o to h hg hk hd hv;obtain⟨h1,h2⟩:=i8 hc h;obtain⟨v1,v2,v3,v4⟩:=hv;obtain⟨q1,q2⟩:=bE6 o s.1 s.2.1 (rg t ((s.2.2-1:Nat):Int));refine⟨?_,by unfold bQ0;exact⟨by simp[v1,q1],by simp[v2,q2],by show m≤s.2.2-1;omega,by show s.2.2-1≤_;omega⟩⟩;unfold stB bQ0;simp only[eZ];rw[show((p+1:Nat):Int)-1=(p:Int)by omega,zA (by omega),zD,h2];simp only[zG];rw[h];simp only[zG,dG];rw[zA (by omega),zD,zA (by omega),zD,ck (n:=(s.2.2:Int)-1) (by omega),show(s.2.2:Int)-1=((s.2.2-1:Nat):Int)by omega,bQ2 (by rw[v1];exact hg) (by omega) (by omega)];simp only[zG];rw[ck (n:=(p:Int)-1) (by omega)]
 rep:=by
  intro p q d l s m o e to h hk h' hd hv;obtain⟨h1,h2⟩:=i8 hc h;obtain⟨h3,h4⟩:=i8 hc h';unfold stB;simp only[eZ];rw[show((p+1:Nat):Int)-1=(p:Int)by omega,zA (by omega),zD,h2];simp only[zG];rw[h];simp only[zG,dG];rw[zB hk,zC,ck (n:=((q+1:Nat):Int)-1) (by omega),show((q+1:Nat):Int)-1=(q:Int)by omega,h4];simp only[zG];rw[h'];simp only[zG,dG];rw[dp hd];simp only[zG];rw[ck (n:=(p:Int)-1) (by omega),ck (n:=(d:Int)+1) (by omega)];rfl
 nxt:=by
  intro p d l s m o to h hto hk hd hl hl2 hv;obtain⟨h1,h2⟩:=i8 hc h;have h8:=sI (upd l d (l d-1)) hd;rw[lF]at h8;unfold upd at h8;unfold stB;simp only[eZ];rw[show((p+1:Nat):Int)-1=(p:Int)by omega,zA (by omega),zD,h2];simp only[zG];rw[h];simp only[zG,dG];rw[zA (by omega),zD,zB hk,zC,ck (n:=((d+1:Nat):Int)-1) (by omega),show((d+1:Nat):Int)-1=(d:Int)by omega,dp hd];simp only[zG];rw[sI l hd,hZ (by omega),h8,zB (by omega),zC];rw[ck (n:=((to+1:Nat):Int)-2) (by omega),show((to+1:Nat):Int)-2=(to:Int)-1 by omega];rfl
 out:=by
  intro p d l s m o to h hk hd hl hv;obtain⟨h1,h2⟩:=i8 hc h;have h8:=sI (upd l d (l d-1)) hd;rw[lF]at h8;unfold upd at h8;unfold stB;simp only[eZ];rw[show((p+1:Nat):Int)-1=(p:Int)by omega,zA (by omega),zD,h2];simp only[zG];rw[h];simp only[zG,dG];rw[zA (by omega),zD,zB hk,zC,ck (n:=((d+1:Nat):Int)-1) (by omega),show((d+1:Nat):Int)-1=(d:Int)by omega,dp hd];simp only[zG];rw[sI l hd,hZ (by omega),h8,zA (by omega),zD,ck (n:=(p:Int)-1) (by omega)];rfl
end
section
open Bool renaming and_eq_true → aY, not_eq_true' → aZ
open List renaming getElem?_append_right → aW, append_assoc → aX, length_append → bA
open Nat renaming le_refl → aB, sub_self → aD
theorem cI6 {w v c:Int}{n:Nat}(h:uS w v=some c)(hv:0≤v)(hw:w=(n:Int)):c=((n*v.toNat:Nat):Int):=by
 have hvv:((v.toNat:Nat):Int)=v:=Int.toNat_of_nonneg hv;rw[Int.natCast_mul,hvv,←hw];unfold uS at h;split at h
 ·rename_i hz;injection h with h
  rw[hz,Int.zero_mul,h]
 split at h
 ·cases h
 split at h
 ·cases h
 ·injection h with h
  exact h.symm
def cz5 (l:List dR)(m S:List Int):Prop:=m.length=l.length∧S.length=l.length∧∀(A B:List dR) (o e:dR) (b:Fo),l=A++o::(b.src++e::B)→b.Ok→o.1=7→e.1=0→
 m[A.length]?=some ((A.length+1+b.len:Nat):Int)∧S[A.length]?=some ((b.n*uC o:Nat):Int)
theorem cK2 {l:List dR}{m S R:List Int}(hm:MOK l m)(hS:S.length=l.length)(hv: ∀o∈l,okV o)(h: ∀j,j<l.length→∃a b,S[j]?=some a∧R[j]?=some b∧cB4 l j a b):cz5 l m S:=by
 refine⟨hm.len,hS,fun A B o e b hl hb ho he=> ?_⟩;have hlen:l.length=A.length+1+(b.len+(B.length+1)):=by rw[hl];simp[Fo.src_len];omega
 have hlt:A.length<l.length:=by omega
 have hget:l[A.length]=o:=by
  have:l[A.length]?=some o:=by rw[hl,aW (aB _),aD];rfl
  rw[List.getElem?_eq_getElem hlt]at this;injection this
 have hd:l.drop (A.length+1)=b.src++e::B:=by rw[hl,List.drop_append,List.drop_of_length_le (by omega),show A.length+1-A.length=1 by omega];rfl
 refine⟨?_, ?_⟩
 ·have:=hm.at' A.length hlt (by rw[hget];exact ho) b.src e B hd he (Fo.scan0 hb);rw[Fo.src_len]at this;exact this
 ·obtain⟨a,c,h1,h2,h3⟩:=h A.length hlt;obtain⟨h4,h5⟩:=(h3 hlt).1 (by rw[hget];exact ho) b.src e B hd he (Fo.scan0 hb);have hmem: ∀x∈b.src,0≤x.2.2.2.2:=fun x hx=>(hv x (by rw[hl];simp[hx])).1
  have e1:=Fo.Q9_n b hb hmem h4;rw[hget]at h5;rw[h1,cI6 h5 (hv o (by rw[hl];simp)).1 e1];rfl
section
variable {l:List dR} {m S:List Int} {em es:Int}
theorem cJ7 {i:Nat}{op:List Int}{out:List rZ}(hl:l.length≤8192)(ho:out.length≤8192){x:dR}(hx:l[i]?=some x)(hk:0<x.1∧x.1<7):
  eW l (em,m) (es,S) ((i:Int),op,out)=some (.inl (((i+1:Nat):Int),op,out++[dG x 0])):=by
 obtain⟨hi,hg⟩:=List.getElem?_eq_some_iff.1 hx;simp only[eW];rw[zB (show(i:Int)<(l.length:Int)by omega),zC,eE hi,hg];simp only[zG];rw[zA (show¬x.1=7 by omega),zA (show¬x.1=0 by omega)];simp only[zD,zG,dT];rw[dq (by omega) (by omega),ck (by omega)];rfl
theorem cs0 {i j:Nat}{op:List Int}{out:List rZ}(hl:l.length≤8192){x:dR}(hx:l[i]?=some x)(hk:x.1=7)(hs:S[i]?=some 0)(hm:m[i]?=some (j:Int))(hj:j≤8192):
  eW l (em,m) (es,S) ((i:Int),op,out)=some (.inl (((j+1:Nat):Int),op,out)):=by
 obtain⟨hi,hg⟩:=List.getElem?_eq_some_iff.1 hx;obtain⟨hi2,_⟩:=List.getElem?_eq_some_iff.1 hs;obtain⟨hi3,_⟩:=List.getElem?_eq_some_iff.1 hm;simp only[eW];rw[zB (show(i:Int)<(l.length:Int)by omega),zC,eE hi,hg];simp only[zG];rw[zB hk];simp only[zC];rw[dp hi2];simp only[zG];rw[hs];simp only[zG,ik];rw[decide_true,zC,dp hi3];simp only[zG];rw[hm];simp only[zG,ik];rw[ck (by omega)];rfl
theorem cr9 {i:Nat}{n:Int}{op:List Int}{out:List rZ}(hl:l.length≤8192)(ho:out.length≤8192)(hp:op.length≤8192){x:dR}(hx:l[i]?=some x)(hk:x.1=7)(hs:S[i]?=some n)(hn:n≠0):
  eW l (em,m) (es,S) ((i:Int),op,out)=some (.inl (((i+1:Nat):Int),op++[(out.length:Int)],out++[dG x 0])):=by
 obtain⟨hi,hg⟩:=List.getElem?_eq_some_iff.1 hx;obtain⟨hi2,_⟩:=List.getElem?_eq_some_iff.1 hs;simp only[eW];rw[zB (show(i:Int)<(l.length:Int)by omega),zC,eE hi,hg];simp only[zG];rw[zB hk];simp only[zC];rw[dp hi2];simp only[zG];rw[hs];simp only[zG,ik];rw[zA hn,zD,dq (by omega) (by omega)];simp only[zG,ik,dT];rw[dq (by omega) (by omega),ck (by omega)];rfl
theorem ch5 {i q:Nat}{op:List Int}{out:List rZ}{o:dR}{t:Nat}(hl:l.length≤8192)(ho:out.length≤8192)(hp:op.length≤8192){x:dR}(hx:l[i]?=some x)(hk:x.1=0)(hq:out[q]?=some (dG o t)):
  eW l (em,m) (es,S) ((i:Int),op++[(q:Int)],out)=some (.inl (((i+1:Nat):Int),op,out.set q (dG o (out.length+1))++[dG x (q+1)])):=by
 obtain⟨hi,hg⟩:=List.getElem?_eq_some_iff.1 hx;obtain⟨hq1,_⟩:=List.getElem?_eq_some_iff.1 hq;have hlen:(op++[(q:Int)]).length=op.length+1:=by simp
 simp only[eW];rw[zB (show(i:Int)<(l.length:Int)by omega),zC,eE hi,hg];simp only[zG];rw[zA (show¬x.1=7 by omega),zB hk];simp only[zD,zC,zG,dT];rw[ck (n:=((op++[(q:Int)]).length:Int)-1) (by omega),show((op++[(q:Int)]).length:Int)-1=(op.length:Int)by omega,dp (show op.length<(op++[(q:Int)]).length by omega)];simp only[zG];rw[aW (aB _),aD];simp only[List.getElem?_cons_zero,zG];rw[il (by omega),dN,dp hq1];simp only[zG];rw[hq];simp only[zG];rw[dq (by simp;omega) (by omega)];simp only[zG,ik,dT]
 have htk:(op++[(q:Int)]).take ((op.length:Int).toNat-0)=op:=by
  rw[show(op.length:Int).toNat-0=op.length by omega,List.take_left'];rfl
 rw[htk,ck (n:=(i:Int)+1) (by omega),ck (n:=(out.length:Int)+1) (by omega),ck (n:=(q:Int)+1) (by omega)];rfl
theorem aT8 (hl:l.length≤8192)(hK:cz5 l m S): ∀(f:Fo) (A B:List dR) (op:List Int) (out:List rZ),l=A++f.src++B→f.Ok→op.length≤A.length→out.length≤A.length→
  ∃k,k≤f.len∧Reach (eW l (em,m) (es,S)) k ((A.length:Int),op,out) (((A.length+f.len:Nat):Int),op,out++f.bare.code out.length)
 | .nil,A,B,op,out,hs,_,_,_=>by
  refine⟨0,aB _, ?_⟩;simp only[Fo.bare,Fo.code,Fo.len,List.append_nil,Nat.add_zero];exact Reach.refl
 | .op o r,A,B,op,out,hs,hk,hp,ho=>by
  have hA:(A++[o]).length=A.length+1:=by simp
  have hll:l.length=A.length+(r.len+1)+B.length:=by rw[hs];simp[Fo.src,Fo.src_len];omega
  have hx:l[A.length]?=some o:=by rw[hs,aX,aW (aB _),aD];rfl
  obtain⟨k,k1,k2⟩:=aT8 hl hK r (A++[o]) B op (out++[dG o 0]) (by rw[hs];simp[Fo.src]) hk.2 (by omega) (by simp;omega);refine⟨1+k,by simp only[Fo.len];omega, ?_⟩;have h1:=(Reach.one (cJ7 (em:=em) (es:=es) (op:=op) (out:=out) hl (by omega) hx hk.1)).trans (show Reach _ k _ _ from by rw[hA]at k2;exact k2);simp only[Fo.bare,Fo.code,Fo.len];rw[show A.length+(r.len+1)=A.length+1+r.len by omega];rw[aX,bA]at h1;exact h1
 | .rep o b e r,A,B,op,out,hs,hk,hp,ho=>by
  obtain⟨⟨k1,k2⟩,k3,k4⟩:=hk;have hll:l.length=A.length+(b.len+r.len+2)+B.length:=by rw[hs];simp[Fo.src,Fo.src_len];omega
  have hx:l[A.length]?=some o:=by rw[hs,aX,aW (aB _),aD];rfl
  obtain⟨hm,hS⟩:=hK.2.2 A (r.src++B) o e b (by rw[hs];simp[Fo.src]) k3 k1 k2;have hAe:(A++o::b.src).length=A.length+1+b.len:=by simp[Fo.src_len];omega
  have hxe:l[A.length+1+b.len]?=some e:=by
   rw[show l=(A++o::b.src)++(e::(r.src++B))by rw[hs];simp[Fo.src],←hAe,aW (aB _),aD];rfl
  have hAr:(A++o::(b.src++[e])).length=A.length+1+b.len+1:=by simp[Fo.src_len];omega
  simp only[Fo.bare,Fo.len];by_cases hz:b.n*uC o=0
  ·rw[zE hz];rw[hz]at hS;obtain⟨k,g1,g2⟩:=aT8 hl hK r (A++o::(b.src++[e])) B op out (by rw[hs];simp[Fo.src]) k4 (by omega) (by omega);refine⟨1+k,by omega, ?_⟩;have h1:=(Reach.one (cs0 (em:=em) (es:=es) (op:=op) (out:=out) hl hx k1 hS hm (by omega))).trans (show Reach _ k _ _ from by rw[hAr]at g2;exact g2);rw[show A.length+(b.len+r.len+2)=A.length+1+b.len+1+r.len by omega];exact h1
  ·rw[zF hz];have hA:(A++[o]).length=A.length+1:=by simp
   obtain⟨kb,b1,b2⟩:=aT8 hl hK b (A++[o]) (e::(r.src++B)) (op++[(out.length:Int)]) (out++[dG o 0]) (by rw[hs];simp[Fo.src]) k3 (by simp;omega) (by simp;omega);rw[hA]at b2;have hbl:=b.bare_len;have hrl:=r.bare_len;have holen:(out++[dG o 0]++b.bare.code (out++[dG o 0]).length).length=out.length+1+b.bare.len:=by simp[Fo.code_len];omega
   have hq:(out++[dG o 0]++b.bare.code (out++[dG o 0]).length)[out.length]?=some (dG o 0):=by
    rw[aX,aW (aB _),aD];rfl
   have h2:=ch5 (em:=em) (es:=es) (m:=m) (S:=S) (op:=op) hl (by omega) (by omega) hxe k2 hq;rw[holen]at h2
   have hset:(out++[dG o 0]++b.bare.code (out++[dG o 0]).length).set out.length (dG o (out.length+1+b.bare.len+1))=out++dG o (out.length+1+b.bare.len+1)::b.bare.code (out.length+1):=by
    rw[aX,List.set_append_right _ _ (aB _),aD,bA];rfl
   rw[hset]at h2;obtain⟨k,g1,g2⟩:=aT8 hl hK r (A++o::(b.src++[e])) B op (out++dG o (out.length+1+b.bare.len+1)::b.bare.code (out.length+1)++[dG e (out.length+1)]) (by rw[hs];simp[Fo.src]) k4 (by omega) (by rw[hAr];simp[Fo.code_len];omega);rw[hAr]at g2;refine⟨1+kb+1+k,by omega, ?_⟩;have h1:=(((Reach.one (cr9 (em:=em) (es:=es) (m:=m) (op:=op) (out:=out) hl (by omega) (by omega) hx k1 hS (by omega))).trans b2).trans (Reach.one h2)).trans g2;rw[show A.length+(b.len+r.len+2)=A.length+1+b.len+1+r.len by omega]
   have e1:out++dG o (out.length+1+b.bare.len+1)::b.bare.code (out.length+1)++[dG e (out.length+1)]++r.bare.code (out++dG o (out.length+1+b.bare.len+1)::b.bare.code (out.length+1)++[dG e (out.length+1)]).length=out++(Fo.rep o b.bare e r.bare).code out.length:=by
    have hl3:(out++dG o (out.length+1+b.bare.len+1)::b.bare.code (out.length+1)++[dG e (out.length+1)]).length=out.length+b.bare.len+2:=by simp[Fo.code_len];omega
    rw[hl3];simp only[Fo.code];rw[show out.length+1+b.bare.len+1=out.length+b.bare.len+2 by omega];simp
   rw[e1]at h1;exact h1
end
theorem be8 {l:List dR}:w5 l=(iR l).bind fun r=>some (r.2.1,r.2.2.1):=rfl
theorem bZ4 {R:Int}{l:List dR}(h:yx R l=0):lk0 l=0∧lk1 R l=0∧lk2 l=0∧lk3 l=0:=by
 unfold yx at h;split at h
 ·omega
 split at h
 ·omega
 split at h
 ·omega
 ·omega
structure Prg (R:Int)(l:List dR)(f:Fo):Prop where
 ops:OpsOk l
 ok:f.Ok
 src:f.src=l
 z:yx R l=0
 R1:1≤R∧R≤64
 deep:f.hi≤8
 n:f.n≤65536
 w:ej l=((f.n:Int),0)
 regs: ∀o∈l,0<o.1∧o.1<7→inR R.toNat o
theorem cm2 {R:Int}{l:List dR}(h:OpsOk l)(hp:yx R l=0): ∃f,Prg R l f:=by
 obtain⟨h0,h1,h2,h3⟩:=bZ4 hp
 have hform:aG3 l=true:=by
  unfold lk0 at h0;split at h0
  ·assumption
  ·omega
 have hregs:ax6 R l=true:=by
  unfold lk1 at h1;split at h1
  ·assumption
  ·omega
 unfold aG3 at hform;rw[aY,decide_eq_true_eq,aZ]at hform;obtain⟨hs,hr⟩:=hform;unfold ax6 at hregs;rw[aY,decide_eq_true_eq,aZ]at hregs;obtain⟨hR,ho⟩:=hregs;obtain⟨f,f1,f2⟩:=Fo.parse _ l (aB _) hs
 have hq: ∃t,Q9 l=some t∧t≤65536:=by
  unfold lk3 ej at h3;rw[zE hs]at h3;cases hq:Q9 l with
  |none=>rw[hq]at h3;cases h3
  |some t=>
   rw[hq]at h3;refine⟨t,rfl, ?_⟩;by_cases c:65536<t
   ·simp only[zE c]at h3;cases h3
   ·omega
 obtain⟨t,ht,hle⟩:=hq;have hn:t=(f.n:Int):=Fo.Q9_n f f1 (fun x hx=>(h.v x (f2▸hx)).1) (by rw[f2];exact ht);refine⟨f,h,f1,f2,hp,hR, ?_,by omega, ?_,fun o hm hk=> ?_⟩
 ·have h4:=Fo.hi_le f1;rw[f2]at h4;unfold lk2 aT1 at h2;rw[zE hs]at h2;by_cases c:(8:Int)<((hmax l 0 0:Nat):Int)
  ·simp only[zE c]at h2;cases h2
  ·omega
 ·unfold ej;rw[zE hs,ht];show(if 65536<t then((0:Int),(9:Int))else(t,0))=_;rw[zF (by omega),hn]
 ·have h5:=List.any_eq_false.1 hr o hm;have h6:=List.any_eq_false.1 ho o hm;have h5:qG o=true:=by simpa using h5
  have h6:bt9 R o=false:=by simpa using h6
  obtain⟨k,d,a,b,v⟩:=o;have hk:k=1∨k=2∨k=3∨k=4∨k=5∨k=6:=by simp only at hk;omega
  unfold inR
  rcases hk with rfl|rfl|rfl|rfl|rfl|rfl<;>
   ·simp[qG,zW,dF]at h5;simp[bt9,dF]at h6;simp only;omega
theorem ai6 {R:Int}{l:List dR}{f:Fo}(hP:Prg R l f):kA R l=some (0,f.bare.code 0):=by
 unfold kA;rw[be0 hP.ops];simp only[zG];rw[hP.z,zA (by simp),zD];have hl:=hP.ops.len;have hs:dn l 0=some 0:=by rw[←hP.src];exact Fo.scan0 hP.ok
 obtain⟨m,hm,hM⟩:=aK3 (l:=l) (by omega) hs;obtain⟨r,hr,r1,r2,r3⟩:=bv3 (l:=l) (by omega) hP.ops.v;rw[hm,be8,hr];simp only[zG];have hw:=hP.w;rcases r3 with⟨r3,_⟩|⟨_,_,r4,r5,r6⟩
 ·rw[hw]at r3;exact(r3 rfl).elim
 have hK:=cK2 hM r4 (fun o ho=>hP.ops.v o ho) r6;obtain⟨k,k1,k2⟩:=aT8 (em:=0) (es:=r.2.1) (by omega) hK f [] [] [] [] (by simp[hP.src]) hP.ok (by simp) (by simp);have hfl:f.len=l.length:=by rw[←Fo.src_len,hP.src]
 have h1:=k2 (18446744073709551616-k);rw[show 18446744073709551616-k+k=fi by unfold fi;omega,show 18446744073709551616-k=(18446744073709551615-k)+1 by omega]at h1
 have hloop:cv (eW l (0,m) (r.2.1,r.2.2.1)) fi ((0:Int),([]:List Int),([]:List rZ))=some (f.bare.code 0):=by
  refine h1.trans ?_;rw[dP];simp only[eW];rw[zA (by rw[hfl];simp),zD];rfl
 rw[hloop];rfl
end
section
open List renaming replicate → aB, length_replicate → aD
theorem aj7 {α γ:Type}{g:α→Option (α⊕γ)}{k:Nat}{s s':α}{c:γ}(h:Reach g k s s')(hk:k≤1000000000)(he:g s'=some (.inr c)):cv g fi s=some c:=by
 have h1:=h (18446744073709551616-k);rw[show 18446744073709551616-k+k=fi by unfold fi;omega,show 18446744073709551616-k=(18446744073709551615-k)+1 by omega]at h1;refine h1.trans ?_;rw[dP,he];rfl
section
variable {R:Int} {l:List dR} {f:Fo}
theorem Prg.len (h:Prg R l f):f.len≤4096:=by
 have:=h.ops.len;rw[←Fo.src_len,h.src];exact this
theorem Prg.clen (h:Prg R l f):(f.bare.code 0).length≤8192:=by
 have h1:=h.len;have h2:=f.bare_len;rw[Fo.code_len];omega
theorem Prg.steps (h:Prg R l f):f.bare.steps≤1000000000:=by
 have h1:=Fo.steps_le f.bare f.bare_pos;rw[Fo.bare_n]at h1;have h2:=h.len;have h3:=f.bare_len;have h4:=h.n;have h5:(2*f.bare.len+1)*f.n≤8193*65536:=Nat.mul_le_mul (by omega) h4;omega
theorem Prg.good (h:Prg R l f): ∀o∈f.bare.src,(0<o.1∧o.1<7→inR R.toNat o)∧okV o:=fun o ho=>by
 have:=Fo.bare_mem f ho;rw[h.src]at this;exact⟨h.regs o this,h.ops.v o this⟩
theorem Prg.hi (h:Prg R l f):0+f.bare.hi≤8:=by
 have h1:=h.deep;have h2:=f.bare_hi;omega
theorem Prg.writes (h:Prg R l f):fD l=some ((f.n:Int),0):=by
 rw[rN (by have:=h.ops.len;omega) h.ops.v,h.w]
def cA1 (R:Nat)(o:dR):Prop:=0<o.1∧o.1<7→inR R o
theorem bi8 {σ γ S:Type}{g:σ→Option (σ⊕γ)}{code:List rZ}{st:Nat→Nat→(Nat→Int)→S→σ}{stp:dR→S→S}{Vd:Nat→S→Prop}{R:Nat}(h:Runs g code st stp Vd (inR R)):Runs g code st stp Vd (cA1 R):=
 ⟨fun h1 h2 h3 h4 h5=>h.op h1 (h2 h3) h3 h4 h5,h.rep,h.nxt,h.out⟩
theorem aR6 {σ γ S:Type}{g:σ→Option (σ⊕γ)}{code:List rZ}{st:Nat→Nat→(Nat→Int)→S→σ}{stp:dR→S→S}{Vd:Nat→S→Prop}{R:Nat}(h:Backs g code st stp Vd (inR R)):Backs g code st stp Vd (cA1 R):=
 ⟨fun h1 h2 h3 h4 h5=>h.op h1 (h2 h3) h3 h4 h5,h.rep,h.nxt,h.out⟩
def af5 (f:Fo)(r t:List Int):TS:=fwd cy7 f.unroll (r,t,0)
theorem cd5 (h:Prg R l f){r t:List Int}(hr:r.length=R.toNat)(ht:f.n≤t.length)(ht2:t.length≤1000000):
  vc (f.bare.code 0) r t=some (((af5 f r t).2.2:Int),(af5 f r t).1,(af5 f r t).2.1)∧(af5 f r t).1.length=R.toNat∧(af5 f r t).2.1.length=t.length:=by
 obtain⟨l',_,h2,h3⟩:=aX3 (m:=0) (l:=fun _=>0) (s:=((r,t,0):TS)) (d:=0) (p:=0) (A:=[]) (B:=[]) (bi8 (cc7 (R:=R.toNat) (N:=t.length) h.clen ht2)) f.bare (by simp) rfl (Fo.bare_ok f h.ok) f.bare_pos h.hi h.good ⟨hr,rfl,by rw[Fo.bare_n];show 0+(f.n+0)≤_;omega⟩;rw[Fo.bare_unroll]at h2 h3;refine⟨?_,h3.1,h3.2.1⟩;unfold vc
 have:=aj7 h2 h.steps (c:=(((af5 f r t).2.2:Int),(af5 f r t).1,(af5 f r t).2.1,l' 0,l' 1,l' 2,l' 3,l' 4,l' 5,l' 6,l' 7)) (by
  unfold stT;simp only[iT];rw[zB (by rw[Fo.code_len];omega),zC]
  rfl)
 have e:stT 0 0 (fun _=>0) ((r,t,0):TS)=(0,0,0,r,t,0,0,0,0,0,0,0,0):=rfl;rw[e]at this;rw[this];rfl
theorem oM (h:Prg R l f){r t:List Int}(hr:r.length=R.toNat)(ht:f.n≤t.length)(ht2:t.length≤1000000):
  jE R l r t=some (((af5 f r t).2.2:Int),0,(af5 f r t).1,(af5 f r t).2.1)∧(af5 f r t).1.length=R.toNat∧(af5 f r t).2.1.length=t.length:=by
 obtain⟨h1,h2,h3⟩:=cd5 h hr ht ht2;refine⟨?_,h2,h3⟩;unfold jE w6;rw[ai6 h,h.writes];have hR:=h.R1;simp only[zG];rw[zA (show¬((0:Int)≠0)by simp),zD,zA (show¬((r.length:Int)≠R)by omega),zD,zA (show¬((t.length:Int)<(f.n:Int))by omega),zD];simp only[zG];rw[zA (show¬((0:Int)≠0)by simp),zD,h1];rfl
def cc6 (f:Fo)(r:List Int):List Int:=(fwd cy6 f.unroll (r,0)).1
theorem bs9 (h:Prg R l f){r:List Int}(hr:r.length=R.toNat):pa (-1) (f.bare.code 0) r=some (cc6 f r)∧(cc6 f r).length=R.toNat:=by
 obtain⟨l',_,h2,h3⟩:=aX3 (m:=0) (l:=fun _=>0) (s:=((r,0):FS)) (d:=0) (p:=0) (A:=[]) (B:=[]) (bi8 (cn5 (R:=R.toNat) (M:=65536) h.clen (by omega))) f.bare (by simp) rfl (Fo.bare_ok f h.ok) f.bare_pos h.hi h.good ⟨hr,by rw[Fo.bare_n];show 0+(f.n+0)≤_;have:=h.n;omega⟩;rw[Fo.bare_unroll]at h2 h3;refine⟨?_,h3.1⟩;unfold pa
 have:=aj7 h2 h.steps (c:=(cc6 f r,l' 0,l' 1,l' 2,l' 3,l' 4,l' 5,l' 6,l' 7)) (by
  unfold stF;simp only[gy];rw[zB (by rw[Fo.code_len];omega),zC]
  rfl)
 have e:stF 0 0 (fun _=>0) ((r,0):FS)=(0,0,0,r,0,0,0,0,0,0,0,0):=rfl;rw[e]at this;rw[this];rfl
def fill (R:Int)(r:List Int):List Int:=r++aB (R.toNat-r.length) 0
theorem pS {R:Int}{r:List Int}(h:r.length≤R.toNat):(fill R r).length=R.toNat:=by
 unfold fill;rw[List.length_append,aD];omega
theorem bX9 {R:Int}{r:List Int}(h:r.length≤R.toNat):au8 (aB R.toNat (0:Int)) 0 (aB R.toNat (0:Int)).length r=fill R r:=by
 unfold au8 fill;rw[aD,List.take_zero,List.nil_append,Nat.zero_add,Nat.min_eq_right h,List.take_of_length_le h,List.drop_replicate]
theorem bB2 (h:Prg R l f){r:List Int}(hr:r.length≤R.toNat):lH R l r=some (0,cc6 f (fill R r))∧(cc6 f (fill R r)).length=R.toNat:=by
 obtain⟨h1,h2⟩:=bs9 h (pS hr);refine⟨?_,h2⟩;have hR:=h.R1;unfold lH rS;rw[ai6 h];simp only[zG];rw[zA (show¬((0:Int)≠0)by simp),zD,zA (show¬(R<(r.length:Int))by omega),zD,zB (show 0≤R by omega),zB (show R≤R by omega),zB (show 8*R≤140737488355328 by omega),bX9 hr];show((gd true _).bind _)=_;rw[dN];simp only[zG];rw[zA (show¬((0:Int)≠0)by simp),zD,h1];rfl
def iX (f:Fo)(r a t:List Int):BS:=bwd (bQ0 t) f.unroll (r,a,f.n)
theorem bQ1 (h:Prg R l f){r a t:List Int}(hr:r.length=R.toNat)(ha:a.length=R.toNat)(ht:f.n≤t.length)(ht2:t.length≤1000000):
  kX (f.n:Int) r a t (f.bare.code 0)=some ((iX f r a t).1,(iX f r a t).2.1)∧(iX f r a t).1.length=R.toNat∧(iX f r a t).2.1.length=R.toNat:=by
 obtain⟨l',_,h2,h3⟩:=au7 (m:=0) (l:=fun _=>0) (s:=((r,a,f.n):BS)) (d:=0) (p:=0) (A:=[]) (B:=[]) (aR6 (cI5 (R:=R.toNat) (t:=t) h.clen ht2)) f.bare (by simp) rfl (Fo.bare_ok f h.ok) f.bare_pos h.hi h.good ⟨hr,ha,by rw[Fo.bare_n];exact Nat.le_refl _,ht⟩;rw[Fo.bare_unroll]at h2 h3;refine⟨?_,h3.1,h3.2.1⟩;unfold kX;have hl:=h.clen;rw[Fo.code_len]at hl
 have:=aj7 h2 h.steps (c:=((iX f r a t).1,(iX f r a t).2.1,l' 0,l' 1,l' 2,l' 3,l' 4,l' 5,l' 6,l' 7)) (by
  unfold stB;simp only[eZ];rw[zB (by omega),zC]
  rfl)
 have e:stB (0+f.bare.len) 0 (fun _=>0) ((r,a,f.n):BS)=(IntKind.i64.wrap (((f.bare.code 0).length:Int)-1),0,(f.n:Int),r,a,0,0,0,0,0,0,0,0):=by
  unfold stB;rw[Fo.code_len,ck (by omega),Nat.zero_add];rfl
 rw[e]at this;rw[this];rfl
theorem mL (h:Prg R l f){r a t:List Int}(hr:r.length=R.toNat)(ha:a.length=R.toNat)(ht:f.n≤t.length)(ht2:t.length≤1000000):
  kW R l r a t=some (0,(iX f r a t).1,(iX f r a t).2.1)∧(iX f r a t).1.length=R.toNat∧(iX f r a t).2.1.length=R.toNat:=by
 obtain⟨h1,h2,h3⟩:=bQ1 h hr ha ht ht2;refine⟨?_,h2,h3⟩;have hR:=h.R1;unfold kW;rw[ai6 h,h.writes];simp only[zG];rw[zA (show¬((0:Int)≠0)by simp),zD,zA (show¬((r.length:Int)≠R)by omega),zD,zA (show¬((a.length:Int)≠R)by omega),zD,zA (show¬((t.length:Int)<(f.n:Int))by omega),zD,h1];rfl
end
end
section
open List renaming length_take → aB, take_length → aD, length_append → aW, getElem?_drop → aX, getElem?_take → aY, getElem?_append_left → aZ, getElem?_append_right → bA, getElem_mem → bB, length_drop → bC
def seg (W:List Int)(o n:Nat):List Int:=(W.drop o).take n
def put (W:List Int)(o:Nat)(w:List Int):List Int:=W.take o++(w++W.drop (o+w.length))
theorem ay1 (W:List Int)(o n i:Nat):(seg W o n)[i]?=if i<n then W[o+i]? else none:=by
 unfold seg;rw[aY];split
 ·rw[aX]
 ·rfl
theorem bu4 {W:List Int}{o:Nat}{w:List Int}(h:o+w.length≤W.length)(i:Nat):(put W o w)[i]?=if o≤i∧i<o+w.length then w[i-o]? else W[i]?:=by
 unfold put;have hl:(W.take o).length=o:=by rw[aB];omega
 by_cases h1:i<o
 ·rw[aZ (by omega),aY,zE h1,zF (by omega)]
 ·rw[bA (by omega),hl];by_cases h2:i<o+w.length
  ·rw[aZ (by omega),zE ⟨by omega,h2⟩]
  ·rw[bA (by omega),aX,zF (by omega)]
   congr 1
   omega
theorem fh {W:List Int}{o n:Nat}(h:o+n≤W.length):(seg W o n).length=n:=by
 unfold seg;rw[aB,bC];omega
theorem cw7 {W:List Int}{o:Nat}{w:List Int}(h:o+w.length≤W.length):(put W o w).length=W.length:=by
 unfold put;rw[aW,aW,aB,bC];omega
theorem bO0 {W:List Int}{o:Nat}{w:List Int}{i:Nat}(h:o+w.length≤W.length)(hd:i<o∨o+w.length≤i):(put W o w)[i]?=W[i]?:=by
 rw[bu4 h,zF (by omega)]
theorem cg0 {W w:List Int}{o:Nat}(h:o+w.length≤W.length):au8 W o w.length w=put W o w:=by
 unfold au8 put;rw[aD,Nat.min_self]
theorem yi {W:List Int}{o n tk:Nat}(h:o+n≤tk)(ht:tk≤W.length)(hw:W.length≤1048576):eP (o:Int) (n:Int) (tk:Int) W=some (0,seg W o n):=by
 unfold eP;rw[zA (by omega),zD,zA (by omega),zD,zA (by omega),zD,ck (n:=(tk:Int)-o) (by omega),zA (by omega),zD,ck (n:=(o:Int)+n) (by omega),il (by omega),dN];unfold dg;rw[show((o:Int)+n).toNat-(o:Int).toNat=n by omega,show(o:Int).toNat=o by omega,dq (by rw[aB];omega) (by omega)];rfl
theorem bX2 {W:List Int}{o tk:Nat}(h:o<tk)(ht:tk≤W.length)(hw:W.length≤1048576):fM (o:Int) (tk:Int) W=some (rg W (o:Int),0):=by
 unfold fM;rw[zA (by omega),zD,zA (by omega),zD,ck (n:=(tk:Int)-o) (by omega),zA (by omega),zD,ck (n:=(o:Int)+1) (by omega),il (by omega),dN];unfold dg;rw[show((o:Int)+1).toNat-(o:Int).toNat=1 by omega,show(o:Int).toNat=o by omega,dq (by rw[aB];omega) (by omega)]
 have hs:(W.drop o).take 1=[rg W (o:Int)]:=by
  apply List.ext_getElem?;intro i;rw[aY,aX];rcases Nat.eq_zero_or_pos i with rfl|hi
  ·rw[zE (by omega),Nat.add_zero,hC (by omega)];rfl
  ·rw[zF (by omega),List.getElem?_eq_none (by simp;omega)]
 rw[hs];rfl
theorem oF {W w:List Int}{o tk:Nat}(h:o+w.length≤tk)(ht:tk≤W.length)(hw:W.length≤1048576):eg (o:Int) w (tk:Int) W=some (0,put W o w):=by
 unfold eg;rw[zA (by omega),zD,zA (by omega),zD,zA (by omega),zD,ck (n:=(tk:Int)-o) (by omega),zA (by omega),zD,ck (n:=(o:Int)+w.length) (by omega),il (by omega),dN,show((o:Int)+w.length).toNat-(o:Int).toNat=w.length by omega,show(o:Int).toNat=o by omega,cg0 (by omega)]
theorem mI {n lv pk bd:Int}(h:0≤n)(hl:0≤lv)(hb:lv+n≤bd)(hbd:bd≤1048576):dH n lv pk bd=some (0,lv+n,max pk (lv+n),bd):=by
 unfold dH kN iB;rw[zA (by omega),zD];simp only[zG];rw[ck (n:=bd-lv) (by omega),zB (by omega),ck (n:=lv+n) (by omega)];rfl
theorem qE {n lv pk bd:Int}(h:0≤n)(hl:n≤lv)(hp:lv≤pk)(hb:lv≤1048576):da n lv pk bd=some (0,lv-n,pk,bd):=by
 unfold da iB;rw[zA (by omega),zD,zA (by omega),zD];simp only[zG];rw[ck (n:=0-n) (by omega),ck (by omega),show lv+(0-n)=lv-n by omega,Int.max_eq_left (by omega)]
theorem bZ5 (ls:List (List Int))(h: ∀l∈ls,l.length≤100000):ls.flatten.length≤100000*ls.length:=by
 induction ls with
 |nil=>simp
 |cons a r ih=>
  have h1:=h a (by simp);have h2:=ih fun l hl=>h l (by simp[hl])
  rw[List.flatten_cons,aW,List.length_cons];omega
theorem bj1 {ls:List (List Int)}{i:Nat}(h:i<ls.length):(ls.take (i+1)).flatten=(ls.take i).flatten++ls[i]:=by
 rw[List.take_succ_eq_append_getElem h,List.flatten_append];simp
theorem cd4 (ls:List (List Int))(h: ∀l∈ls,l.length≤100000)(hl:ls.length≤1000)(i:Nat):(ls.take i).flatten.length≤100000000:=by
 have h1:=bZ5 (ls.take i) fun l hl=>h l (List.mem_of_mem_take hl)
 rw[aB]at h1;omega
theorem bf8 {ls:List (List Int)}(h: ∀l∈ls,l.length≤100000)(hl:ls.length≤1000):eM ls=some ls.flatten:=by
 have hlen:=cd4 ls h hl
 have k0:cv (ff ls) fi (0,0)=some (((ls.take ls.length).flatten.length:Nat):Int):=by
  refine hO (n:=ls.length) (fun i=>(((ls.take i).flatten.length:Nat):Int)) (by omega) (fun i hi=> ?_) ?_
  ·unfold ff;have h1:=hlen i;have h2:=h ls[i] (bB hi);simp only;rw[zB (show(i:Int)<(ls.length:Int)by omega),zC,eE hi];simp only[zG];rw[ck (n:=(((ls.take i).flatten.length:Nat):Int)+((ls[i].length:Nat):Int)) (by omega),zA (by omega),zD,ck (n:=(i:Int)+1) (by omega),bj1 hi,aW];rfl
  ·unfold ff;simp only;rw[zA (by omega),zD]
 have k1: ∀(f:Int×List Int→Option ((Int×List Int)⊕List Int)),(∀s,f s=cond (decide (s.1<((ls.length:Nat):Int))) ((rd ls s.1).bind fun x=>gd (fU (s.2.length+x.length) 8) (some (.inl (IntKind.i64.wrap (s.1+1),s.2++x)))) (some (.inr s.2)))→
   cv f fi (0,[])=some (ls.take ls.length).flatten:=by
  intro f hf;refine hO (n:=ls.length) (fun i=>(ls.take i).flatten) (by omega) (fun i hi=> ?_) ?_
  ·rw[hf];have h1:=hlen i;have h2:=h ls[i] (bB hi);rw[zB (show(i:Int)<(ls.length:Int)by omega),zC,eE hi];simp only[zG];rw[dq (by omega) (by omega),ck (n:=(i:Int)+1) (by omega),bj1 hi];rfl
  ·rw[hf];rw[zA (by omega),zD]
 unfold eM;rw[k0];rw[aD];simp only[zG];have h1:=hlen ls.length;rw[aD]at h1;rw[zA (by omega),zD,ck (n:=((ls.flatten.length:Nat):Int)-0) (by omega),cr];split
 ·rw[Int.sub_zero]
  have hz:jB 8 ((ls.flatten.length:Nat):Int)=true:=by
   generalize ls.flatten.length=N at h1⊢;unfold jB;rw[zB (by omega),zB (by omega),zB (by omega)];rfl
  rw[hz,dN,dq (by rw[List.length_replicate];omega) (by omega),il (by omega),dN,List.take_zero,k1 (jr ls) fun s=>rfl,aD];rfl
 ·rw[k1 (jt ls) fun s=>rfl,aD];rfl
end
section
open List renaming length_append → aB, length_replicate → aD, not_mem_nil → aW
structure Cx where
 mode:Int
 R:Int
 Q:Int
 len:Int
 words:Int
 X:List Int
 T:List Int
 l:List dR
 k:List dR
 fl:Fo
 fk:Fo
 fixed:Int
 tp:Int
 sl:Int
 ns:Int
namespace Cx
def sz (c:Cx):Nat→Nat
 |0=>c.T.length
 |1=>c.X.length
 |2=>c.R.toNat
 |3=>c.Q.toNat
 |4=>max c.R.toNat c.Q.toNat
 |5=>c.X.length
 |6=>c.T.length
 |7=>c.tp.toNat
 |8=>(c.sl*c.ns).toNat
 |_=>0
def off (c:Cx):Nat→Nat
 |0=>0
 |i+1=>c.off i+c.sz i
def P (c:Cx):List Int:=(List.range 10).map fun i=>(c.off i:Int)
def tk (c:Cx):Int:=(c.off 9:Int)
structure Ok (c:Cx):Prop where
 hl:OpsOk c.l
 hk:OpsOk c.k
 hc:wK c.mode c.X.length c.T.length c.R c.l c.Q c.k c.len c.words=0
 pl:Prg c.R c.l c.fl
 pk:Prg c.Q c.k c.fk
 fixed:c.fixed=rJ c.X.length c.T.length c.R c.Q
 tp:c.tp=pY c.mode c.l c.k
 sl:c.sl=pX c.mode c.X.length c.R c.l
 ns:0≤c.ns∧c.ns≤1048576
 fit:c.fixed+c.tp+c.sl*c.ns≤c.words
 base:c.mode=3→c.ns=c.len
end Cx
structure Num (c:Cx):Prop where
 mode:1≤c.mode∧c.mode≤3
 R:1≤c.R∧c.R≤64
 Q:1≤c.Q∧c.Q≤64
 x:1≤c.X.length∧c.X.length≤64
 t:c.T.length≤64
 xtR:(c.X.length:Int)+c.T.length+1≤c.R
 xtQ:(c.X.length:Int)+c.T.length≤c.Q
 len:0≤c.len∧c.len≤65535
 words:0≤c.words∧c.words≤1048576
 n:c.fl.n≤65536
 m:c.fk.n≤65536
 tp:c.tp=(if c.mode=3 then(c.fk.n:Int)else c.fl.n+c.fk.n)
 sl:c.sl=(if c.mode=3 then(c.fl.n:Int)+c.R else c.X.length+1)
 fixed:c.fixed=2*c.T.length+2*c.X.length+c.R+c.Q+max c.R c.Q
 mul:0≤c.sl*c.ns
theorem bg8 {m:Int}{x t:Nat}{R:Int}{l:List dR}{Q:Int}{k:List dR}{n b:Int}(h:wK m x t R l Q k n b=0):nr R l Q k=0∧vk R Q x t=0:=by
 unfold wK at h;split at h
 ·rename_i c;exact(c h).elim
 split at h
 ·rename_i c;exact(c h).elim
 split at h
 ·rename_i c;exact(c h).elim
 rename_i c1 c2 c3;exact⟨by omega,by omega⟩
theorem cb9 {R Q:Int}{l k:List dR}(h:nr R l Q k=0):yx R l=0∧yx Q k=0:=by
 unfold nr at h
 repeat' split at h
 all_goals first|(exact absurd h (by assumption))|skip
 unfold yx;constructor
 ·repeat' split
  all_goals first|(rename_i c;exact(by omega))|omega
 ·repeat' split
  all_goals first|(rename_i c;exact(by omega))|omega
theorem bY7 {R Q:Int}{x t:Nat}(hx:x≤64)(ht:t≤64)(h:vk R Q x t=0):(x:Int)+t+1≤R∧(x:Int)+t≤Q:=by
 unfold vk at h;rw[ck (n:=(x:Int)+t) (by omega),ck (n:=(x:Int)+t+1) (by omega)]at h
 repeat' split at h
 all_goals omega
theorem Cx.Ok.num {c:Cx}(h:c.Ok):Num c:=by
 have f:=aU3 h.hl h.hk h.hc;obtain⟨h1,h2⟩:=bg8 h.hc;obtain⟨h3,h4⟩:=bY7 f.xs.2 f.ts h2;have w1:=h.pl.w;have w2:=h.pk.w;have s:=bv2 h.hl h.hk h.hc;refine⟨f.mode,f.regs,f.regs',f.xs,f.ts,h3,h4,f.len,f.bud,h.pl.n,h.pk.n, ?_, ?_, ?_, ?_⟩
 ·rw[h.tp];unfold pY;rw[w1,w2]
 ·rw[h.sl];unfold pX;rw[w1]
 ·rw[h.fixed];unfold rJ;rfl
 ·rw[h.sl];exact(ck0 (by have:=s.sl;omega) h.ns).1
section
variable {c:Cx}
theorem cO4 :c.off 1=c.T.length:=Nat.zero_add _
theorem cO5 :c.off 2=c.T.length+c.X.length:=by show c.off 1+_=_;rw[cO4];rfl
theorem cO6 :c.off 3=c.T.length+c.X.length+c.R.toNat:=by show c.off 2+_=_;rw[cO5];rfl
theorem cO7 :c.off 4=c.T.length+c.X.length+c.R.toNat+c.Q.toNat:=by show c.off 3+_=_;rw[cO6];rfl
theorem cO8 :c.off 5=c.T.length+c.X.length+c.R.toNat+c.Q.toNat+max c.R.toNat c.Q.toNat:=by show c.off 4+_=_;rw[cO7];rfl
theorem cO9 :c.off 6=c.T.length+c.X.length+c.R.toNat+c.Q.toNat+max c.R.toNat c.Q.toNat+c.X.length:=by show c.off 5+_=_;rw[cO8];rfl
theorem cL0 :c.off 7=c.T.length+c.X.length+c.R.toNat+c.Q.toNat+max c.R.toNat c.Q.toNat+c.X.length+c.T.length:=by show c.off 6+_=_;rw[cO9];rfl
theorem cP0 :c.off 8=c.off 7+c.tp.toNat:=rfl
theorem bN2 :c.off 9=c.off 8+(c.sl*c.ns).toNat:=rfl
theorem cE6 {i j:Nat}(h:i≤j):c.off i≤c.off j:=by
 induction j with
 |zero=>rw[Nat.le_zero.1 h];exact Nat.le_refl _
 |succ j ih=>
  rcases Nat.lt_or_ge i (j+1)with h1|h1
  ·exact Nat.le_trans (ih (by omega)) (Nat.le_add_right _ _)
  ·rw[Nat.le_antisymm h h1];exact Nat.le_refl _
theorem lr {i j:Nat}(h:i<j):c.off i+c.sz i≤c.off j:=cE6 (c:=c) (i:=i+1) h
theorem Cx.Ok.off9_le (h:c.Ok):(c.off 9:Int)≤c.words:=by
 have n:=h.num;have g1:=n.R;have g2:=n.Q;have g3:=n.fixed;have g4:=n.tp;have g5:=n.mul;have g6:=h.fit;have htp:0≤c.tp:=by rw[g4];split<;>omega
 rw[bN2,cP0,cL0];omega
theorem Cx.P_get {i:Nat}(h:i<10):c.P[i]?=some (c.off i:Int):=by
 unfold Cx.P;rw[List.getElem?_map,List.getElem?_range h];rfl
theorem Cx.P_len :c.P.length=10:=by unfold Cx.P;simp
def Wd (c:Cx)(W:List Int):Prop:=W.length=c.words.toNat
theorem Wd.tk {W:List Int}(h:c.Ok)(hW:Wd c W):c.off 9≤W.length∧W.length≤1048576:=by
 have:=h.off9_le;have:=h.num.words;unfold Wd at hW;omega
theorem Wd.put {W w:List Int}{o:Nat}(h:c.Ok)(hW:Wd c W)(ho:o+w.length≤c.off 9):Wd c (put W o w):=by
 have:=hW.tk h;unfold Wd at hW⊢;rw[cw7 (by omega),hW]
theorem bZ9 {i:Nat}{ii a0 a1 a2 a3 a4 a5 a6 a7 a8 a9 a10 a11 a12 a13 a14 a15 a16:Int}{X T:List Int}{l k:List dR}{lv pk bd:Int}{W:List Int}(h:c.Ok)(hW:Wd c W)(hi:ii=(i:Int))(hi9:i<9):
  de ii a0 a1 a2 a3 a4 a5 a6 a7 a8 a9 a10 a11 a12 a13 a14 a15 a16 X T l k c.P c.tk lv pk bd W=some (seg W (c.off i) (c.sz i)):=by
 subst hi;have hk:=hW.tk h;have h9:=lr (c:=c) (i:=i) (j:=9) hi9;unfold de;rw[dp (show i<c.P.length by rw[Cx.P_len];omega)];simp only[zG];rw[Cx.P_get (show i<10 by omega)];simp only[zG];rw[ck (n:=(i:Int)+1) (by omega),show(i:Int)+1=((i+1:Nat):Int)by omega,dp (show i+1<c.P.length by rw[Cx.P_len];omega)];simp only[zG];rw[Cx.P_get (show i+1<10 by omega)];simp only[zG]
 have e:IntKind.i64.wrap ((c.off (i+1):Int)-(c.off i:Int))=(c.sz i:Int):=by
  have:c.off (i+1)=c.off i+c.sz i:=rfl;rw[ck (by omega)];omega
 rw[e];unfold Cx.tk;rw[yi h9 hk.1 hk.2];rfl
theorem aK9 {i:Nat}{ii a0 a1 a2 a3 a4 a5 a6 a7 a8 a9 a10 a11 a12 a13 a14 a15 a16:Int}{X T:List Int}{l k:List dR}{lv pk bd:Int}{W w:List Int}(h:c.Ok)(hW:Wd c W)(hi:ii=(i:Int))(hi9:i<9)(hw:w.length≤c.sz i):
  cq ii w a0 a1 a2 a3 a4 a5 a6 a7 a8 a9 a10 a11 a12 a13 a14 a15 a16 X T l k c.P c.tk lv pk bd W=some (put W (c.off i) w):=by
 subst hi;have hk:=hW.tk h;have h9:=lr (c:=c) (i:=i) (j:=9) hi9;unfold cq;rw[dp (show i<c.P.length by rw[Cx.P_len];omega)];simp only[zG];rw[Cx.P_get (show i<10 by omega)];simp only[zG];unfold Cx.tk;rw[oF (by omega) hk.1 hk.2];rfl
theorem bB5 {i:Nat}{ii a0 a1 a2 a3 a4 a5 a6 a7 a8 a9 a10 a11 a12 a13 a14 a15 a16:Int}{X T:List Int}{l k:List dR}{sb sn sx:Int}{lv pk bd:Int}{W:List Int}(h:c.Ok)(hW:Wd c W)(hi:ii=(i:Int))(hi9:i<9):
  cz ii a0 a1 a2 a3 a4 a5 a6 a7 a8 a9 a10 a11 a12 a13 a14 a15 a16 X T l k c.P c.tk sb sn sx lv pk bd W=some (seg W (c.off i) (c.sz i)):=by
 subst hi;have hk:=hW.tk h;have h9:=lr (c:=c) (i:=i) (j:=9) hi9;unfold cz;rw[dp (show i<c.P.length by rw[Cx.P_len];omega)];simp only[zG];rw[Cx.P_get (show i<10 by omega)];simp only[zG];rw[ck (n:=(i:Int)+1) (by omega),show(i:Int)+1=((i+1:Nat):Int)by omega,dp (show i+1<c.P.length by rw[Cx.P_len];omega)];simp only[zG];rw[Cx.P_get (show i+1<10 by omega)];simp only[zG]
 have e:IntKind.i64.wrap ((c.off (i+1):Int)-(c.off i:Int))=(c.sz i:Int):=by
  have:c.off (i+1)=c.off i+c.sz i:=rfl;rw[ck (by omega)];omega
 rw[e];unfold Cx.tk;rw[yi h9 hk.1 hk.2];rfl
theorem aC8 {i:Nat}{ii a0 a1 a2 a3 a4 a5 a6 a7 a8 a9 a10 a11 a12 a13 a14 a15 a16:Int}{X T:List Int}{l k:List dR}{sb sn sx:Int}{lv pk bd:Int}{W w:List Int}(h:c.Ok)(hW:Wd c W)(hi:ii=(i:Int))(hi9:i<9)(hw:w.length≤c.sz i):
  cn ii w a0 a1 a2 a3 a4 a5 a6 a7 a8 a9 a10 a11 a12 a13 a14 a15 a16 X T l k c.P c.tk sb sn sx lv pk bd W=some (put W (c.off i) w):=by
 subst hi;have hk:=hW.tk h;have h9:=lr (c:=c) (i:=i) (j:=9) hi9;unfold cn;rw[dp (show i<c.P.length by rw[Cx.P_len];omega)];simp only[zG];rw[Cx.P_get (show i<10 by omega)];simp only[zG];unfold Cx.tk;rw[oF (by omega) hk.1 hk.2];rfl
theorem aN2 {R:Int}{l:List dR}{a:List Int}(hR:1≤R∧R≤64)(ha:(a.length:Int)≤R):iG R l a=some (fill R a):=by
 unfold iG dg;rw[dq (by omega) (by omega)];simp only[zG];rw[ck (n:=R-(a.length:Int)) (by omega)]
 have hz:jB 8 (R-(a.length:Int))=true:=by
  unfold jB;rw[zB (by omega),zB (by omega),zB (by omega)];rfl
 rw[hz,dN,dq (by rw[aD];omega) (by omega),show(R-(a.length:Int)).toNat=R.toNat-a.length by omega];rfl
theorem cf4 {R:Int}{ops:List dR}{x more:List Int}{a0 a1 a2 a3 a4 a5 a6 a7 a8 a9 a10 a11 a12 a13 a14 a15 a16:Int}{X T:List Int}{l k:List dR}{lv pk bd:Int}{W:List Int}(h:c.Ok)(hW:Wd c W)(hR:1≤R∧R≤64)(hx:(x.length:Int)+c.T.length+more.length≤R):
  ge R ops x more a0 a1 a2 a3 a4 a5 a6 a7 a8 a9 a10 a11 a12 a13 a14 a15 a16 X T l k c.P c.tk lv pk bd W=some (fill R (x++(seg W 0 c.T.length++more))):=by
 have hk:=hW.tk h;have h1:=lr (c:=c) (i:=0) (j:=9) (by omega);have hs:(seg W 0 c.T.length).length=c.T.length:=fh (by have:c.off 0+c.sz 0=0+c.T.length:=rfl;omega);unfold ge;rw[bZ9 (ii:=0) (i:=0) h hW rfl (by omega)];simp only[zG];have hseg:seg W (c.off 0) (c.sz 0)=seg W 0 c.T.length:=rfl
 rw[hseg,bf8 (fun a ha=>by
  simp only[List.mem_cons,aW,or_false]at ha
  rcases ha with rfl|rfl|rfl<;>omega) (by simp)]
 simp only[zG];have e:[x,seg W 0 c.T.length,more].flatten=x++(seg W 0 c.T.length++more):=by simp
 have hl:(x++(seg W 0 c.T.length++more)).length=x.length+c.T.length+more.length:=by rw[aB,aB,hs];omega
 rw[e];generalize x++(seg W 0 c.T.length++more)=a at*;rw[ck (n:=R-(a.length:Int)) (by omega)]
 have hz:jB 8 (R-(a.length:Int))=true:=by
  unfold jB;rw[zB (by omega),zB (by omega),zB (by omega)];rfl
 rw[hz,dN,dq (by rw[aD];omega) (by omega),show(R-(a.length:Int)).toNat=R.toNat-a.length by omega];rfl
theorem bK4 {R:Int}{ops:List dR}{x more:List Int}{a0 a1 a2 a3 a4 a5 a6 a7 a8 a9 a10 a11 a12 a13 a14 a15 a16:Int}{X T:List Int}{l k:List dR}{sb sn sx:Int}{lv pk bd:Int}{W:List Int}(h:c.Ok)(hW:Wd c W)(hR:1≤R∧R≤64)(hx:(x.length:Int)+c.T.length+more.length≤R):
  fF R ops x more a0 a1 a2 a3 a4 a5 a6 a7 a8 a9 a10 a11 a12 a13 a14 a15 a16 X T l k c.P c.tk sb sn sx lv pk bd W=some (fill R (x++(seg W 0 c.T.length++more))):=by
 have hk:=hW.tk h;have h1:=lr (c:=c) (i:=0) (j:=9) (by omega);have hs:(seg W 0 c.T.length).length=c.T.length:=fh (by have:c.off 0+c.sz 0=0+c.T.length:=rfl;omega);unfold fF;rw[bB5 (ii:=0) (i:=0) h hW rfl (by omega)];simp only[zG];have hseg:seg W (c.off 0) (c.sz 0)=seg W 0 c.T.length:=rfl
 rw[hseg,bf8 (fun a ha=>by
  simp only[List.mem_cons,aW,or_false]at ha
  rcases ha with rfl|rfl|rfl<;>omega) (by simp)]
 simp only[zG];have e:[x,seg W 0 c.T.length,more].flatten=x++(seg W 0 c.T.length++more):=by simp
 have hl:(x++(seg W 0 c.T.length++more)).length=x.length+c.T.length+more.length:=by rw[aB,aB,hs];omega
 rw[e];generalize x++(seg W 0 c.T.length++more)=a at*;rw[ck (n:=R-(a.length:Int)) (by omega)]
 have hz:jB 8 (R-(a.length:Int))=true:=by
  unfold jB;rw[zB (by omega),zB (by omega),zB (by omega)];rfl
 rw[hz,dN,dq (by rw[aD];omega) (by omega),show(R-(a.length:Int)).toNat=R.toNat-a.length by omega];rfl
end
end
section
open Go.IntKind renaming wrap → zH, i64 → zI, u64 → zJ
open List renaming range → aW, replicate → aX, getElem?_eq_none → aY, length_append → aZ, length_take → bA, drop_zero → bB, ext_getElem? → bC
open Nat renaming le_refl → aB, le_of_eq → aD
theorem gdz {β:Type}{n:Int}{y:Option β}(h:0≤n∧n≤1048576):gd (Nat.beq 1 (Sh.w (.int .u64))&&decide (0≤n)&&decide (n≤n)&&decide ((8:Int)*n≤140737488355328)&&Nat.ble 1 8) y=y:=by
 rw[zB h.1,zB (Int.le_refl n),zB (by omega)];rfl
section
variable {c:Cx}
theorem Cx.Ok.of (h:c.Ok):gL c.mode c.X c.T c.R c.l c.Q c.k c.len c.words=some ((c.fl.n:Int),(c.fk.n:Int)):=by
 rw[bV0 h.hl h.hk,zF (fun k=>k h.hc),h.pl.w,h.pk.w]
def fQ (n:Nat):List Int:=aX n 0
def io (c:Cx)(W:List Int)(p:Int):TS:=af5 c.fl (fill c.R (seg W (c.off 1) c.X.length++(seg W 0 c.T.length++[zH zJ p]))) (fQ c.fl.n)
def lD (c:Cx)(W x:List Int):TS:=af5 c.fk (fill c.Q (x++(seg W 0 c.T.length++[]))) (fQ c.fk.n)
def bJ9 (x:Nat)(g a:List Int):List Int:=(aW g.length).map fun(i:Nat)=>IntKind.u64.wrap (rg g (i:Int)+rg a ((x+i:Nat):Int))
def ad7 (c:Cx)(W a:List Int):List Int:=
 put (put (put W (c.off 4) a) (c.off 5) (a.take c.X.length)) (c.off 6) (bJ9 c.X.length (seg (put (put W (c.off 4) a) (c.off 5) (a.take c.X.length)) (c.off 6) c.T.length) a)
theorem wD (x:Nat)(g a:List Int):(bJ9 x g a).length=g.length:=by unfold bJ9;simp
theorem Wd.in' {W:List Int}(h:c.Ok)(hW:Wd c W){i:Nat}(hi:i<9):c.off i+c.sz i≤W.length:=by
 have:=hW.tk h;have:=lr (c:=c) (i:=i) (j:=9) hi;omega
theorem au4 {X:List Int}{a g:List Int}{f:Int×List Int→Option ((Int×List Int)⊕List Int)}(hg:g.length≤64)(hX:X.length≤64)(ha:X.length+g.length≤a.length)(hf: ∀s,f s=cond (decide (s.1<(((g.length:Nat):Int))))
   ((ix s.1 (s.2.length)).bind fun j=>(s.2[j]?).bind fun y=>(ix (zH zI (((X.length:Nat):Int)+s.1)) a.length).bind fun j'=>(a[j']?).bind fun y'=>(ix s.1 (s.2.length)).bind fun j''=>(s.2[j'']?).bind fun y''=>some (.inl (zH zI (s.1+1),s.2.set j'' (zH zJ (y+y')))))
   (some (.inr s.2))):cv f fi (0,g)=some (bJ9 X.length g a):=by
 have hF: ∀i,((aW g.length).map fun(j:Nat)=>if j<i then zH zJ (rg g (j:Int)+rg a ((X.length+j:Nat):Int))else rg g (j:Int)).length=g.length:=fun i=>by simp
 have hget: ∀i j,j<g.length→((aW g.length).map fun(j:Nat)=>if j<i then zH zJ (rg g (j:Int)+rg a ((X.length+j:Nat):Int))else rg g (j:Int))[j]?=some (if j<i then zH zJ (rg g (j:Int)+rg a ((X.length+j:Nat):Int))else rg g (j:Int)):=fun i j hj=>by
  rw[List.getElem?_map,List.getElem?_range hj];rfl
 have e0:g=(aW g.length).map fun(j:Nat)=>if j<0 then zH zJ (rg g (j:Int)+rg a ((X.length+j:Nat):Int))else rg g (j:Int):=by
  apply bC;intro j;by_cases hj:j<g.length
  ·rw[hget 0 j hj,zF (by omega),hC hj]
  ·rw[aY (by omega),aY (by simp;omega)]
 have e1:bJ9 X.length g a=(aW g.length).map fun(j:Nat)=>if j<g.length then zH zJ (rg g (j:Int)+rg a ((X.length+j:Nat):Int))else rg g (j:Int):=by
  unfold bJ9;apply List.map_congr_left;intro j hj;rw[zE (List.mem_range.1 hj)]
 rw[e1];refine Eq.trans (congrArg (fun y=>cv f fi (0,y)) e0) ?_;refine hO (n:=g.length) (fun i=>(aW g.length).map fun(j:Nat)=>if j<i then zH zJ (rg g (j:Int)+rg a ((X.length+j:Nat):Int))else rg g (j:Int)) (by omega) (fun i hi=> ?_) ?_
 ·rw[hf];rw[zB (show(i:Int)<((g.length:Nat):Int)by omega),zC,dp (by rw[hF];exact hi)];simp only[zG];rw[hget i i hi];simp only[zG];rw[zF (Nat.lt_irrefl i),ck (n:=((X.length:Nat):Int)+(i:Int)) (by omega),show((X.length:Nat):Int)+(i:Int)=((X.length+i:Nat):Int)by omega,dp (show X.length+i<a.length by omega)];simp only[zG];rw[hC (show X.length+i<a.length by omega)];simp only[zG];rw[ck (n:=(i:Int)+1) (by omega)]
  congr 3
  apply bC;intro j;by_cases hj:j<g.length
  ·rw[hget (i+1) j hj];by_cases hij:i=j
   ·subst hij;rw[List.getElem?_set_self (by rw[hF];exact hi),zE (Nat.lt_succ_self i)]
   ·rw[List.getElem?_set_ne hij,hget i j hj]
    congr 1
    by_cases h3:j<i
    ·rw[zE h3,zE (by omega)]
    ·rw[zF h3,zF (by omega)]
  ·rw[aY (by simp;omega),aY (by simp;omega)]
 ·rw[hf];rw[zA (by omega),zD]
theorem dW (n:Nat):(fQ n).length=n:=List.length_replicate
theorem gG (h:c.Ok){W:List Int}(hW:Wd c W)(p:Int):(fill c.R (seg W (c.off 1) c.X.length++(seg W 0 c.T.length++[zH zJ p]))).length=c.R.toNat∧(io c W p).1.length=c.R.toNat∧(io c W p).2.1.length=c.fl.n:=by
 have n:=h.num;have h1:=hW.in' h (i:=1) (by omega);have h0:=hW.in' h (i:=0) (by omega);have l1:(seg W (c.off 1) c.X.length).length=c.X.length:=fh h1;have l0:(seg W 0 c.T.length).length=c.T.length:=fh h0
 have hf:(fill c.R (seg W (c.off 1) c.X.length++(seg W 0 c.T.length++[zH zJ p]))).length=c.R.toNat:=by
  apply pS;rw[aZ,aZ,l1,l0];have:=n.xtR;simp;omega
 obtain⟨_,h2,h3⟩:=oM h.pl hf (t:=fQ c.fl.n) (by rw[dW];exact aB _) (by rw[dW];have:=n.n;omega);rw[dW]at h3;exact⟨hf,h2,h3⟩
theorem vm (h:c.Ok){W x:List Int}(hW:Wd c W)(hx:x.length=c.X.length):(fill c.Q (x++(seg W 0 c.T.length++[]))).length=c.Q.toNat∧(lD c W x).1.length=c.Q.toNat∧(lD c W x).2.1.length=c.fk.n:=by
 have n:=h.num;have h0:=hW.in' h (i:=0) (by omega);have l0:(seg W 0 c.T.length).length=c.T.length:=fh h0
 have hf:(fill c.Q (x++(seg W 0 c.T.length++[]))).length=c.Q.toNat:=by
  apply pS;rw[aZ,aZ,l0,hx];have:=n.xtQ;simp;omega
 obtain⟨_,h2,h3⟩:=oM h.pk hf (t:=fQ c.fk.n) (by rw[dW];exact aB _) (by rw[dW];have:=n.m;omega);rw[dW]at h3;exact⟨hf,h2,h3⟩
theorem kC (h:c.Ok){W a:List Int}(hW:Wd c W)(ha:c.X.length+c.T.length≤a.length)(ha2:a.length≤max c.R.toNat c.Q.toNat):
  Wd c (put W (c.off 4) a)∧Wd c (put (put W (c.off 4) a) (c.off 5) (a.take c.X.length))∧Wd c (ad7 c W a):=by
 have h4:=lr (c:=c) (i:=4) (j:=9) (by omega);have h5:=lr (c:=c) (i:=5) (j:=9) (by omega);have h6:=lr (c:=c) (i:=6) (j:=9) (by omega);have s4:c.sz 4=max c.R.toNat c.Q.toNat:=rfl;have s5:c.sz 5=c.X.length:=rfl;have s6:c.sz 6=c.T.length:=rfl;have w1:=hW.put h (w:=a) (o:=c.off 4) (by omega);have w2:=w1.put h (w:=a.take c.X.length) (o:=c.off 5) (by rw[bA];omega);refine⟨w1,w2, ?_⟩;unfold ad7;refine w2.put h ?_;rw[wD,fh (n:=c.T.length) (w2.in' h (i:=6) (by omega))];omega
theorem cG3 (h:c.Ok){W:List Int}(hW:Wd c W){L p q c0 c1 c2 c3 z lv pk bd:Int}:
  gf c.fixed c.tp c.sl c.ns c.mode c.R c.Q c.len c.words L p q c0 c1 c2 c3 z c.X c.T c.l c.k c.P c.tk lv pk bd W=some (c.fixed,c.tp,c.sl,c.ns,c.mode,c.R,c.Q,c.len,c.words,L,p,q,c0,zH zI (c1+1),c2,c3,z,put W (c.off 2) (io c W p).1,(io c W p).1,(io c W p).2.1):=by
 have n:=h.num;obtain⟨f1,f2,f3⟩:=gG h hW p;have h1:=hW.in' h (i:=1) (by omega);have l1:(seg W (c.off 1) c.X.length).length=c.X.length:=fh h1;unfold gf;rw[h.of];simp only[zG];have gn:=n.n;rw[gdz (by omega),bZ9 (ii:=1) (i:=1) h hW rfl (by omega)];simp only[zG];rw[gdz (by omega),cf4 h hW n.R (by rw[show c.sz 1=c.X.length from rfl,l1];have:=n.xtR;simp;omega)];simp only[zG];rw[gdz (by omega),show c.sz 1=c.X.length from rfl,show aX ((c.fl.n:Int)).toNat (0:Int)=fQ c.fl.n from rfl];obtain⟨r1,r2,r3⟩:=oM h.pl f1 (t:=fQ c.fl.n) (by rw[dW];exact aB _) (by rw[dW];omega);rw[r1];simp only[zG];rw[aK9 (ii:=2) (i:=2) h hW rfl (by omega) (by rw[show c.sz 2=c.R.toNat from rfl];exact aD r2)];rfl
theorem co6 (h:c.Ok){W:List Int}(hW:Wd c W){L p q c0 c1 c2 c3 z sb sn sx lv pk bd:Int}:
  fG c.fixed c.tp c.sl c.ns c.mode c.R c.Q c.len c.words L p q c0 c1 c2 c3 z c.X c.T c.l c.k c.P c.tk sb sn sx lv pk bd W=some (c.fixed,c.tp,c.sl,c.ns,c.mode,c.R,c.Q,c.len,c.words,L,p,q,c0,zH zI (c1+1),c2,c3,z,put W (c.off 2) (io c W p).1,(io c W p).1,(io c W p).2.1):=by
 have n:=h.num;obtain⟨f1,f2,f3⟩:=gG h hW p;have h1:=hW.in' h (i:=1) (by omega);have l1:(seg W (c.off 1) c.X.length).length=c.X.length:=fh h1;unfold fG;rw[h.of];simp only[zG];have gn:=n.n;rw[gdz (by omega),bB5 (ii:=1) (i:=1) h hW rfl (by omega)];simp only[zG];rw[gdz (by omega),bK4 h hW n.R (by rw[show c.sz 1=c.X.length from rfl,l1];have:=n.xtR;simp;omega)];simp only[zG];rw[gdz (by omega),show c.sz 1=c.X.length from rfl,show aX ((c.fl.n:Int)).toNat (0:Int)=fQ c.fl.n from rfl];obtain⟨r1,r2,r3⟩:=oM h.pl f1 (t:=fQ c.fl.n) (by rw[dW];exact aB _) (by rw[dW];omega);rw[r1];simp only[zG];rw[aC8 (ii:=2) (i:=2) h hW rfl (by omega) (by rw[show c.sz 2=c.R.toNat from rfl];exact aD r2)];rfl
theorem cB9 (h:c.Ok){W r a t:List Int}(hW:Wd c W)(hr:r.length=c.Q.toNat)(ha:a.length=c.Q.toNat)(ht:t.length=c.fk.n){L p q c0 c1 c2 c3 z lv pk bd:Int}:
  jO c.Q c.fixed c.tp c.sl c.ns c.mode c.R c.Q c.len c.words L p q c0 c1 c2 c3 z c.k r a t c.X c.T c.l c.P c.tk lv pk bd W=some (c.fixed,c.tp,c.sl,c.ns,c.mode,c.R,c.Q,c.len,c.words,L,p,q,c0,c1,c2,zH zI (c3+1),z,(iX c.fk r a t).1,(iX c.fk r a t).2.1,ad7 c W (iX c.fk r a t).2.1):=by
 have n:=h.num;obtain⟨r1,r2,r3⟩:=mL h.pk hr ha (aD ht.symm) (by have:=n.n;have:=n.m;omega);have nR:=n.R;have nQ:=n.Q;have n1:=n.xtR;have n2:=n.xtQ;have nx:=n.x;have nt:=n.t;unfold jO;rw[r1];simp only[zG];generalize iX c.fk r a t=q1 at*;have b:=kC h (a:=q1.2.1) hW (by omega) (by omega);obtain⟨b1,b2,b3⟩:=b;rw[aK9 (ii:=4) (i:=4) h hW rfl (by omega) (by rw[show c.sz 4=max c.R.toNat c.Q.toNat from rfl];omega)];simp only[zG];rw[il (by omega),dN,show((c.X.length:Int)).toNat-0=c.X.length by omega,bB,aK9 (ii:=5) (i:=5) h b1 rfl (by omega) (by rw[bA,show c.sz 5=c.X.length from rfl];omega)];simp only[zG];rw[bZ9 (ii:=6) (i:=6) h b2 rfl (by omega)];simp only[zG];rw[show c.sz 6=c.T.length from rfl];have hg:(seg (put (put W (c.off 4) q1.2.1) (c.off 5) (q1.2.1.take c.X.length)) (c.off 6) c.T.length).length=c.T.length:=fh (b2.in' h (i:=6) (by omega));rw[au4 (f:=oT c.X (0,q1.1,q1.2.1) _) (X:=c.X) (a:=q1.2.1) (g:=seg (put (put W (c.off 4) q1.2.1) (c.off 5) (q1.2.1.take c.X.length)) (c.off 6) c.T.length) (by omega) (by omega) (by omega) (fun s=>rfl)]
 simp only[zG];rw[aK9 (ii:=6) (i:=6) h b2 rfl (by omega) (by rw[wD,hg];exact aB _)];rfl
theorem cC0 (h:c.Ok){W r a t:List Int}(hW:Wd c W)(hr:r.length=c.Q.toNat)(ha:a.length=c.Q.toNat)(ht:t.length=c.fk.n){L p q c0 c1 c2 c3 z sb sn sx lv pk bd:Int}:
  i4 c.Q c.fixed c.tp c.sl c.ns c.mode c.R c.Q c.len c.words L p q c0 c1 c2 c3 z c.k r a t c.X c.T c.l c.P c.tk sb sn sx lv pk bd W=some (c.fixed,c.tp,c.sl,c.ns,c.mode,c.R,c.Q,c.len,c.words,L,p,q,c0,c1,c2,zH zI (c3+1),z,(iX c.fk r a t).1,(iX c.fk r a t).2.1,ad7 c W (iX c.fk r a t).2.1):=by
 have n:=h.num;obtain⟨r1,r2,r3⟩:=mL h.pk hr ha (aD ht.symm) (by have:=n.n;have:=n.m;omega);have nR:=n.R;have nQ:=n.Q;have n1:=n.xtR;have n2:=n.xtQ;have nx:=n.x;have nt:=n.t;unfold i4;rw[r1];simp only[zG];generalize iX c.fk r a t=q1 at*;have b:=kC h (a:=q1.2.1) hW (by omega) (by omega);obtain⟨b1,b2,b3⟩:=b;rw[aC8 (ii:=4) (i:=4) h hW rfl (by omega) (by rw[show c.sz 4=max c.R.toNat c.Q.toNat from rfl];omega)];simp only[zG];rw[il (by omega),dN,show((c.X.length:Int)).toNat-0=c.X.length by omega,bB,aC8 (ii:=5) (i:=5) h b1 rfl (by omega) (by rw[bA,show c.sz 5=c.X.length from rfl];omega)];simp only[zG];rw[bB5 (ii:=6) (i:=6) h b2 rfl (by omega)];simp only[zG];rw[show c.sz 6=c.T.length from rfl];have hg:(seg (put (put W (c.off 4) q1.2.1) (c.off 5) (q1.2.1.take c.X.length)) (c.off 6) c.T.length).length=c.T.length:=fh (b2.in' h (i:=6) (by omega));rw[au4 (f:=nv c.X (0,q1.1,q1.2.1) _) (X:=c.X) (a:=q1.2.1) (g:=seg (put (put W (c.off 4) q1.2.1) (c.off 5) (q1.2.1.take c.X.length)) (c.off 6) c.T.length) (by omega) (by omega) (by omega) (fun s=>rfl)]
 simp only[zG];rw[aC8 (ii:=6) (i:=6) h b2 rfl (by omega) (by rw[wD,hg];exact aB _)];rfl
theorem cC1 (h:c.Ok){W r a t:List Int}(hW:Wd c W)(hr:r.length=c.R.toNat)(ha:a.length=c.R.toNat)(ht:t.length=c.fl.n){L p q c0 c1 c2 c3 z sb sn sx lv pk bd:Int}:
  i5 c.R c.fixed c.tp c.sl c.ns c.mode c.R c.Q c.len c.words L p q c0 c1 c2 c3 z c.l r a t c.X c.T c.k c.P c.tk sb sn sx lv pk bd W=some (c.fixed,c.tp,c.sl,c.ns,c.mode,c.R,c.Q,c.len,c.words,L,p,q,c0,c1,c2,zH zI (c3+1),z,(iX c.fl r a t).1,(iX c.fl r a t).2.1,ad7 c W (iX c.fl r a t).2.1):=by
 have n:=h.num;obtain⟨r1,r2,r3⟩:=mL h.pl hr ha (aD ht.symm) (by have:=n.n;have:=n.m;omega);have nR:=n.R;have nQ:=n.Q;have n1:=n.xtR;have n2:=n.xtQ;have nx:=n.x;have nt:=n.t;unfold i5;rw[r1];simp only[zG];generalize iX c.fl r a t=q1 at*;have b:=kC h (a:=q1.2.1) hW (by omega) (by omega);obtain⟨b1,b2,b3⟩:=b;rw[aC8 (ii:=4) (i:=4) h hW rfl (by omega) (by rw[show c.sz 4=max c.R.toNat c.Q.toNat from rfl];omega)];simp only[zG];rw[il (by omega),dN,show((c.X.length:Int)).toNat-0=c.X.length by omega,bB,aC8 (ii:=5) (i:=5) h b1 rfl (by omega) (by rw[bA,show c.sz 5=c.X.length from rfl];omega)];simp only[zG];rw[bB5 (ii:=6) (i:=6) h b2 rfl (by omega)];simp only[zG];rw[show c.sz 6=c.T.length from rfl];have hg:(seg (put (put W (c.off 4) q1.2.1) (c.off 5) (q1.2.1.take c.X.length)) (c.off 6) c.T.length).length=c.T.length:=fh (b2.in' h (i:=6) (by omega));rw[au4 (f:=ny c.X (0,q1.1,q1.2.1) _) (X:=c.X) (a:=q1.2.1) (g:=seg (put (put W (c.off 4) q1.2.1) (c.off 5) (q1.2.1.take c.X.length)) (c.off 6) c.T.length) (by omega) (by omega) (by omega) (fun s=>rfl)]
 simp only[zG];rw[aC8 (ii:=6) (i:=6) h b2 rfl (by omega) (by rw[wD,hg];exact aB _)];rfl
def bs2 (c:Cx)(W x:List Int):List Int:=ad7 c (put W (c.off 3) (lD c W x).1) (iX c.fk (lD c W x).1 (fill c.Q [1]) (lD c W x).2.1).2.1
theorem yn (h:c.Ok){W x:List Int}(hW:Wd c W)(hx:x.length=c.X.length):Wd c (put W (c.off 3) (lD c W x).1)∧Wd c (bs2 c W x):=by
 have n:=h.num;obtain⟨f1,f2,f3⟩:=vm h hW hx;have nR:=n.R;have nQ:=n.Q;have n2:=n.xtQ;have nx:=n.x;have nm:=n.m;have h3:=lr (c:=c) (i:=3) (j:=9) (by omega);have s3:c.sz 3=c.Q.toNat:=rfl;have w1:=hW.put h (w:=(lD c W x).1) (o:=c.off 3) (by omega);obtain⟨_,r2,r3⟩:=mL h.pk f2 (a:=fill c.Q [1]) (t:=(lD c W x).2.1) (pS (by simp;omega)) (aD f3.symm) (by omega);exact⟨w1,(kC h w1 (by omega) (by omega)).2.2⟩
theorem cN9 (h:c.Ok){W x:List Int}(hW:Wd c W)(hx:x.length=c.X.length){L p q c0 c1 c2 c3 z lv pk bd:Int}:
  iP x c.fixed c.tp c.sl c.ns c.mode c.R c.Q c.len c.words L p q c0 c1 c2 c3 z c.X c.T c.l c.k c.P c.tk lv pk bd W=some (c.fixed,c.tp,c.sl,c.ns,c.mode,c.R,c.Q,c.len,c.words,L,p,q,c0,c1,zH zI (c2+1),zH zI (c3+1),rg (lD c W x).1 0,bs2 c W x):=by
 have n:=h.num;obtain⟨f1,f2,f3⟩:=vm h hW hx;obtain⟨w1,w2⟩:=yn h hW hx;have nR:=n.R;have nQ:=n.Q;have n2:=n.xtQ;have nx:=n.x;have nm:=n.m;unfold iP;rw[h.of];simp only[zG];rw[gdz (by omega),cf4 h hW n.Q (by simp;omega)];simp only[zG];rw[gdz (by omega),show aX ((c.fk.n:Int)).toNat (0:Int)=fQ c.fk.n from rfl];obtain⟨r1,r2,r3⟩:=oM h.pk f1 (t:=fQ c.fk.n) (by rw[dW];exact aB _) (by rw[dW];omega);rw[r1];simp only[zG];have e:af5 c.fk (fill c.Q (x++(seg W 0 c.T.length++[]))) (fQ c.fk.n)=lD c W x:=rfl;rw[e];have i0:ix 0 (lD c W x).1.length=some 0:=dp (k:=0) (by omega);have g0:(lD c W x).1[0]?=some (rg (lD c W x).1 0):=hC (k:=0) (by omega);rw[i0];simp only[zG];rw[g0];simp only[zG];rw[aK9 (ii:=3) (i:=3) h hW rfl (by omega) (by rw[show c.sz 3=c.Q.toNat from rfl];exact aD f2)];simp only[zG];rw[aN2 n.Q (by simp;omega)]
 simp only[zG];rw[cB9 h w1 f2 (pS (by simp;omega)) f3];rfl
theorem cL5 (h:c.Ok){W:List Int}(hW:Wd c W){i0 L p q c0 c1 c2 c3 z lv pk bd:Int}(hl:0≤lv)(hp:lv≤pk)(hb:lv+c.fk.n≤bd)(hbd:bd≤1048576):
  iA i0 c.fixed c.tp c.sl c.ns c.mode c.R c.Q c.len c.words L p q c0 c1 c2 c3 z c.X c.T c.l c.k c.P c.tk lv pk bd W=some (c.fixed,c.tp,c.sl,c.ns,c.mode,c.R,c.Q,c.len,c.words,L,p,q,c0,c1,zH zI (c2+1),zH zI (c3+1),rg (lD c W (seg W (c.off 1) c.X.length)).1 0,lv,max pk (lv+c.fk.n),bd,bs2 c W (seg W (c.off 1) c.X.length)):=by
 have n:=h.num;have h1:=hW.in' h (i:=1) (by omega);have l1:(seg W (c.off 1) c.X.length).length=c.X.length:=fh h1;unfold iA;rw[h.of];simp only[zG];rw[mI (by omega) hl hb hbd];simp only[zG];rw[bZ9 (ii:=1) (i:=1) h hW rfl (by omega)];simp only[zG];rw[show c.sz 1=c.X.length from rfl,cN9 h hW l1];simp only[zG];rw[qE (by omega) (by omega) (by omega) (by omega)];simp only[zG];rw[show lv+(c.fk.n:Int)-c.fk.n=lv by omega]
theorem cJ2 (h:c.Ok){W x:List Int}(hW:Wd c W)(hx:x.length=c.X.length){L p q c0 c1 c2 c3 z sb sn sx lv pk bd:Int}:
  gW x c.fixed c.tp c.sl c.ns c.mode c.R c.Q c.len c.words L p q c0 c1 c2 c3 z c.X c.T c.l c.k c.P c.tk sb sn sx lv pk bd W=some (c.fixed,c.tp,c.sl,c.ns,c.mode,c.R,c.Q,c.len,c.words,L,p,q,c0,c1,zH zI (c2+1),zH zI (c3+1),rg (lD c W x).1 0,bs2 c W x):=by
 have n:=h.num;obtain⟨f1,f2,f3⟩:=vm h hW hx;obtain⟨w1,w2⟩:=yn h hW hx;have nR:=n.R;have nQ:=n.Q;have n2:=n.xtQ;have nx:=n.x;have nm:=n.m;unfold gW;rw[h.of];simp only[zG];rw[gdz (by omega),bK4 h hW n.Q (by simp;omega)];simp only[zG];rw[gdz (by omega),show aX ((c.fk.n:Int)).toNat (0:Int)=fQ c.fk.n from rfl];obtain⟨r1,r2,r3⟩:=oM h.pk f1 (t:=fQ c.fk.n) (by rw[dW];exact aB _) (by rw[dW];omega);rw[r1];simp only[zG];have e:af5 c.fk (fill c.Q (x++(seg W 0 c.T.length++[]))) (fQ c.fk.n)=lD c W x:=rfl;rw[e];have i0:ix 0 (lD c W x).1.length=some 0:=dp (k:=0) (by omega);have g0:(lD c W x).1[0]?=some (rg (lD c W x).1 0):=hC (k:=0) (by omega);rw[i0];simp only[zG];rw[g0];simp only[zG];rw[aC8 (ii:=3) (i:=3) h hW rfl (by omega) (by rw[show c.sz 3=c.Q.toNat from rfl];exact aD f2)];simp only[zG];rw[aN2 n.Q (by simp;omega)]
 simp only[zG];rw[cC0 h w1 f2 (pS (by simp;omega)) f3];rfl
theorem cL6 (h:c.Ok){W:List Int}(hW:Wd c W){i0 L p q c0 c1 c2 c3 z sb sn sx lv pk bd:Int}(hl:0≤lv)(hp:lv≤pk)(hb:lv+c.fk.n≤bd)(hbd:bd≤1048576):
  gI i0 c.fixed c.tp c.sl c.ns c.mode c.R c.Q c.len c.words L p q c0 c1 c2 c3 z c.X c.T c.l c.k c.P c.tk sb sn sx lv pk bd W=some (c.fixed,c.tp,c.sl,c.ns,c.mode,c.R,c.Q,c.len,c.words,L,p,q,c0,c1,zH zI (c2+1),zH zI (c3+1),rg (lD c W (seg W (c.off 1) c.X.length)).1 0,lv,max pk (lv+c.fk.n),bd,bs2 c W (seg W (c.off 1) c.X.length)):=by
 have n:=h.num;have h1:=hW.in' h (i:=1) (by omega);have l1:(seg W (c.off 1) c.X.length).length=c.X.length:=fh h1;unfold gI;rw[h.of];simp only[zG];rw[mI (by omega) hl hb hbd];simp only[zG];rw[bB5 (ii:=1) (i:=1) h hW rfl (by omega)];simp only[zG];rw[show c.sz 1=c.X.length from rfl,cJ2 h hW l1];simp only[zG];rw[qE (by omega) (by omega) (by omega) (by omega)];simp only[zG];rw[show lv+(c.fk.n:Int)-c.fk.n=lv by omega]
end
end
section
open Go.IntKind renaming wrap → zH, i64 → zI, u64 → zJ
open List renaming length_take → aB
open Nat renaming le_of_eq → aD
section
variable {c:Cx}
def bH8 (c:Cx)(W r t:List Int):List Int:=ad7 c W (iX c.fl r (fill c.R (seg W (c.off 5) c.X.length)) t).2.1
theorem ay5 (h:c.Ok){W r t:List Int}(hW:Wd c W)(hr:r.length=c.R.toNat)(ht:t.length=c.fl.n):(fill c.R (seg W (c.off 5) c.X.length)).length=c.R.toNat∧Wd c (bH8 c W r t):=by
 have n:=h.num;have nR:=n.R;have n1:=n.xtR;have nx:=n.x;have nn:=n.n;have h5:=hW.in' h (i:=5) (by omega);have l5:(seg W (c.off 5) c.X.length).length=c.X.length:=fh h5;have hf:(fill c.R (seg W (c.off 5) c.X.length)).length=c.R.toNat:=pS (by omega);obtain⟨_,r2,r3⟩:=mL h.pl hr hf (aD ht.symm) (by omega);exact⟨hf,(kC h hW (by omega) (by omega)).2.2⟩
theorem cB0 (h:c.Ok){W r t:List Int}(hW:Wd c W)(hr:r.length=c.R.toNat)(ht:t.length=c.fl.n){L p q c0 c1 c2 c3 z sb sn sx lv pk bd:Int}:
  gJ c.fixed c.tp c.sl c.ns c.mode c.R c.Q c.len c.words L p q c0 c1 c2 c3 z r t c.X c.T c.l c.k c.P c.tk sb sn sx lv pk bd W=some (c.fixed,c.tp,c.sl,c.ns,c.mode,c.R,c.Q,c.len,c.words,L,p,q,c0,c1,c2,zH zI (c3+1),z,(iX c.fl r (fill c.R (seg W (c.off 5) c.X.length)) t).1,bH8 c W r t):=by
 have n:=h.num;have nR:=n.R;have n1:=n.xtR;obtain⟨f1,f2⟩:=ay5 h hW hr ht;have h5:=hW.in' h (i:=5) (by omega);have l5:(seg W (c.off 5) c.X.length).length=c.X.length:=fh h5;unfold gJ;rw[bB5 (ii:=5) (i:=5) h hW rfl (by omega)];simp only[zG];rw[show c.sz 5=c.X.length from rfl,aN2 nR (by omega)];simp only[zG];rw[cC1 h hW hr f1 ht];rfl
def cx0 (c:Cx)(W:List Int)(p:Int):List Int:=bH8 c (put W (c.off 2) (io c W p).1) (io c W p).1 (io c W p).2.1
theorem tA (h:c.Ok){W:List Int}(hW:Wd c W)(p:Int):Wd c (put W (c.off 2) (io c W p).1):=by
 obtain⟨_,f2,_⟩:=gG h hW p;have h2:=lr (c:=c) (i:=2) (j:=9) (by omega);have s2:c.sz 2=c.R.toNat:=rfl;exact hW.put h (by omega)
theorem cP2 (h:c.Ok){W:List Int}(hW:Wd c W){i0 L p q c0 c1 c2 c3 z sb sn sx lv pk bd:Int}(hl:0≤lv)(hp:lv≤pk)(hb:lv+c.fl.n≤bd)(hbd:bd≤1048576):
  gQ i0 c.fixed c.tp c.sl c.ns c.mode c.R c.Q c.len c.words L p q c0 c1 c2 c3 z c.X c.T c.l c.k c.P c.tk sb sn sx lv pk bd W=some (c.fixed,c.tp,c.sl,c.ns,c.mode,c.R,c.Q,c.len,c.words,L,p,q,c0,zH zI (c1+1),c2,zH zI (c3+1),z,lv,max pk (lv+c.fl.n),bd,cx0 c W p):=by
 obtain⟨f1,f2,f3⟩:=gG h hW p;unfold gQ;rw[h.of];simp only[zG];rw[mI (by omega) hl hb hbd];simp only[zG];rw[co6 h hW];simp only[zG];rw[cB0 h (tA h hW p) f2 f3];simp only[zG];rw[qE (by omega) (by omega) (by omega) (by omega)];simp only[zG];rw[show lv+(c.fl.n:Int)-c.fl.n=lv by omega];rfl
def bR3 (c:Cx)(W:List Int)(p:Int):List Int:=bH8 c (bs2 c (put W (c.off 2) (io c W p).1) ((io c W p).1.take c.X.length)) (io c W p).1 (io c W p).2.1
theorem cI7 (h:c.Ok){W:List Int}(hW:Wd c W){i0 L p q c0 c1 c2 c3 z sb sn sx lv pk bd:Int}(hl:0≤lv)(hp:lv≤pk)(hb:lv+(c.fl.n+c.fk.n)≤bd)(hbd:bd≤1048576):
  i6 i0 c.fixed c.tp c.sl c.ns c.mode c.R c.Q c.len c.words L p q c0 c1 c2 c3 z c.X c.T c.l c.k c.P c.tk sb sn sx lv pk bd W=some (c.fixed,c.tp,c.sl,c.ns,c.mode,c.R,c.Q,c.len,c.words,L,p,q,c0,zH zI (c1+1),zH zI (c2+1),zH zI (zH zI (c3+1)+1),rg (lD c (put W (c.off 2) (io c W p).1) ((io c W p).1.take c.X.length)).1 0,lv,max pk (lv+(c.fl.n+c.fk.n)),bd,bR3 c W p):=by
 have n:=h.num;have nR:=n.R;have n1:=n.xtR;have nn:=n.n;have nm:=n.m;obtain⟨f1,f2,f3⟩:=gG h hW p;have w1:=tA h hW p;have hx:((io c W p).1.take c.X.length).length=c.X.length:=by rw[aB];omega
 unfold i6;rw[h.of];simp only[zG];rw[ck (n:=(c.fl.n:Int)+(c.fk.n:Int)) (by omega),mI (by omega) hl hb hbd];simp only[zG];rw[co6 h hW];simp only[zG];rw[il (by omega),dN,show((c.X.length:Int)).toNat-0=c.X.length by omega,List.drop_zero,cJ2 h w1 hx];simp only[zG];rw[cB0 h (yn h w1 hx).2 f2 f3];simp only[zG];rw[qE (by omega) (by omega) (by omega) (by omega)];simp only[zG];rw[show lv+((c.fl.n:Int)+c.fk.n)-(c.fl.n+c.fk.n)=lv by omega];rfl
def bi9 (c:Cx)(W:List Int)(p:Int):List Int:=cc6 c.fl (fill c.R (seg W (c.off 1) c.X.length++(seg W 0 c.T.length++[zH zJ p])))
def cB7 (c:Cx)(W:List Int)(p:Int):List Int:=put (put W (c.off 2) (bi9 c W p)) (c.off 1) ((bi9 c W p).take c.X.length)
def bd6 (c:Cx)(W:List Int)(p:Int):Nat→List Int
 |0=>W
 |i+1=>cB7 c (bd6 c W p i) (p+i)
theorem bZ3 {R:Int}{r:List Int}(h:r.length=R.toNat):fill R r=r:=by
 unfold fill;rw[h,Nat.sub_self];simp
theorem ag4 (h:c.Ok){W:List Int}(hW:Wd c W)(p:Int):lH c.R c.l (fill c.R (seg W (c.off 1) c.X.length++(seg W 0 c.T.length++[zH zJ p])))=some (0,bi9 c W p)∧(bi9 c W p).length=c.R.toNat:=by
 obtain⟨f1,_,_⟩:=gG h hW p;have:=bB2 h.pl (r:=fill c.R (seg W (c.off 1) c.X.length++(seg W 0 c.T.length++[zH zJ p]))) (aD f1);rw[bZ3 f1]at this;exact this
theorem bq1 (h:c.Ok){W:List Int}(hW:Wd c W)(p:Int):Wd c (put W (c.off 2) (bi9 c W p))∧Wd c (cB7 c W p):=by
 have n:=h.num;have nR:=n.R;have n1:=n.xtR;obtain⟨_,f2⟩:=ag4 h hW p;have h1:=lr (c:=c) (i:=1) (j:=9) (by omega);have h2:=lr (c:=c) (i:=2) (j:=9) (by omega);have s1:c.sz 1=c.X.length:=rfl;have s2:c.sz 2=c.R.toNat:=rfl;have w1:=hW.put h (w:=bi9 c W p) (o:=c.off 2) (by omega);exact⟨w1,w1.put h (by rw[aB];omega)⟩
theorem aL2 (h:c.Ok){W:List Int}(hW:Wd c W)(p:Int): ∀i,Wd c (bd6 c W p i)
 |0=>hW
 |i+1=>(bq1 h (aL2 h hW p i) _).2
theorem ce4 (h:c.Ok){W:List Int}(hW:Wd c W){m:Nat}{L p q c0 c1 c2 c3 z sb sn sx lv pk bd:Int}(hm:m≤65536)(hp:0≤p∧p≤65536)(hc:0≤c0∧c0≤4611686018427387904):
  gO (m:Int) c.fixed c.tp c.sl c.ns c.mode c.R c.Q c.len c.words L p q c0 c1 c2 c3 z c.X c.T c.l c.k c.P c.tk sb sn sx lv pk bd W=some (c.fixed,c.tp,c.sl,c.ns,c.mode,c.R,c.Q,c.len,c.words,L,p,q,c0+m,c1,c2,c3,z,bd6 c W p m):=by
 have n:=h.num;have nR:=n.R;have n1:=n.xtR;have nx:=n.x;unfold gO
 have key:cv (gu (m:Int) c.X c.T c.l c.k c.P c.tk sb sn sx lv pk bd) fi (0,c.fixed,c.tp,c.sl,c.ns,c.mode,c.R,c.Q,c.len,c.words,L,p,q,c0+((0:Nat):Int),c1,c2,c3,z,bd6 c W p 0)=some (c.fixed,c.tp,c.sl,c.ns,c.mode,c.R,c.Q,c.len,c.words,L,p,q,c0+m,c1,c2,c3,z,bd6 c W p m):=by
  refine hO (n:=m) (fun i=>(c.fixed,c.tp,c.sl,c.ns,c.mode,c.R,c.Q,c.len,c.words,L,p,q,c0+(i:Int),c1,c2,c3,z,bd6 c W p i)) (by omega) (fun i hi=> ?_) ?_
  ·have hWi:=aL2 h hW p i;obtain⟨g1,g2⟩:=ag4 h hWi (p+i);obtain⟨w1,w2⟩:=bq1 h hWi (p+i);have l1:(seg (bd6 c W p i) (c.off 1) c.X.length).length=c.X.length:=fh (hWi.in' h (i:=1) (by omega));simp only[gu];rw[zB (show(i:Int)<(m:Int)by omega),zC,bB5 (ii:=1) (i:=1) h hWi rfl (by omega)];simp only[zG];rw[show c.sz 1=c.X.length from rfl,ck (n:=p+(i:Int)) (by omega),bK4 h hWi nR (by rw[l1];simp;omega)];simp only[zG];rw[g1];simp only[zG];rw[aC8 (ii:=2) (i:=2) h hWi rfl (by omega) (by rw[show c.sz 2=c.R.toNat from rfl];exact aD g2)];simp only[zG];rw[il (by omega),dN,show((c.X.length:Int)).toNat-0=c.X.length by omega,List.drop_zero,aC8 (ii:=1) (i:=1) h w1 rfl (by omega) (by rw[aB,show c.sz 1=c.X.length from rfl];omega)];simp only[zG];rw[ck (n:=(i:Int)+1) (by omega),ck (n:=c0+(i:Int)+1) (by omega),show c0+(i:Int)+1=c0+((i+1:Nat):Int)by omega]
   rfl
  ·simp only[gu];rw[zA (by omega),zD]
 rw[show c0+((0:Nat):Int)=c0 by omega,show bd6 c W p 0=W from rfl]at key;rw[key];rfl
end
end
section
open List renaming range → aB
def iI (a n:Int):Bool:=if a<1 then false else if 9<a then false else if a=1 then decide (1≤n∧n<65536)else if a≤4 then decide (0≤n∧n<1048576)else decide (n=0)
theorem bp9 (a n:Int):oO a n=some (iI a n):=by
 unfold oO iI oP;by_cases h1:a<1
 ·rw[zB h1,zE h1];rfl
 rw[zA h1,zF h1];by_cases h2:9<a
 ·rw[zB h2,zE h2];rfl
 rw[zA h2,zF h2];show cond (decide (a=1)) _ _=_;by_cases h3:a=1
 ·rw[zB h3,zE h3];by_cases h4:1≤n
  ·rw[zB h4];simp[h4]
  ·rw[zA h4];simp[h4]
 rw[zA h3,zF h3,zB (show 1≤a by omega)];by_cases h4:a≤4
 ·rw[zB h4,zE h4];by_cases h5:0≤n
  ·rw[zB h5];simp[h5]
  ·rw[zA h5];simp[h5]
 ·rw[zA h4,zF h4];rfl
section
variable {c:Cx}
def sp (c:Cx)(k:Nat):Nat:=c.off 8+k*(c.X.length+1)
def hY (c:Cx)(W:List Int)(k:Nat):Int:=rg W (sp c k:Int)
def kt (c:Cx)(W:List Int):List Int:=(aB c.ns.toNat).map fun(k:Nat)=>hY c W k-1
structure Dy where
 L:Int
 p:Int
 q:Int
 c0:Int
 c1:Int
 c2:Int
 c3:Int
 z:Int
 lv:Int
 pk:Int
 W:List Int
def jA (c:Cx)(W:List Int):Nat:=(aB c.ns.toNat).countP fun(k:Nat)=>decide (0<hY c W k)
structure Inv (c:Cx)(s:Dy):Prop where
 w:Wd c s.W
 L:0≤s.L∧s.L≤65535
 p:0≤s.p∧s.p≤s.L
 q: -1≤s.q∧s.q≤s.L
 tag: ∀k,k<c.ns.toNat→0≤hY c s.W k∧hY c s.W k≤s.L+1
 lv:s.lv=c.fixed+c.sl*jA c s.W
 pk:s.lv≤s.pk∧s.pk≤c.words
theorem uw (h:c.Ok)(hm:c.mode≠3){k:Nat}(hk:k<c.ns.toNat):sp c k+(c.X.length+1)≤c.off 9∧c.ns.toNat*(c.X.length+1)+c.off 8=c.off 9∧c.ns.toNat≤524288:=by
 have n:=h.num;have hsl:=n.sl;rw[zF hm]at hsl;have hns:=h.ns
 have e:(c.sl*c.ns).toNat=c.ns.toNat*(c.X.length+1):=by
  have:c.sl*c.ns=((c.ns.toNat*(c.X.length+1):Nat):Int):=by
   rw[Int.natCast_mul,hsl,Int.toNat_of_nonneg hns.1,Int.mul_comm]
   congr 1
  rw[this];rfl
 have h9:c.off 9=c.off 8+c.ns.toNat*(c.X.length+1):=by rw[bN2,e]
 have h1:(k+1)*(c.X.length+1)≤c.ns.toNat*(c.X.length+1):=Nat.mul_le_mul_right _ hk;rw[Nat.succ_mul]at h1;have h2:=h.off9_le;have h3:=n.words;have h4:c.ns.toNat*2≤c.ns.toNat*(c.X.length+1):=Nat.mul_le_mul_left _ (by have:=n.x;omega);unfold sp;omega
theorem yw (h:c.Ok)(hm:c.mode≠3){k:Nat}(hk:k<c.ns.toNat):eA (c.off 8:Int) c.ns (c.X.length:Int) (k:Int)=some (sp c k:Int):=by
 obtain⟨h1,h2,h3⟩:=uw h hm hk;have h4:=h.off9_le;have h5:=h.num.words;have h6:=h.num.x;unfold sp at h1;unfold eA fy;simp only[zG];have e:(k:Int)*((c.X.length:Int)+1)=((k*(c.X.length+1):Nat):Int):=by rw[Int.natCast_mul];congr 1
 rw[ck (n:=(c.X.length:Int)+1) (by omega),e,ck (n:=((k*(c.X.length+1):Nat):Int)) (by omega),ck (by omega)];unfold sp
 congr 1
theorem aN0 (h:c.Ok)(hm:c.mode≠3){W:List Int}(hW:Wd c W){k:Nat}(hk:k<c.ns.toNat):fM (sp c k:Int) c.tk W=some (hY c W k,0):=by
 obtain⟨h1,_,_⟩:=uw h hm hk;obtain⟨h2,h3⟩:=hW.tk h;exact bX2 (by omega) h2 h3
theorem bW0 (h:c.Ok)(hm:c.mode≠3){W:List Int}(hW:Wd c W)(ht: ∀k,k<c.ns.toNat→0≤hY c W k∧hY c W k≤65536):ju (c.off 8:Int) c.ns (c.X.length:Int) c.tk W=some (kt c W):=by
 unfold ju;have hns:=h.ns
 have key:cv (gl (c.off 8:Int) c.ns (c.X.length:Int) c.tk W) fi (0,(aB 0).map fun(k:Nat)=>hY c W k-1)=some (kt c W):=by
  refine hO (n:=c.ns.toNat) (fun i=>(aB i).map fun(k:Nat)=>hY c W k-1) (by omega) (fun i hi=> ?_) ?_
  ·have hti:=ht i hi;unfold gl;simp only;rw[zB (by omega),zC,yw h hm hi];simp only[zG];rw[aN0 h hm hW hi];simp only[zG];rw[dq (by simp;omega) (by omega),ck (n:=(i:Int)+1) (by omega),ck (n:=hY c W i) (by omega),ck (n:=hY c W i-1) (by omega),List.range_succ,List.map_append];rfl
  ·unfold gl;simp only;rw[zA (by omega),zD];rfl
 have key:cv (gl (c.off 8:Int) c.ns (c.X.length:Int) c.tk W) fi (0,[])=_:=key;rw[key];rfl
theorem ag6 {W:List Int}{k:Nat}(hk:k<c.ns.toNat):(kt c W)[k]?=some (hY c W k-1):=by
 unfold kt;rw[List.getElem?_map,List.getElem?_range hk];rfl
theorem lE {W:List Int}:(kt c W).length=c.ns.toNat:=by unfold kt;simp
theorem be1 {l:List Int}{L:Int}(hl:l.length<1000000)(h: ∀t∈l,-1≤t∧t≤L):fp l L=some false:=by
 unfold fp iu
 have key:cv (fq l L) fi 0=some (.inr ()):=by
  refine oI (n:=l.length) (by omega) (fun i hi=> ?_) ?_
  ·have:=h l[i] (List.getElem_mem hi);unfold fq jS;rw[zB (by omega),zC,eE hi];simp only[zG];rw[zA (by omega),zD];simp only[zG];rw[zA (by omega),zD,ck (by omega)];rfl
  ·unfold fq;rw[zA (by omega),zD]
 rw[key];rfl
theorem aq6 {L p q:Int}{l:List Int}(hL:0≤L∧L≤65535)(hp:0≤p∧p≤L)(hq: -1≤q∧q≤L)(hl:l.length<1000000)(h: ∀t∈l,-1≤t∧t≤L):kJ L p q l=some (.inr (p,q,L,l)):=by
 unfold kJ tD jS;rw[zB (show 0≤L by omega),zB (show L<65536 by omega)];simp only[zC,zG,Bool.not_true,zD];rw[zA (show¬(1048576<(l.length:Int))by omega),zA (show¬p= -1 by omega),zA (show¬p< -1 by omega),zA (show¬L<p by omega),zA (show¬q< -1 by omega),zA (show¬L<q by omega)];simp only[zD,zG];rw[be1 hl h];simp only[zG,zD];unfold gB;rw[dq (by omega) (by omega)];rfl
end
end
section
open Bool renaming not_true → aB
open Int renaming mul_le_mul_of_nonneg_left → aD
open List renaming countP_le_length → aW
section
variable {c:Cx}
def doF (c:Cx)(a n:Int)(s:Dy):Int×Dy:=
 if iI a n=false∨7<a then(2,s)
 else if(2≤a∧a≤4)∧c.ns≤n then(2,s)
 else if a=1 then(if s.L-s.p<n then(17,s)else(0,{s with p:=s.p+n,c0:=s.c0+n,W:=bd6 c s.W s.p n.toNat}))
 else if a=2 then(if 0≤hY c s.W n.toNat-1 then(15,s)else(0,{s with lv:=s.lv+c.sl,pk:=max s.pk (s.lv+c.sl),W:=put s.W (sp c n.toNat) (IntKind.u64.wrap (IntKind.i64.wrap (s.p+1))::seg s.W (c.off 1) c.X.length)}))
 else if a=3 then(if hY c s.W n.toNat-1<0 then(16,s)else(0,{s with p:=hY c s.W n.toNat-1,W:=put s.W (c.off 1) (seg s.W (sp c n.toNat+1) c.X.length)}))
 else if a=4 then(if hY c s.W n.toNat-1<0 then(16,s)else(0,{s with lv:=s.lv-c.sl,W:=put s.W (sp c n.toNat) (fQ (c.X.length+1))}))
 else if a=5 then(if s.q≠ -1 then(18,s)else if s.p≠s.L then(17,s)else(0,{s with q:=s.p,c2:=s.c2+1,c3:=s.c3+1,z:=rg (lD c s.W (seg s.W (c.off 1) c.X.length)).1 0,pk:=max s.pk (s.lv+c.fk.n),W:=bs2 c s.W (seg s.W (c.off 1) c.X.length)}))
 else if a=6 then(if s.q≠ -1 then(18,s)else if s.p≠s.L-1 then(17,s)else(0,{s with q:=s.p,c1:=s.c1+1,c2:=s.c2+1,c3:=s.c3+1+1,z:=rg (lD c (put s.W (c.off 2) (io c s.W s.p).1) ((io c s.W s.p).1.take c.X.length)).1 0,pk:=max s.pk (s.lv+(c.fl.n+c.fk.n)),W:=bR3 c s.W s.p}))
 else(if s.q≤0 then(18,s)else if s.p≠s.q-1 then(17,s)else(0,{s with q:=s.p,c1:=s.c1+1,c3:=s.c3+1,pk:=max s.pk (s.lv+c.fl.n),W:=cx0 c s.W s.p}))
def cJ1 (c:Cx)(r:Int×Dy):Int×Int×Int×Int×Int×Int×Int×Int×Int×Int×Int×Int×Int×Int×Int×Int×Int×Int×Int×Int×Int×List Int:=
 (r.1,c.fixed,c.tp,c.sl,c.ns,c.mode,c.R,c.Q,c.len,c.words,r.2.L,r.2.p,r.2.q,r.2.c0,r.2.c1,r.2.c2,r.2.c3,r.2.z,r.2.lv,r.2.pk,c.words,r.2.W)
def Cnt (B:Int)(s:Dy):Prop:=(0≤s.c0∧s.c0≤B)∧(0≤s.c1∧s.c1≤B)∧(0≤s.c2∧s.c2≤B)∧(0≤s.c3∧s.c3≤B)
theorem cz1 (c:Cx)(W:List Int):jA c W≤c.ns.toNat:=by
 unfold jA;exact Nat.le_trans aW (by simp)
theorem aM0 (h:c.Ok){s:Dy}(hi:Inv c s):0≤s.lv∧s.lv+c.tp≤c.words∧c.words≤1048576∧0≤c.tp:=by
 have n:=h.num;have h1:=hi.lv;have h2:=cz1 c s.W;have h3:=h.fit;have h4:=n.fixed;have h5:=h.ns;have h6:=n.sl;have h7:1≤c.sl:=by rw[h6];have:=n.R;split<;>omega
 have h8:c.sl*(jA c s.W:Int)≤c.sl*c.ns:=aD (by omega) (by omega);have h9:0≤c.sl*(jA c s.W:Int):=Int.mul_nonneg (by omega) (by omega);have h10:0≤c.tp:=by rw[n.tp];split<;>omega
 have:=n.R;have:=n.Q;have:=n.words;refine⟨by omega,by omega,by omega,h10⟩
theorem bh5 (h:c.Ok){s:Dy}(hi:Inv c s)(hu:jA c s.W<c.ns.toNat):s.lv+c.sl≤c.words:=by
 have n:=h.num;have h1:=hi.lv;have h3:=h.fit;have h5:=h.ns;have h6:=n.sl;have h7:1≤c.sl:=by rw[h6];have:=n.R;split<;>omega
 have h8:c.sl*((jA c s.W:Int)+1)≤c.sl*c.ns:=aD (by omega) (by omega);have h10:0≤c.tp:=by rw[n.tp];split<;>omega
 rw[Int.mul_add,Int.mul_one]at h8;omega
theorem bY2 {l:List Nat}{P:Nat→Bool}{k:Nat}(hk:k∈l)(hP:P k=false):l.countP P<l.length:=by
 rcases Nat.lt_or_ge (l.countP P) l.length with h|h
 ·exact h
 ·have:=List.countP_eq_length.1 (Nat.le_antisymm aW h) k hk;rw[hP]at this;cases this
theorem bg6 {W:List Int}{k:Nat}(hk:k<c.ns.toNat)(ht:hY c W k≤0):jA c W<c.ns.toNat:=by
 have:=bY2 (l:=List.range c.ns.toNat) (P:=fun(k:Nat)=>decide (0<hY c W k)) (k:=k) (List.mem_range.2 hk) (zA (by omega));rw[List.length_range]at this;exact this
theorem bM4 {k:Nat}{sb sx:Int}(hk:k<c.ns.toNat):ij sb c.ns sx (k:Int)=some true:=by
 unfold ij;rw[zB (by omega),zC,zB (by omega)]
theorem cG2 (h:c.Ok)(hm:c.mode≠3){s:Dy}(hi:Inv c s){k:Nat}(hk:k<c.ns.toNat)(ht:hY c s.W k≤0):
  iF (k:Int) c.fixed c.tp c.sl c.ns c.mode c.R c.Q c.len c.words s.L s.p s.q s.c0 s.c1 s.c2 s.c3 s.z c.X c.T c.l c.k c.P c.tk (c.off 8:Int) c.ns (c.X.length:Int) s.lv s.pk c.words s.W=some (s.lv+c.sl,max s.pk (s.lv+c.sl),c.words,put s.W (sp c k) (IntKind.u64.wrap (IntKind.i64.wrap (s.p+1))::seg s.W (c.off 1) c.X.length)):=by
 have n:=h.num;have hW:=hi.w;obtain⟨g1,g2,g3⟩:=aM0 h hi;have g4:=bh5 h hi (bg6 hk ht);have hsl:=n.sl;rw[zF hm]at hsl;have hx:=n.x;have hp:=hi.p;have hL:=hi.L;have ht0:=(hi.tag k hk).1;obtain⟨s1,s2,s3⟩:=uw h hm hk;obtain⟨t1,t2⟩:=hW.tk h;have l1:(seg s.W (c.off 1) c.X.length).length=c.X.length:=fh (hW.in' h (i:=1) (by omega));unfold iF;rw[mI (by omega) g1 g4 (by omega)];simp only[zG];rw[bB5 (ii:=1) (i:=1) h hW rfl (by omega)];simp only[zG];rw[show c.sz 1=c.X.length from rfl];unfold lO;rw[bM4 hk];simp only[zG,aB,zD];rw[yw h hm hk];simp only[zG];rw[aN0 h hm hW hk];simp only[zG];rw[zA (show¬s.p<0 by omega),zD,zA (show¬65536≤s.p by omega)];simp only[zG,zD];rw[l1,zA (fun k=>k rfl),zD,zA (show¬(hY c s.W k≠0)by omega),zD,dq (by omega) (by omega)]
 unfold Cx.tk;rw[oF (by simp[l1];omega) t1 t2];rfl
theorem cm8 (h:c.Ok)(hm:c.mode≠3){s:Dy}(hi:Inv c s){k:Nat}(hk:k<c.ns.toNat)(ht:0<hY c s.W k):
  gP (k:Int) c.fixed c.tp c.sl c.ns c.mode c.R c.Q c.len c.words s.L s.p s.q s.c0 s.c1 s.c2 s.c3 s.z c.X c.T c.l c.k c.P c.tk (c.off 8:Int) c.ns (c.X.length:Int) s.lv s.pk c.words s.W=some (put s.W (c.off 1) (seg s.W (sp c k+1) c.X.length)):=by
 have n:=h.num;have hW:=hi.w;have hL:=hi.L;have ht1:=(hi.tag k hk).2;obtain⟨s1,s2,s3⟩:=uw h hm hk;obtain⟨t1,t2⟩:=hW.tk h;have l1:(seg s.W (sp c k+1) c.X.length).length=c.X.length:=fh (by omega);unfold gP kf;rw[bM4 hk];simp only[zG,aB,zD];rw[yw h hm hk];simp only[zG];rw[aN0 h hm hW hk];simp only[zG];rw[zA (show¬hY c s.W k=0 by omega),zD,ck (n:=(sp c k:Int)+1) (by omega),show(sp c k:Int)+1=((sp c k+1:Nat):Int)by omega];unfold Cx.tk;rw[yi (by omega) t1 t2];simp only[zG];rw[show((c.off 9:Nat):Int)=c.tk from rfl,aC8 (ii:=1) (i:=1) h hW rfl (by omega) (by rw[l1];exact Nat.le_refl _)];rfl
theorem cK0 (h:c.Ok)(hm:c.mode≠3){s:Dy}(hi:Inv c s){k:Nat}(hk:k<c.ns.toNat)(ht:0<hY c s.W k)(hlv:c.sl≤s.lv):
  i7 (k:Int) c.fixed c.tp c.sl c.ns c.mode c.R c.Q c.len c.words s.L s.p s.q s.c0 s.c1 s.c2 s.c3 s.z c.X c.T c.l c.k c.P c.tk (c.off 8:Int) c.ns (c.X.length:Int) s.lv s.pk c.words s.W=some (s.lv-c.sl,s.pk,c.words,put s.W (sp c k) (fQ (c.X.length+1))):=by
 have n:=h.num;have hW:=hi.w;have hx:=n.x;have hsl:=n.sl;rw[zF hm]at hsl;obtain⟨g1,g2,g3⟩:=aM0 h hi;have hpk:=hi.pk;obtain⟨s1,s2,s3⟩:=uw h hm hk;obtain⟨t1,t2⟩:=hW.tk h;unfold i7 mv;rw[bM4 hk];simp only[zG,aB,zD];rw[yw h hm hk];simp only[zG];rw[aN0 h hm hW hk];simp only[zG];rw[zA (show¬hY c s.W k=0 by omega),zD];unfold fy;simp only[zG];rw[ck (n:=(c.X.length:Int)+1) (by omega),gdz (by omega),show List.replicate (((c.X.length:Int)+1).toNat) (0:Int)=fQ (c.X.length+1)from rfl];unfold Cx.tk;rw[oF (by rw[dW];omega) t1 t2];simp only[zG];rw[qE (by omega) hlv hpk.1 (by omega)];rfl
end
end
section
open Int renaming reduceEq → aD, toNat_of_nonneg → aW
open Nat renaming reduceSub → aB
def cE3 (a n p q L tot:Int)(l:List Int):Int×Int×Int×Int×Int×List Int:=
 if iI a n=false∨7<a then(2,p,q,L,tot,l)
 else if(2≤a∧a≤4)∧(l.length:Int)≤n then(2,p,q,L,tot,l)
 else if a=1 then(if L-p<n then(17,p,q,L,tot,l)else(0,p+n,q,L,tot+n,l))
 else if a=2 then(if 0≤rg l n then(15,p,q,L,tot,l)else(0,p,q,L,tot,l.set n.toNat p))
 else if a=3 then(if rg l n<0 then(16,p,q,L,tot,l)else(0,rg l n,q,L,tot,l))
 else if a=4 then(if rg l n<0 then(16,p,q,L,tot,l)else(0,p,q,L,tot,l.set n.toNat (-1)))
 else if a=5 then(if q≠ -1 then(18,p,q,L,tot,l)else if p≠L then(17,p,q,L,tot,l)else(0,p,p,L,tot,l))
 else if a=6 then(if q≠ -1 then(18,p,q,L,tot,l)else if p≠L-1 then(17,p,q,L,tot,l)else(0,p,p,L,tot,l))
 else(if q≤0 then(18,p,q,L,tot,l)else if p≠q-1 then(17,p,q,L,tot,l)else(0,p,p,L,tot,l))
theorem nbz :Nat.beq 0 0=true:=rfl
theorem nbs (n:Nat):Nat.beq (n+1) 0=false:=rfl
theorem yz {a n:Int}(h: ¬(iI a n=false∨7<a)):iI a n=true∧(a=1∨a=2∨a=3∨a=4∨a=5∨a=6∨a=7):=by
 have h1:iI a n=true:=by
  cases hr:iI a n with
  |true=>rfl
  |false=>exact(h (.inl hr)).elim
 refine⟨h1, ?_⟩;have h2: ¬a<1:=fun h3=>by unfold iI at h1;rw[zE h3]at h1;cases h1
 omega
theorem yA {a n:Int}(h:iI a n=true)(ha:1≤a∧a≤4):0≤n∧n<1048576∧(a=1→1≤n∧n<65536):=by
 unfold iI at h;rw[zF (by omega),zF (by omega)]at h;by_cases h1:a=1
 ·rw[zE h1]at h;have:=of_decide_eq_true h;omega
 ·rw[zF h1,zE (by omega)]at h;have:=of_decide_eq_true h;omega
theorem bM6 {a n p q L tot:Int}{l:List Int}(hL:0≤L∧L≤65535)(hp:0≤p∧p≤L)(hq: -1≤q∧q≤L)(ht:0≤tot∧tot≤1000000000000):gZ a n p q L tot l=some (cE3 a n p q L tot l):=by
 unfold gZ cE3;rw[bp9];simp only[zG];by_cases h1:iI a n=false∨7<a
 ·rw[zE h1]
  have e:(cond (!iI a n) (some true) (some (decide (7<a))))=some true:=by
   rcases h1 with h1|h1
   ·rw[h1];rfl
   ·rw[zB h1];cases iI a n<;>rfl
  rw[e];rfl
 rw[zF h1];obtain⟨h2,hk⟩:=yz h1;have h3: ¬7<a:=fun h=>h1 (.inr h)
 rw[h2,zA h3];simp only[Bool.not_true,zD,zG];by_cases h4:(2≤a∧a≤4)∧(l.length:Int)≤n
 ·rw[zE h4,zB h4.1.1,zB h4.1.2,zB h4.2];rfl
 rw[zF h4]
 have e:(cond (decide (2≤a)) (cond (decide (a≤4)) (cond (decide ((l.length:Int)≤n)) (some (Sum.inl ())) (some (Sum.inr ()))) (some (Sum.inr ()))) (some (Sum.inr ())):Option (Unit⊕Unit))=some (.inr ()):=by
  by_cases h5:2≤a
  ·rw[zB h5];by_cases h6:a≤4
   ·rw[zB h6,zA (fun h7=>h4 ⟨⟨h5,h6⟩,h7⟩)];rfl
   ·rw[zA h6];rfl
  ·rw[zA h5];rfl
 rw[e];simp only[zG,dT,jT]
 have slot:(2≤a∧a≤4)→0≤n∧n.toNat<l.length∧ix n l.length=some n.toNat∧l[n.toNat]?=some (rg l n):=fun hs=>by
  have hn:=yA h2 ⟨by omega,hs.2⟩
  have hlt:n.toNat<l.length:=by
   have: ¬(l.length:Int)≤n:=fun h7=>h4 ⟨hs,h7⟩
   omega
  have en:n=((n.toNat:Nat):Int):=by omega
  refine⟨hn.1,hlt, ?_, ?_⟩
  ·conv=>lhs;rw[en]
   exact dp hlt
  ·have:=hC hlt;rw[←en]at this;exact this
 rcases hk with rfl|rfl|rfl|rfl|rfl|rfl|rfl
 ·have hn:=yA h2 (by omega);rw[show ix 1 8=some 1 from rfl];simp only[zG,aB,nbz,nbs,zC,zD];rw[zE trivial];unfold jc;rw[ck (n:=L-p) (by omega),cr];by_cases h5:L-p<n
  ·rw[zE h5,zE h5];rfl
  ·rw[zF h5,zF h5,ck (n:=p+n) (by omega),ck (n:=tot+n) (by omega)];rfl
 ·obtain⟨s1,s2,s3,s4⟩:=slot (by omega);rw[show ix 2 8=some 2 from rfl];simp only[zG,aB,nbz,nbs,zC,zD];rw[zF (by decide),zE trivial];unfold jU;rw[s3];simp only[zG];rw[s4];simp only[zG,cr];by_cases h5:0≤rg l n
  ·rw[zE h5,zE h5];rfl
  ·rw[zF h5,zF h5];rfl
 ·obtain⟨s1,s2,s3,s4⟩:=slot (by omega);rw[show ix 3 8=some 3 from rfl];simp only[zG,aB,nbz,nbs,zC,zD];rw[zF (by decide),zF (by decide),zE trivial];unfold jd;rw[s3];simp only[zG];rw[s4];simp only[zG,cr];by_cases h5:rg l n<0
  ·rw[zE h5,zE h5];rfl
  ·rw[zF h5,zF h5];rfl
 ·obtain⟨s1,s2,s3,s4⟩:=slot (by omega);rw[show ix 4 8=some 4 from rfl];simp only[zG,aB,nbz,nbs,zC,zD];rw[zF (by decide),zF (by decide),zF (by decide),zE trivial];unfold kL;rw[s3];simp only[zG];rw[s4];simp only[zG,cr];by_cases h5:rg l n<0
  ·rw[zE h5,zE h5];rfl
  ·rw[zF h5,zF h5];rfl
 ·rw[show ix 5 8=some 5 from rfl];simp only[zG,aB,nbz,nbs,zC,zD];rw[zF (by decide),zF (by decide),zF (by decide),zF (by decide),zE trivial];unfold kM gk;rw[ck (n:=L-0) (by omega),cr];by_cases h5:q≠ -1
  ·rw[zE h5,zE h5];rfl
  ·rw[zF h5,zF h5,zB (show q= -1 by omega),Bool.and_true,Int.sub_zero];by_cases h6:p=L
   ·rw[zB h6,zF (fun k=>k h6)];rfl
   ·rw[zA h6,zE h6];rfl
 ·rw[show ix 6 8=some 6 from rfl];simp only[zG,aB,nbz,nbs,zC,zD];rw[zF (by decide),zF (by decide),zF (by decide),zF (by decide),zF (by decide),zE trivial];unfold kK gk;rw[ck (n:=L-1) (by omega),cr];by_cases h5:q≠ -1
  ·rw[zE h5,zE h5];rfl
  ·rw[zF h5,zF h5,zB (show q= -1 by omega),Bool.and_true];by_cases h6:p=L-1
   ·rw[zB h6,zF (fun k=>k h6)];rfl
   ·rw[zA h6,zE h6];rfl
 ·rw[show ix 7 8=some 7 from rfl];simp only[zG,aB,nbz,nbs,zC,zD];rw[zF (by decide),zF (by decide),zF (by decide),zF (by decide),zF (by decide),zF (by decide)];unfold je;rw[cr];by_cases h5:q≤0
  ·rw[zE h5,zE h5];rfl
  ·rw[zF h5,zF h5,ck (n:=q-1) (by omega),cr];by_cases h6:p≠q-1
   ·rw[zE h6,zE h6];rfl
   ·rw[zF h6,zF h6];rfl
section
variable {c:Cx}
theorem aY4 {W:List Int}{L:Int}(ht: ∀k,k<c.ns.toNat→0≤hY c W k∧hY c W k≤L+1): ∀t∈kt c W,-1≤t∧t≤L:=fun t hm=>by
 unfold kt at hm;obtain⟨k,hk,rfl⟩:=List.mem_map.1 hm;have:=ht k (List.mem_range.1 hk);omega
theorem cx1 {W:List Int}{n:Int}(h:0≤n)(hn:n.toNat<c.ns.toNat):rg (kt c W) n=hY c W n.toNat-1:=by
 have h1:=ag6 (c:=c) (W:=W) hn;have h2:=hC (r:=kt c W) (k:=n.toNat) (by rw[lE];exact hn);rw[h1,aW h]at h2;injection h2 with h2
 exact h2.symm
theorem Cnt.in' {B:Int}{s:Dy}(h:Cnt B s)(hB:B≤2305843009213693952):(0≤s.c0∧s.c0≤2305843009213693952)∧(0≤s.c1∧s.c1≤2305843009213693952)∧(0≤s.c2∧s.c2≤2305843009213693952)∧(0≤s.c3∧s.c3≤2305843009213693952):=by
 unfold Cnt at h;omega
theorem cp2 {W:List Int}{k:Nat}(hk:k<c.ns.toNat)(ht:0<hY c W k):0<jA c W:=by
 unfold jA;exact List.countP_pos_iff.2 ⟨k,List.mem_range.2 hk,zB ht⟩
theorem cj3 (h:c.Ok){s:Dy}(hi:Inv c s)(hu:0<jA c s.W):c.sl≤s.lv:=by
 have n:=h.num;have h1:=hi.lv;have h4:=n.fixed;have h6:=n.sl;have h7:1≤c.sl:=by rw[h6];have:=n.R;split<;>omega
 have h8:c.sl*1≤c.sl*(jA c s.W:Int):=Int.mul_le_mul_of_nonneg_left (by omega) (by omega);have:=n.R;have:=n.Q;omega
theorem do2 (h:c.Ok)(hm:c.mode≠3){s:Dy}(hi:Inv c s){B:Int}(hc:Cnt B s)(hB:B≤2305843009213693952){a n:Int}:
  iz a n c.fixed c.tp c.sl c.ns c.mode c.R c.Q c.len c.words s.L s.p s.q s.c0 s.c1 s.c2 s.c3 s.z c.X c.T c.l c.k c.P c.tk (c.off 8:Int) c.ns (c.X.length:Int) s.lv s.pk c.words s.W=some (cJ1 c (doF c a n s)):=by
 have nm:=h.num;have hW:=hi.w;have hL:=hi.L;have hp:=hi.p;have hq:=hi.q;have hpk:=hi.pk;have hns:=h.ns;obtain⟨k0,k1,k2,k3⟩:=hc.in' hB;obtain⟨g1,g2,g3,g4⟩:=aM0 h hi;have htp:=nm.tp;rw[zF hm]at htp
 have hlen:(kt c s.W).length<1000000:=by
  rw[lE];rcases Nat.eq_zero_or_pos c.ns.toNat with h0|h0
  ·omega
  ·have:=(uw h hm h0).2.2;omega
 unfold iz jb;simp only[zG];rw[zA hm,zD];unfold eY;rw[bW0 h hm hW (fun k hk=>by have:=hi.tag k hk;omega)];simp only[zG];rw[aq6 hL hp hq hlen (aY4 hi.tag)];simp only[zG,dT];rw[bM6 hL hp hq (by omega)];simp only[zG];unfold cE3 doF;by_cases h1:iI a n=false∨7<a
 ·rw[zE h1,zE h1,zB (by simp),zC];rfl
 rw[zF h1,zF h1];obtain⟨h2,hk⟩:=yz h1;rw[lE,aW hns.1];by_cases h4:(2≤a∧a≤4)∧c.ns≤n
 ·rw[zE h4,zE h4,zB (by simp),zC];rfl
 rw[zF h4,zF h4]
 have slot:(2≤a∧a≤4)→n=((n.toNat:Nat):Int)∧n.toNat<c.ns.toNat∧rg (kt c s.W) n=hY c s.W n.toNat-1:=fun hs=>by
  have hn:=yA h2 ⟨by omega,hs.2⟩
  have hlt:n.toNat<c.ns.toNat:=by
   have: ¬c.ns≤n:=fun h7=>h4 ⟨hs,h7⟩
   omega
  exact⟨by omega,hlt,cx1 hn.1 hlt⟩
 simp only[kH,db,gB,zG];have fitT: ∀l:List Int,l.length<1000000→gd (fU (0+l.length) 8) (some l)=some l:=fun l hl=>dq (by omega) (by omega)
 have hset: ∀(i:Nat) (x:Int),((kt c s.W).set i x).length<1000000:=fun i x=>by simp only[List.length_set];exact hlen
 rcases hk with rfl|rfl|rfl|rfl|rfl|rfl|rfl
 ·have hn:=yA h2 (by omega);simp only[aD,reduceIte];by_cases h5:s.L-s.p<n
  ·rw[zE h5,zE h5,zB (by simp),zC];rfl
  rw[zF h5,zF h5,zA (by simp),zD,show ix 1 8=some 1 from rfl];simp only[zG,aB,nbz,nbs,zC,zD];have en:n=((n.toNat:Nat):Int):=by omega
  have ha:=ce4 h hW (m:=n.toNat) (L:=s.L) (p:=s.p) (q:=s.q) (c0:=s.c0) (c1:=s.c1) (c2:=s.c2) (c3:=s.c3) (z:=s.z) (sb:=(c.off 8:Int)) (sn:=c.ns) (sx:=(c.X.length:Int)) (lv:=s.lv) (pk:=s.pk) (bd:=c.words) (by omega) (by omega) (by omega);rw[←en]at ha;rw[ha];simp only[zG];rw[fitT _ hlen];rfl
 ·obtain⟨en,hlt,ht⟩:=slot (by omega);simp only[aD,reduceIte];rw[ht];by_cases h5:0≤hY c s.W n.toNat-1
  ·rw[zE h5,zE h5,zB (by simp),zC];rfl
  rw[zF h5,zF h5,zA (by simp),zD,show ix 2 8=some 2 from rfl];simp only[zG,aB,nbz,nbs,zC,zD];have ha:=cG2 h hm hi hlt (by omega);rw[←en]at ha;rw[ha];simp only[zG];rw[fitT _ (hset _ _)];rfl
 ·obtain⟨en,hlt,ht⟩:=slot (by omega);simp only[aD,reduceIte];rw[ht];by_cases h5:hY c s.W n.toNat-1<0
  ·rw[zE h5,zE h5,zB (by simp),zC];rfl
  rw[zF h5,zF h5,zA (by simp),zD,show ix 3 8=some 3 from rfl];simp only[zG,aB,nbz,nbs,zC,zD];have ha:=cm8 h hm hi hlt (by omega);rw[←en]at ha;rw[ha];simp only[zG];rw[fitT _ hlen];rfl
 ·obtain⟨en,hlt,ht⟩:=slot (by omega);simp only[aD,reduceIte];rw[ht];by_cases h5:hY c s.W n.toNat-1<0
  ·rw[zE h5,zE h5,zB (by simp),zC];rfl
  rw[zF h5,zF h5,zA (by simp),zD,show ix 4 8=some 4 from rfl];simp only[zG,aB,nbz,nbs,zC,zD];have ha:=cK0 h hm hi hlt (by omega) (cj3 h hi (cp2 hlt (by omega)));rw[←en]at ha;rw[ha];simp only[zG];rw[fitT _ (hset _ _)];rfl
 ·simp only[aD,reduceIte];by_cases h5:s.q≠ -1
  ·rw[zE h5,zE h5,zB (by simp),zC];rfl
  rw[zF h5,zF h5];by_cases h6:s.p≠s.L
  ·rw[zE h6,zE h6,zB (by simp),zC];rfl
  rw[zF h6,zF h6,zA (by simp),zD,show ix 5 8=some 5 from rfl];simp only[zG,aB,nbz,nbs,zC,zD];rw[cL6 h hW g1 hpk.1 (by omega) g3];simp only[zG];rw[fitT _ hlen,ck (n:=s.c2+1) (by omega),ck (n:=s.c3+1) (by omega)];rfl
 ·simp only[aD,reduceIte];by_cases h5:s.q≠ -1
  ·rw[zE h5,zE h5,zB (by simp),zC];rfl
  rw[zF h5,zF h5];by_cases h6:s.p≠s.L-1
  ·rw[zE h6,zE h6,zB (by simp),zC];rfl
  rw[zF h6,zF h6,zA (by simp),zD,show ix 6 8=some 6 from rfl];simp only[zG,aB,nbz,nbs,zC,zD];rw[cI7 h hW g1 hpk.1 (by omega) g3];simp only[zG];rw[fitT _ hlen,ck (n:=s.c1+1) (by omega),ck (n:=s.c2+1) (by omega),ck (n:=s.c3+1) (by omega),ck (n:=s.c3+1+1) (by omega)];rfl
 ·simp only[aD,reduceIte];by_cases h5:s.q≤0
  ·rw[zE h5,zE h5,zB (by simp),zC];rfl
  rw[zF h5,zF h5];by_cases h6:s.p≠s.q-1
  ·rw[zE h6,zE h6,zB (by simp),zC];rfl
  rw[zF h6,zF h6,zA (by simp),zD,show ix 7 8=some 7 from rfl];simp only[zG,aB,nbz,nbs,zC,zD];rw[cP2 h hW g1 hpk.1 (by omega) g3];simp only[zG];rw[fitT _ hlen,ck (n:=s.c1+1) (by omega),ck (n:=s.c3+1) (by omega)];rfl
end
end
section
open Go.IntKind renaming wrap → zH, i64 → zI, u64 → zJ
open Int renaming reduceEq → aB, le_max_left → aY, toNat_natCast → aZ
open List renaming getD_eq_getElem?_getD → aD, range → aX, length_take → bA, countP_append → bC
open Nat renaming le_of_eq → aW, le_refl → bB
section
variable {c:Cx}
def fA (c:Cx)(W W':List Int):Prop:= ∀i,c.off 8≤i→W'[i]?=W[i]?
theorem fA.refl (W:List Int):fA c W W:=fun _ _=>rfl
theorem fA.trans {W W' W'':List Int}(h:fA c W W')(h':fA c W' W''):fA c W W'':=fun i hi=>(h' i hi).trans (h i hi)
theorem fA.put (h:c.Ok){W W' w:List Int}{i:Nat}(hK:fA c W W')(hW:Wd c W')(hi:i<8)(hw:w.length≤c.sz i):fA c W (put W' (c.off i) w):=fun j hj=>by
 have h1:=lr (c:=c) (i:=i) (j:=8) hi;have h2:=hW.in' h (i:=i) (by omega);rw[bO0 (by omega) (.inr (by omega))];exact hK j hj
theorem fA.rg {W W':List Int}(h:fA c W W'){i:Nat}(hi:c.off 8≤i):rg W' (i:Int)=rg W (i:Int):=by
 unfold Go.V.rg;rw[aZ,aD,aD,h i hi]
theorem fA.tag {W W':List Int}(h:fA c W W')(k:Nat):hY c W' k=hY c W k:=h.rg (by unfold sp;omega)
theorem fA.used {W W':List Int}(h:fA c W W'):jA c W'=jA c W:=by
 unfold jA
 congr 1
 funext k
 rw[h.tag k]
theorem fA.seg {W W':List Int}(h:fA c W W'){o n:Nat}(ho:c.off 8≤o):seg W' o n=seg W o n:=by
 apply List.ext_getElem?;intro i;rw[ay1,ay1];split
 ·exact h _ (by omega)
 ·rfl
theorem bC0 (h:c.Ok){W a:List Int}(hW:Wd c W)(ha:c.X.length+c.T.length≤a.length)(ha2:a.length≤max c.R.toNat c.Q.toNat):fA c W (ad7 c W a):=by
 obtain⟨w1,w2,w3⟩:=kC h hW ha ha2;unfold ad7;refine fA.put h (fA.put h (fA.put h (fA.refl W) hW (by omega) ?_) w1 (by omega) ?_) w2 (by omega) ?_
 ·exact ha2
 ·rw[bA];exact Nat.min_le_left _ _
 ·rw[wD,fh (n:=c.T.length) (w2.in' h (i:=6) (by omega))];exact bB _
theorem bt4 (h:c.Ok){W x:List Int}(hW:Wd c W)(hx:x.length=c.X.length):fA c W (bs2 c W x):=by
 have n:=h.num;have nR:=n.R;have nQ:=n.Q;have n2:=n.xtQ;have nx:=n.x;have nm:=n.m;obtain⟨f1,f2,f3⟩:=vm h hW hx;obtain⟨w1,w2⟩:=yn h hW hx;obtain⟨_,r2,r3⟩:=mL h.pk f2 (a:=fill c.Q [1]) (t:=(lD c W x).2.1) (pS (by simp;omega)) (aW f3.symm) (by omega);exact(fA.put h (fA.refl W) hW (i:=3) (by omega) (aW f2)).trans (bC0 h w1 (by omega) (by omega))
theorem bC1 (h:c.Ok){W r t:List Int}(hW:Wd c W)(hr:r.length=c.R.toNat)(ht:t.length=c.fl.n):fA c W (bH8 c W r t):=by
 have n:=h.num;have nR:=n.R;have n1:=n.xtR;have nx:=n.x;have nn:=n.n;obtain⟨f1,f2⟩:=ay5 h hW hr ht;obtain⟨_,r2,r3⟩:=mL h.pl hr f1 (aW ht.symm) (by omega);exact bC0 h hW (by omega) (by omega)
theorem bh1 (h:c.Ok){W:List Int}(hW:Wd c W)(p:Int):fA c W (put W (c.off 2) (io c W p).1):=
 fA.put h (fA.refl W) hW (i:=2) (by omega) (aW (gG h hW p).2.1)
theorem bt5 (h:c.Ok){W:List Int}(hW:Wd c W)(p:Int):fA c W (cx0 c W p)∧Wd c (cx0 c W p):=by
 obtain⟨f1,f2,f3⟩:=gG h hW p;have w1:=tA h hW p;exact⟨(bh1 h hW p).trans (bC1 h w1 f2 f3),(ay5 h w1 f2 f3).2⟩
theorem cd3 (h:c.Ok){W:List Int}(hW:Wd c W)(p:Int):((io c W p).1.take c.X.length).length=c.X.length:=by
 have n:=h.num;have nR:=n.R;have n1:=n.xtR;obtain⟨f1,f2,f3⟩:=gG h hW p;rw[bA];omega
theorem aU8 (h:c.Ok){W:List Int}(hW:Wd c W)(p:Int):fA c W (bR3 c W p)∧Wd c (bR3 c W p):=by
 obtain⟨f1,f2,f3⟩:=gG h hW p;have w1:=tA h hW p;have hx:=cd3 h hW p;have w2:=(yn h w1 hx).2;exact⟨((bh1 h hW p).trans (bt4 h w1 hx)).trans (bC1 h w2 f2 f3),(ay5 h w2 f2 f3).2⟩
theorem ci4 (h:c.Ok){W:List Int}(hW:Wd c W)(p:Int):fA c W (cB7 c W p):=by
 obtain⟨_,f2⟩:=ag4 h hW p;obtain⟨w1,w2⟩:=bq1 h hW p;refine fA.put h (fA.put h (fA.refl W) hW (i:=2) (by omega) (aW f2)) w1 (i:=1) (by omega) ?_;rw[bA];exact Nat.min_le_left _ _
theorem bt3 (h:c.Ok){W:List Int}(hW:Wd c W)(p:Int): ∀i,fA c W (bd6 c W p i)
 |0=>fA.refl W
 |i+1=>(bt3 h hW p i).trans (ci4 h (aL2 h hW p i) _)
theorem ae1 {P P':Nat→Bool}{k:Nat}: ∀{n:Nat},k<n→P k=false→P' k=true→(∀j,j<n→j≠k→P' j=P j)→(aX n).countP P'=(aX n).countP P+1
 |n+1,hk,h0,h1,hne=>by
  rw[List.range_succ,bC,bC];by_cases hkn:k=n
  ·subst hkn
   have e:(aX k).countP P'=(aX k).countP P:=List.countP_congr fun j hj=>by
    have:=List.mem_range.1 hj;rw[hne j (by omega) (by omega)]
   rw[e];simp[h0,h1]
  ·rw[ae1 (n:=n) (by omega) h0 h1 fun j hj hjk=>hne j (by omega) hjk];have:[n].countP P'=[n].countP P:=by simp[hne n (by omega) (by omega)]
   omega
theorem cA6 {j k:Nat}(h:j<k):sp c j+(c.X.length+1)≤sp c k:=by
 have h1:(j+1)*(c.X.length+1)≤k*(c.X.length+1):=Nat.mul_le_mul_right _ h;rw[Nat.succ_mul]at h1;unfold sp;omega
theorem bv5 {W w:List Int}{j k:Nat}(hlen:sp c k+w.length≤W.length)(hw:w.length=c.X.length+1)(hjk:j≠k):hY c (put W (sp c k) w) j=hY c W j:=by
 unfold hY rg;rw[aZ,aD,aD,bO0 hlen];rcases Nat.lt_or_ge j k with h|h
 ·exact .inl (by have:=cA6 (c:=c) h;omega)
 ·exact .inr (by have:=cA6 (c:=c) (show k<j by omega);omega)
theorem yH {W w:List Int}{k:Nat}(hlen:sp c k+w.length≤W.length)(hw:w.length=c.X.length+1):hY c (put W (sp c k) w) k=w.getD 0 0:=by
 unfold hY rg;rw[aZ,aD,aD,bu4 hlen,zE ⟨bB _,by omega⟩,Nat.sub_self]
theorem ae8 {s s':Dy}(hi:Inv c s)(hW:Wd c s'.W)(hk:fA c s.W s'.W)(hL:s'.L=s.L)(hp:0≤s'.p∧s'.p≤s.L)(hq: -1≤s'.q∧s'.q≤s.L)(hlv:s'.lv=s.lv)(hpk:s.pk≤s'.pk∧s'.pk≤c.words):Inv c s':=
 ⟨hW,by rw[hL];exact hi.L,by rw[hL];exact hp,by rw[hL];exact hq,fun k hkk=>by rw[hk.tag,hL];exact hi.tag k hkk,by rw[hlv,hk.used];exact hi.lv,by rw[hlv];exact⟨Int.le_trans hi.pk.1 hpk.1,hpk.2⟩⟩
theorem cr1 (h:c.Ok)(hm:c.mode≠3){s:Dy}(hi:Inv c s)(a n:Int):Inv c (doF c a n s).2:=by
 have nm:=h.num;have hW:=hi.w;have hL:=hi.L;have hp:=hi.p;have hq:=hi.q;have hpk:=hi.pk;have hns:=h.ns;have nx:=nm.x;obtain⟨g1,g2,g3,g4⟩:=aM0 h hi;have htp:=nm.tp;rw[zF hm]at htp;have hsl:=nm.sl;rw[zF hm]at hsl;have l1:(seg s.W (c.off 1) c.X.length).length=c.X.length:=fh (hW.in' h (i:=1) (by omega));unfold doF;by_cases h1:iI a n=false∨7<a
 ·rw[zE h1];exact hi
 rw[zF h1];obtain⟨h2,hk⟩:=yz h1;by_cases h4:(2≤a∧a≤4)∧c.ns≤n
 ·rw[zE h4];exact hi
 rw[zF h4]
 have slot:(2≤a∧a≤4)→n.toNat<c.ns.toNat:=fun hs=>by
  have hn:=yA h2 ⟨by omega,hs.2⟩;have: ¬c.ns≤n:=fun h7=>h4 ⟨hs,h7⟩
  omega
 rcases hk with rfl|rfl|rfl|rfl|rfl|rfl|rfl
 ·have hn:=yA h2 (by omega);simp only[aB,reduceIte];by_cases h5:s.L-s.p<n
  ·rw[zE h5];exact hi
  ·rw[zF h5];exact ae8 hi (aL2 h hW _ _) (bt3 h hW _ _) rfl ⟨by show 0≤s.p+n;omega,by show s.p+n≤s.L;omega⟩ hq rfl ⟨Int.le_refl _,hpk.2⟩
 ·have hlt:=slot (by omega);simp only[aB,reduceIte];by_cases h5:0≤hY c s.W n.toNat-1
  ·rw[zE h5];exact hi
  rw[zF h5];generalize n.toNat=k at*;obtain⟨s1,s2,s3⟩:=uw h hm hlt;obtain⟨t1,t2⟩:=hW.tk h;have htk:=hi.tag k hlt;have hw:(zH zJ (zH zI (s.p+1))::seg s.W (c.off 1) c.X.length).length=c.X.length+1:=by simp[l1]
  have hnew:=yH (c:=c) (W:=s.W) (k:=k) (w:=zH zJ (zH zI (s.p+1))::seg s.W (c.off 1) c.X.length) (by omega) hw
  have hv:(zH zJ (zH zI (s.p+1))::seg s.W (c.off 1) c.X.length).getD 0 0=s.p+1:=by
   show zH zJ (zH zI (s.p+1))=_;rw[ck (by omega),hZ (by omega)]
  rw[hv]at hnew;have hold: ∀j,j≠k→hY c (put s.W (sp c k) (zH zJ (zH zI (s.p+1))::seg s.W (c.off 1) c.X.length)) j=hY c s.W j:=fun j hj=>bv5 (by omega) hw hj
  have hmore:=bh5 h hi (bg6 hlt (by omega))
  have hu:jA c (put s.W (sp c k) (zH zJ (zH zI (s.p+1))::seg s.W (c.off 1) c.X.length))=jA c s.W+1:=by
   unfold jA;exact ae1 hlt (zA (by omega)) (zB (by rw[hnew];omega)) fun j _ hj=>by rw[hold j hj]
  refine⟨hW.put h (by omega),hL,hp,hq,fun j hj=> ?_, ?_, ?_⟩
  ·by_cases hjk:j=k
   ·subst hjk;rw[hnew];show 0≤s.p+1∧s.p+1≤s.L+1;omega
   ·rw[hold j hjk];exact hi.tag j hj
  ·show s.lv+c.sl=c.fixed+c.sl*((jA c (put s.W (sp c k) _):Nat):Int);rw[hu,hi.lv];rw[show(((jA c s.W+1:Nat)):Int)=(jA c s.W:Int)+1 by omega,Int.mul_add,Int.mul_one,Int.add_assoc]
  ·show s.lv+c.sl≤max s.pk (s.lv+c.sl)∧max s.pk (s.lv+c.sl)≤c.words;omega
 ·have hlt:=slot (by omega);simp only[aB,reduceIte];by_cases h5:hY c s.W n.toNat-1<0
  ·rw[zE h5];exact hi
  rw[zF h5];obtain⟨s1,s2,s3⟩:=uw h hm hlt;obtain⟨t1,t2⟩:=hW.tk h;have htk:=hi.tag _ hlt;have l2:(seg s.W (sp c n.toNat+1) c.X.length).length=c.X.length:=fh (by omega);have h1o:=lr (c:=c) (i:=1) (j:=9) (by omega);have z1:c.sz 1=c.X.length:=rfl;exact ae8 hi (hW.put h (by rw[l2];omega)) (fA.put h (fA.refl s.W) hW (i:=1) (by omega) (by rw[l2];exact bB _)) rfl ⟨by show 0≤hY c s.W n.toNat-1;omega,by show hY c s.W n.toNat-1≤s.L;omega⟩ hq rfl ⟨Int.le_refl _,hpk.2⟩
 ·have hlt:=slot (by omega);simp only[aB,reduceIte];by_cases h5:hY c s.W n.toNat-1<0
  ·rw[zE h5];exact hi
  rw[zF h5];generalize n.toNat=k at*;obtain⟨s1,s2,s3⟩:=uw h hm hlt;obtain⟨t1,t2⟩:=hW.tk h;have htk:=hi.tag k hlt;have hw:(fQ (c.X.length+1)).length=c.X.length+1:=dW _;have hnew:=yH (c:=c) (W:=s.W) (k:=k) (w:=fQ (c.X.length+1)) (by omega) hw;have hv:(fQ (c.X.length+1)).getD 0 0=0:=rfl;rw[hv]at hnew;have hold: ∀j,j≠k→hY c (put s.W (sp c k) (fQ (c.X.length+1))) j=hY c s.W j:=fun j hj=>bv5 (by omega) hw hj
  have hu:jA c s.W=jA c (put s.W (sp c k) (fQ (c.X.length+1)))+1:=by
   unfold jA;exact ae1 hlt (zA (by omega)) (zB (by omega)) fun j _ hj=>by rw[hold j hj]
  refine⟨hW.put h (by omega),hL,hp,hq,fun j hj=> ?_, ?_, ?_⟩
  ·by_cases hjk:j=k
   ·subst hjk;rw[hnew];show(0:Int)≤0∧0≤s.L+1;omega
   ·rw[hold j hjk];exact hi.tag j hj
  ·show s.lv-c.sl=c.fixed+c.sl*((jA c (put s.W (sp c k) (fQ (c.X.length+1))):Nat):Int);rw[hi.lv,hu];rw[show(((jA c (put s.W (sp c k) (fQ (c.X.length+1)))+1:Nat)):Int)=(jA c (put s.W (sp c k) (fQ (c.X.length+1))):Int)+1 by omega,Int.mul_add,Int.mul_one];omega
  ·show s.lv-c.sl≤s.pk∧s.pk≤c.words;omega
 ·simp only[aB,reduceIte];by_cases h5:s.q≠ -1
  ·rw[zE h5];exact hi
  rw[zF h5];by_cases h6:s.p≠s.L
  ·rw[zE h6];exact hi
  rw[zF h6];exact ae8 hi (yn h hW l1).2 (bt4 h hW l1) rfl hp ⟨by show-1≤s.p;omega,hp.2⟩ rfl ⟨aY _ _,by show max s.pk (s.lv+(c.fk.n:Int))≤c.words;omega⟩
 ·simp only[aB,reduceIte];by_cases h5:s.q≠ -1
  ·rw[zE h5];exact hi
  rw[zF h5];by_cases h6:s.p≠s.L-1
  ·rw[zE h6];exact hi
  rw[zF h6];exact ae8 hi (aU8 h hW s.p).2 (aU8 h hW s.p).1 rfl hp ⟨by show-1≤s.p;omega,hp.2⟩ rfl ⟨aY _ _,by show max s.pk (s.lv+((c.fl.n:Int)+c.fk.n))≤c.words;omega⟩
 ·simp only[aB,reduceIte];by_cases h5:s.q≤0
  ·rw[zE h5];exact hi
  rw[zF h5];by_cases h6:s.p≠s.q-1
  ·rw[zE h6];exact hi
  rw[zF h6];exact ae8 hi (bt5 h hW s.p).2 (bt5 h hW s.p).1 rfl hp ⟨by show-1≤s.p;omega,hp.2⟩ rfl ⟨aY _ _,by show max s.pk (s.lv+(c.fl.n:Int))≤c.words;omega⟩
theorem cr0 {s:Dy}{B:Int}(hc:Cnt B s)(a n:Int):Cnt (B+65536) (doF c a n s).2:=by
 have key:Cnt (B+65536) s:=by unfold Cnt at hc⊢;omega
 unfold doF;by_cases h1:iI a n=false∨7<a
 ·rw[zE h1];exact key
 rw[zF h1];obtain⟨h2,hk⟩:=yz h1;split
 ·exact key
 split
 ·rename_i ha;have hn:=yA h2 (by omega);split
  ·exact key
  ·unfold Cnt at hc⊢;simp only;omega
 repeat' split
 all_goals first|exact key|(unfold Cnt at hc⊢;simp only;omega)
end
end
section
open Nat renaming add_sub_cancel_left → aB, le_add_right → aD
theorem bW9 {t r:List Int}{j:Nat}(h:j<t.length):(t++r)[0+j]?=some (rg t (j:Int)):=by
 rw[Nat.zero_add,List.getElem?_append_left h,hC h]
theorem aA4 {t r:List Int}{j:Nat}(h:j<r.length):(t++r)[t.length+j]?=some (rg r (j:Int)):=by
 rw[List.getElem?_append_right (aD _ _),aB,hC h]
theorem bX0 {t r:List Int}{j:Nat}{v:Int}:(t++r).set (t.length+j) v=t++r.set j v:=by
 rw[List.set_append_right _ _ (aD _ _),aB]
def stK (t:List Int)(p d:Nat)(l:Nat→Int)(s:BS):Int×Int×Int×(List Int)×(List Int)×Int×Int×Int×Int×Int×Int×Int×Int:=
 ((p:Int)-1,(d:Int),(s.2.2:Int),t++s.1,s.2.1,l 0,l 1,l 2,l 3,l 4,l 5,l 6,l 7)
theorem cC2 {code:List rZ}(hc:code.length≤8192){R:Int}(hR:1≤R∧R≤64){t w:List Int}{e0 e1:Int}(hN:t.length≤1000000)(hw:w.length=t.length+R.toNat):Backs (dZ R (e0,w) (e1,code)) code (stK t) (bQ0 t) (VdB R.toNat t.length) (inR R.toNat)where
 op:=by
  intro p d l s m o to h hg hk hd hv;obtain⟨h1,h2⟩:=i8 hc h;obtain⟨v1,v2,v3,v4⟩:=hv;obtain⟨q1,q2⟩:=bE6 o s.1 s.2.1 (rg t ((s.2.2-1:Nat):Int));refine⟨?_,by unfold bQ0;exact⟨by simp[v1,q1],by simp[v2,q2],by show m≤s.2.2-1;omega,by show s.2.2-1≤_;omega⟩⟩;obtain⟨kd,ka,kb,e1,e2,e3,g1,g2,g3⟩:=aL9 hg;unfold stK bQ0;simp only[dZ];rw[show((p+1:Nat):Int)-1=(p:Int)by omega,zA (by omega),zD,h2];simp only[zG];rw[h];simp only[zG,dG];rw[zA (by omega),zD,zA (by omega),zD];simp only[yX,zG];rw[ck (n:=(s.2.2:Int)-1) (by omega),show(s.2.2:Int)-1=((s.2.2-1:Nat):Int)by omega,ck (n:=(w.length:Int)-R) (by omega),show((w.length:Int)-R).toNat=t.length by omega,show((w.length:Int)).toNat-t.length=R.toNat by omega,Nat.sub_zero];have hn:s.2.2-1<t.length:=by omega
  generalize s.2.2-1=n at*;unfold bE5;simp only[e1,e2,e3,Int.toNat_natCast];rw[dp (show kd<s.2.1.length by omega)];simp only[zG];rw[hC (show kd<s.2.1.length by omega)];simp only[zG];rw[dp hn];simp only[zG];rw[bW9 hn];simp only[zG];rw[dp g1];simp only[zG];rw[aA4 (show kd<s.1.length by omega)];simp only[zG];rw[dp g2];simp only[zG];rw[bX0];have hr1: ∀x:Int,(s.1.set kd x).length=s.1.length:=by simp
  have ha1:(s.2.1.set kd 0).length=s.2.1.length:=by simp
  rw[aA4 (show ka<(s.1.set kd (rg t (n:Int))).length by rw[hr1];omega)];simp only[zG];rw[dp g3];simp only[zG];rw[aA4 (show kb<(s.1.set kd (rg t (n:Int))).length by rw[hr1];omega)];simp only[zG];rw[dp (show ka<(s.2.1.set kd 0).length by omega)];simp only[zG];rw[hC (show ka<(s.2.1.set kd 0).length by omega)];simp only[zG];generalize hP:par o _ _=P;generalize hA:(s.2.1.set kd 0).set ka _=A2;have hA2:A2.length=s.2.1.length:=by rw[←hA];simp
  rw[dp (show kb<A2.length by omega)];simp only[zG];rw[hC (show kb<A2.length by omega)];simp only[zG];rw[ck (n:=(p:Int)-1) (by omega)]
 rep:=by
  intro p q d l s m o e to h hk h' hd hv;obtain⟨h1,h2⟩:=i8 hc h;obtain⟨h3,h4⟩:=i8 hc h';unfold stK;simp only[dZ];rw[show((p+1:Nat):Int)-1=(p:Int)by omega,zA (by omega),zD,h2];simp only[zG];rw[h];simp only[zG,dG];rw[zB hk,zC,ck (n:=((q+1:Nat):Int)-1) (by omega),show((q+1:Nat):Int)-1=(q:Int)by omega,h4];simp only[zG];rw[h'];simp only[zG,dG];rw[dp hd];simp only[zG];rw[ck (n:=(p:Int)-1) (by omega),ck (n:=(d:Int)+1) (by omega)];rfl
 nxt:=by
  intro p d l s m o to h hto hk hd hl hl2 hv;obtain⟨h1,h2⟩:=i8 hc h;have h8:=sI (upd l d (l d-1)) hd;rw[lF]at h8;unfold upd at h8;unfold stK;simp only[dZ];rw[show((p+1:Nat):Int)-1=(p:Int)by omega,zA (by omega),zD,h2];simp only[zG];rw[h];simp only[zG,dG];rw[zA (by omega),zD,zB hk,zC,ck (n:=((d+1:Nat):Int)-1) (by omega),show((d+1:Nat):Int)-1=(d:Int)by omega,dp hd];simp only[zG];rw[sI l hd,hZ (by omega),h8,zB (by omega),zC];rw[ck (n:=((to+1:Nat):Int)-2) (by omega),show((to+1:Nat):Int)-2=(to:Int)-1 by omega];rfl
 out:=by
  intro p d l s m o to h hk hd hl hv;obtain⟨h1,h2⟩:=i8 hc h;have h8:=sI (upd l d (l d-1)) hd;rw[lF]at h8;unfold upd at h8;unfold stK;simp only[dZ];rw[show((p+1:Nat):Int)-1=(p:Int)by omega,zA (by omega),zD,h2];simp only[zG];rw[h];simp only[zG,dG];rw[zA (by omega),zD,zB hk,zC,ck (n:=((d+1:Nat):Int)-1) (by omega),show((d+1:Nat):Int)-1=(d:Int)by omega,dp hd];simp only[zG];rw[sI l hd,hZ (by omega),h8,zA (by omega),zD,ck (n:=(p:Int)-1) (by omega)];rfl
section
variable {R:Int} {l:List dR} {f:Fo}
theorem bN7 (h:Prg R l f){r a t w:List Int}{e0 e1:Int}(hr:r.length=R.toNat)(ha:a.length=R.toNat)(ht:f.n≤t.length)(ht2:t.length≤1000000)(hw:w.length=t.length+R.toNat):
  ∃b0 b1 b2 b3 b4 b5 b6 b7,cv (dZ R (e0,w) (e1,f.bare.code 0)) fi (IntKind.i64.wrap (((f.bare.code 0).length:Int)-1),0,(f.n:Int),t++r,a,0,0,0,0,0,0,0,0)=some (t++(iX f r a t).1,(iX f r a t).2.1,b0,b1,b2,b3,b4,b5,b6,b7):=by
 obtain⟨l',_,h2,h3⟩:=au7 (m:=0) (l:=fun _=>0) (s:=((r,a,f.n):BS)) (d:=0) (p:=0) (A:=[]) (B:=[]) (aR6 (cC2 (e0:=e0) (e1:=e1) (t:=t) h.clen h.R1 ht2 hw)) f.bare (by simp) rfl (Fo.bare_ok f h.ok) f.bare_pos h.hi h.good ⟨hr,ha,by rw[Fo.bare_n];exact Nat.le_refl _,ht⟩;rw[Fo.bare_unroll]at h2 h3;have hl:=h.clen;rw[Fo.code_len]at hl
 have:=aj7 h2 h.steps (c:=(t++(iX f r a t).1,(iX f r a t).2.1,l' 0,l' 1,l' 2,l' 3,l' 4,l' 5,l' 6,l' 7)) (by
  unfold stK;simp only[dZ];rw[zB (by omega),zC]
  rfl)
 have e:stK t (0+f.bare.len) 0 (fun _=>0) ((r,a,f.n):BS)=(IntKind.i64.wrap (((f.bare.code 0).length:Int)-1),0,(f.n:Int),t++r,a,0,0,0,0,0,0,0,0):=by
  unfold stK;rw[Fo.code_len,ck (by omega),Nat.zero_add];rfl
 rw[e]at this;exact⟨_,_,_,_,_,_,_,_,this⟩
end
end
section
open Bool renaming not_true → aB
open Int renaming toNat_of_nonneg → aD, mul_le_mul_of_nonneg_left → aW
open List renaming length_append → aX, length_take → aY
section
variable {c:Cx}
def wQ (c:Cx)(i:Nat):Nat:=c.off 8+i*c.sl.toNat
def pV (s:Dy):Int:=if s.q<0 then s.p else s.q
structure InvB (c:Cx)(s:Dy):Prop where
 w:Wd c s.W
 L:s.L=c.len
 p:0≤s.p∧s.p≤s.L
 q: -1≤s.q∧s.q≤s.L
 qp:0≤s.q→s.p=s.q
 lv:s.lv=c.fixed+c.sl*pV s
 pk:s.lv≤s.pk∧s.pk≤c.words
def ux (c:Cx)(W:List Int)(i:Nat):List Int:=seg W (wQ c i) c.fl.n
def yY (c:Cx)(W:List Int)(i:Nat):List Int:=seg W (wQ c i+c.fl.n) c.R.toNat
def aR5 (c:Cx)(W:List Int)(i:Nat):BS:=iX c.fl (yY c W i) (fill c.R (seg W (c.off 5) c.X.length)) (ux c W i)
def plF (c:Cx)(a n:Int)(s:Dy):Int×Dy:=
 if a=8 then(if n≠0 then(2,s)else if 0≤s.q then(18,s)else if s.p=s.L then(17,s)else
  (0,{s with p:=s.p+1,c1:=s.c1+1,lv:=s.lv+c.sl,pk:=max s.pk (s.lv+c.sl),W:=put (put (put s.W (c.off 2) (io c s.W s.p).1) (wQ c s.p.toNat) ((io c s.W s.p).2.1++(io c s.W s.p).1)) (c.off 1) ((io c s.W s.p).1.take c.X.length)}))
 else if a=5 then(if n≠0 then(2,s)else if 0≤s.q then(18,s)else if s.p≠s.L then(17,s)else
  (0,{s with q:=s.L,c2:=s.c2+1,c3:=s.c3+1,z:=rg (lD c s.W (seg s.W (c.off 1) c.X.length)).1 0,pk:=max s.pk (s.lv+c.fk.n),W:=bs2 c s.W (seg s.W (c.off 1) c.X.length)}))
 else if a=9 then(if n≠0 then(2,s)else if s.q<1 then(18,s)else
  (0,{s with p:=s.q-1,q:=s.q-1,c3:=s.c3+1,lv:=s.lv-c.sl,W:=put (ad7 c s.W (aR5 c s.W (s.q-1).toNat).2.1) (c.off 1) ((aR5 c s.W (s.q-1).toNat).1.take c.X.length)}))
 else(2,s)
theorem ag2 (h:c.Ok)(hm:c.mode=3){i:Nat}(hi:i<c.ns.toNat):c.sl.toNat=c.fl.n+c.R.toNat∧c.sl=(c.fl.n:Int)+c.R∧wQ c i+c.sl.toNat≤c.off 9∧c.off 8≤wQ c i:=by
 have n:=h.num;have hsl:=n.sl;rw[zE hm]at hsl;have hns:=h.ns;have nR:=n.R
 have e:(c.sl*c.ns).toNat=c.ns.toNat*c.sl.toNat:=by
  have:c.sl*c.ns=((c.ns.toNat*c.sl.toNat:Nat):Int):=by
   rw[Int.natCast_mul,aD hns.1,aD (by omega),Int.mul_comm]
  rw[this];rfl
 have h9:c.off 9=c.off 8+c.ns.toNat*c.sl.toNat:=by rw[bN2,e]
 have h1:(i+1)*c.sl.toNat≤c.ns.toNat*c.sl.toNat:=Nat.mul_le_mul_right _ hi;rw[Nat.succ_mul]at h1;unfold wQ;omega
theorem bG7 (h:c.Ok)(hm:c.mode=3){i:Nat}(hi:i<c.ns.toNat){a0 a1 a4 a5 a6 a7 a8 a9 a10 a11 a12 a13 a14 a15 a16 a17:Int}{X T:List Int}{l k:List dR}{b0 b1 b2 b3:Int}{W:List Int}:gX (i:Int) a0 a1 c.sl a4 a5 a6 a7 a8 a9 a10 a11 a12 a13 a14 a15 a16 a17 X T l k c.P b0 b1 b2 b3 W=some (wQ c i:Int):=by
 obtain⟨h1,h2,h3,h4⟩:=ag2 h hm hi;have h5:=h.off9_le;have n:=h.num;have h6:=n.words;have nR:=n.R;unfold gX;rw[show ix 8 c.P.length=some 8 from dp (k:=8) (by rw[Cx.P_len];omega)];simp only[zG];rw[Cx.P_get (show 8<10 by omega)];simp only[zG];have e:(i:Int)*c.sl=((i*c.sl.toNat:Nat):Int):=by rw[Int.natCast_mul,aD (by omega)]
 unfold wQ at h3;rw[e,ck (n:=((i*c.sl.toNat:Nat):Int)) (by omega),ck (by omega)];unfold wQ
 congr 1
theorem cj2 (h:c.Ok)(hm:c.mode=3){s:Dy}(hi:InvB c s):0≤s.lv∧s.lv+c.tp≤c.words∧c.words≤1048576∧0≤c.tp∧(pV s<c.ns→s.lv+c.sl≤c.words)∧(0<pV s→c.sl≤s.lv)∧c.ns=s.L:=by
 have n:=h.num;have h1:=hi.lv;have h3:=h.fit;have h4:=n.fixed;have h5:=h.ns;have h6:=n.sl;rw[zE hm]at h6;have nR:=n.R;have nQ:=n.Q;have nw:=n.words;have hb:=h.base hm;have hL:=hi.L;have hp:=hi.p;have hq:=hi.q;have hh:0≤pV s∧pV s≤c.ns:=by unfold pV;split<;>omega
 have h7:1≤c.sl:=by omega
 have h8:c.sl*pV s≤c.sl*c.ns:=aW hh.2 (by omega);have h9:0≤c.sl*pV s:=Int.mul_nonneg (by omega) hh.1;have h10:0≤c.tp:=by rw[n.tp];split<;>omega
 refine⟨by omega,by omega,by omega,h10,fun hlt=> ?_,fun hpos=> ?_,by omega⟩
 ·have h8:c.sl*(pV s+1)≤c.sl*c.ns:=aW (by omega) (by omega);rw[Int.mul_add,Int.mul_one]at h8;omega
 ·have h8:c.sl*1≤c.sl*pV s:=aW (by omega) (by omega);omega
theorem aF4 (h:c.Ok)(hm:c.mode=3){W:List Int}(hW:Wd c W){i:Nat}(hi:i<c.ns.toNat):
  seg W (wQ c i) c.sl.toNat=ux c W i++yY c W i∧(ux c W i).length=c.fl.n∧(yY c W i).length=c.R.toNat∧(fill c.R (seg W (c.off 5) c.X.length)).length=c.R.toNat∧(aR5 c W i).1.length=c.R.toNat∧(aR5 c W i).2.1.length=c.R.toNat:=by
 obtain⟨h1,h2,h3,h4⟩:=ag2 h hm hi;obtain⟨t1,t2⟩:=hW.tk h;have n:=h.num;have nR:=n.R;have n1:=n.xtR;have nn:=n.n;have l5:(seg W (c.off 5) c.X.length).length=c.X.length:=fh (hW.in' h (i:=5) (by omega));have e1:(ux c W i).length=c.fl.n:=fh (by omega);have e2:(yY c W i).length=c.R.toNat:=fh (by omega);have e3:(fill c.R (seg W (c.off 5) c.X.length)).length=c.R.toNat:=pS (by omega);obtain⟨_,r2,r3⟩:=mL h.pl e2 e3 (t:=ux c W i) (Nat.le_of_eq e1.symm) (by omega);refine⟨?_,e1,e2,e3,r2,r3⟩;apply List.ext_getElem?;intro j;rw[ay1];by_cases hj:j<c.fl.n
 ·rw[zE (by omega),List.getElem?_append_left (by omega)];unfold ux;rw[ay1,zE hj]
 ·rw[List.getElem?_append_right (by omega),e1];unfold yY;rw[ay1];by_cases hj2:j<c.sl.toNat
  ·rw[zE hj2,zE (by omega)]
   congr 1
   omega
  ·rw[zF hj2,zF (by omega)]
theorem plain1 (h:c.Ok)(hm:c.mode=3){s:Dy}(hi:InvB c s){B:Int}(hc:Cnt B s)(hB:B≤2305843009213693952){a n:Int}:
  jj a n c.fixed c.tp c.sl c.ns c.mode c.R c.Q c.len c.words s.L s.p s.q s.c0 s.c1 s.c2 s.c3 s.z c.X c.T c.l c.k c.P c.tk s.lv s.pk c.words s.W=some (cJ1 c (plF c a n s)):=by
 have nm:=h.num;have hW:=hi.w;have hL:=hi.L;have hp:=hi.p;have hq:=hi.q;have hpk:=hi.pk;have hns:=h.ns;have nR:=nm.R;have n1:=nm.xtR;have nx:=nm.x;have nt:=nm.t;have nn:=nm.n;have nlen:=nm.len;obtain⟨k0,k1,k2,k3⟩:=hc.in' hB;obtain⟨g1,g2,g3,g4,g5,g6,g7⟩:=cj2 h hm hi;have htp:=nm.tp;rw[zE hm]at htp;obtain⟨t1,t2⟩:=hW.tk h;unfold jj plF;by_cases a8:a=8
 ·subst a8;rw[zB (show(8:Int)=8 from rfl),zA (show¬(8:Int)=5 by decide)];simp only[zC,zG,aB,zD,reduceIte];by_cases hn:n≠0
  ·rw[zE hn,zB hn];rfl
  rw[zF hn,zA hn];simp only[zD,zG];by_cases hq0:0≤s.q
  ·rw[zE hq0,zB hq0];rfl
  rw[zF hq0,zA hq0];simp only[zD,zG];by_cases hpl:s.p=s.L
  ·rw[zE hpl,zB hpl];rfl
  rw[zF hpl,zA hpl];simp only[BEq.rfl,aB,zD,zG,dT];have hheld:pV s=s.p:=by unfold pV;rw[zE (by omega)]
  have hlt:s.p.toNat<c.ns.toNat:=by omega
  have ep:s.p=((s.p.toNat:Nat):Int):=by omega
  obtain⟨s1,s2,s3,s4⟩:=ag2 h hm hlt;obtain⟨f1,f2,f3⟩:=gG h hW s.p;have w1:=tA h hW s.p;have hbd:=g5 (by rw[hheld];omega);rw[mI (by omega) g1 hbd (by omega)];simp only[zG];rw[cG3 h hW];simp only[zG];have hse:=bG7 h hm hlt (a0:=c.fixed) (a1:=c.tp) (a4:=c.ns) (a5:=c.mode) (a6:=c.R) (a7:=c.Q) (a8:=c.len) (a9:=c.words) (a10:=s.L) (a11:=s.p) (a12:=s.q) (a13:=s.c0) (a14:=IntKind.i64.wrap (s.c1+1)) (a15:=s.c2) (a16:=s.c3) (a17:=s.z) (X:=c.X) (T:=c.T) (l:=c.l) (k:=c.k) (b0:=c.tk) (b1:=s.lv+c.sl) (b2:=max s.pk (s.lv+c.sl)) (b3:=c.words) (W:=put s.W (c.off 2) (io c s.W s.p).1);rw[←ep]at hse;rw[hse];simp only[zG];have hla:((io c s.W s.p).2.1++(io c s.W s.p).1).length=c.sl.toNat:=by rw[aX];omega
  rw[dq (by omega) (by omega)];obtain⟨u1,u2⟩:=w1.tk h;unfold Cx.tk;rw[oF (by rw[hla];exact s3) u1 u2];simp only[zG];rw[il (by omega),dN,show((c.X.length:Int)).toNat-0=c.X.length by omega,List.drop_zero,show((c.off 9:Nat):Int)=c.tk from rfl,aK9 (ii:=1) (i:=1) h (w1.put h (by rw[hla];exact s3)) rfl (by omega) (by rw[aY,show c.sz 1=c.X.length from rfl];omega)];simp only[zG];rw[ck (n:=s.p+1) (by omega),ck (n:=s.c1+1) (by omega)];rfl
 rw[zA a8,zF a8];simp only[zD,zG];by_cases a5:a=5
 ·subst a5;rw[zB (show(5:Int)=5 from rfl)];simp only[zC,aB,zD,reduceIte];by_cases hn:n≠0
  ·rw[zE hn,zB hn];rfl
  rw[zF hn,zA hn];simp only[zD,zG];by_cases hq0:0≤s.q
  ·rw[zE hq0,zB hq0];rfl
  rw[zF hq0,zA hq0];simp only[zD,zG];by_cases hpl:s.p≠s.L
  ·rw[zE hpl,zA hpl];rfl
  rw[zF hpl,zB (show s.p=s.L by omega)];simp only[BEq.rfl,aB,zD,zG,dT];rw[cL5 h hW g1 hpk.1 (by omega) g3];simp only[zG];rw[ck (n:=s.c2+1) (by omega),ck (n:=s.c3+1) (by omega)];rfl
 rw[zA a5,zF a5];simp only[zD,Bool.not_false,zC];by_cases a9:a=9
 ·subst a9;rw[zA (show¬((9:Int)≠9)from fun k=>k rfl)];simp only[reduceIte];by_cases hn:n≠0
  ·rw[zE hn,zB hn];rfl
  rw[zF hn,zA hn];simp only[zD,zG];by_cases hq1:s.q<1
  ·rw[zE hq1,zB hq1];rfl
  rw[zF hq1,zA hq1];simp only[zD,zG,dT];have hheld:pV s=s.q:=by unfold pV;rw[zF (by omega)]
  have hlt:(s.q-1).toNat<c.ns.toNat:=by omega
  have ep:s.q-1=(((s.q-1).toNat:Nat):Int):=by omega
  obtain⟨s1,s2,s3,s4⟩:=ag2 h hm hlt;obtain⟨b1,b2,b3,b4,b5,b6⟩:=aF4 h hm hW hlt;rw[ck (n:=s.q-1) (by omega)];have hse:=bG7 h hm hlt (a0:=c.fixed) (a1:=c.tp) (a4:=c.ns) (a5:=c.mode) (a6:=c.R) (a7:=c.Q) (a8:=c.len) (a9:=c.words) (a10:=s.L) (a11:=s.q-1) (a12:=s.q-1) (a13:=s.c0) (a14:=s.c1) (a15:=s.c2) (a16:=s.c3) (a17:=s.z) (X:=c.X) (T:=c.T) (l:=c.l) (k:=c.k) (b0:=c.tk) (b1:=s.lv) (b2:=s.pk) (b3:=c.words) (W:=s.W);rw[←ep]at hse;rw[hse];simp only[zG]
  have hrd:eP (wQ c (s.q-1).toNat:Int) c.sl c.tk s.W=some (0,ux c s.W (s.q-1).toNat++yY c s.W (s.q-1).toNat):=by
   have:=yi (W:=s.W) (o:=wQ c (s.q-1).toNat) (n:=c.sl.toNat) s3 t1 t2;rw[aD (by omega),b1]at this;exact this
  rw[hrd];simp only[zG];generalize (s.q-1).toNat=i at*;have hlen:(ux c s.W i++yY c s.W i).length=c.fl.n+c.R.toNat:=by rw[aX];omega
  have hwr:IntKind.i64.wrap (((ux c s.W i++yY c s.W i).length:Int)-c.R)=(c.fl.n:Int):=by rw[hlen,ck (by omega)];omega
  simp only[hwr];rw[il (by omega),dN,il (by omega),dN,bZ9 (ii:=5) (i:=5) h hW rfl (by omega)];simp only[zG];have l5:(seg s.W (c.off 5) c.X.length).length=c.X.length:=fh (hW.in' h (i:=5) (by omega));rw[show c.sz 5=c.X.length from rfl,aN2 nR (by omega)];simp only[zG];rw[ai6 h.pl,h.pl.writes];simp only[zG];rw[zA (show¬((0:Int)≠0)by simp),zD];rw[zA (show¬((((((ux c s.W i++yY c s.W i).length:Int)).toNat-((c.fl.n:Int)).toNat:Nat):Int)≠c.R)by omega),zD,zA (show¬(((fill c.R (seg s.W (c.off 5) c.X.length)).length:Int)≠c.R)by omega),zD,zA (show¬(((((c.fl.n:Int)).toNat-0:Nat):Int)<(c.fl.n:Int))by omega),zD];obtain⟨z0,z1,z2,z3,z4,z5,z6,z7,hz⟩:=bN7 h.pl (e0:=0) (e1:=0) (t:=ux c s.W i) (r:=yY c s.W i) (a:=fill c.R (seg s.W (c.off 5) c.X.length)) (w:=ux c s.W i++yY c s.W i) b3 b4 (Nat.le_of_eq b2.symm) (by omega) (by rw[hlen,b2])
  rw[hz];simp only[zG];have eK:iX c.fl (yY c s.W i) (fill c.R (seg s.W (c.off 5) c.X.length)) (ux c s.W i)=aR5 c s.W i:=rfl;rw[eK];generalize aR5 c s.W i=q1 at*;obtain⟨v1,v2,v3⟩:=kC h (a:=q1.2.1) hW (by omega) (by omega);rw[aK9 (ii:=4) (i:=4) h hW rfl (by omega) (by rw[show c.sz 4=max c.R.toNat c.Q.toNat from rfl];omega)];simp only[zG];rw[il (by omega),dN,show((c.X.length:Int)).toNat-0=c.X.length by omega,List.drop_zero,aK9 (ii:=5) (i:=5) h v1 rfl (by omega) (by rw[aY,show c.sz 5=c.X.length from rfl];omega)];simp only[zG];rw[bZ9 (ii:=6) (i:=6) h v2 rfl (by omega)];simp only[zG];rw[show c.sz 6=c.T.length from rfl];have hg:(seg (put (put s.W (c.off 4) q1.2.1) (c.off 5) (q1.2.1.take c.X.length)) (c.off 6) c.T.length).length=c.T.length:=fh (v2.in' h (i:=6) (by omega));rw[au4 (f:=ol c.X q1.2.1 _) (X:=c.X) (a:=q1.2.1) (g:=seg (put (put s.W (c.off 4) q1.2.1) (c.off 5) (q1.2.1.take c.X.length)) (c.off 6) c.T.length) (by omega) (by omega) (by omega) (fun s=>rfl)]
  simp only[zG];rw[aK9 (ii:=6) (i:=6) h v2 rfl (by omega) (by rw[wD,hg];exact Nat.le_refl _)];simp only[zG];have hlen2:(ux c s.W i++q1.1).length=c.fl.n+c.R.toNat:=by rw[aX];omega
  rw[ck (n:=(c.fl.n:Int)+(c.X.length:Int)) (by omega),il (by omega),dN,show((c.fl.n:Int)+(c.X.length:Int)).toNat-((c.fl.n:Int)).toNat=c.X.length by omega,Int.toNat_natCast];have hdr:(ux c s.W i++q1.1).drop c.fl.n=q1.1:=List.drop_left' b2;rw[hdr];have eB:put (put (put s.W (c.off 4) q1.2.1) (c.off 5) (q1.2.1.take c.X.length)) (c.off 6) (bJ9 c.X.length (seg (put (put s.W (c.off 4) q1.2.1) (c.off 5) (q1.2.1.take c.X.length)) (c.off 6) c.T.length) q1.2.1)=ad7 c s.W q1.2.1:=rfl;rw[eB,aK9 (ii:=1) (i:=1) h v3 rfl (by omega) (by rw[aY,show c.sz 1=c.X.length from rfl];omega)];simp only[zG];rw[qE (by omega) (g6 (by rw[hheld];omega)) hpk.1 (by omega)];simp only[zG];rw[ck (n:=s.c3+1) (by omega)];rfl
 rw[zF a9,zB a9];by_cases hn:n≠0
 ·rw[zB hn];rfl
 ·rw[zA hn];rfl
end
end
section
open Int renaming le_refl → aD, mul_comm → aW
open List renaming getElem?_replicate → aY
open Nat renaming le_refl → aB, zero_add → aX
theorem cc1 {m:Int}{x t:Nat}{R:Int}{l:List dR}{Q:Int}{k:List dR}{n b:Int}(hl:OpsOk l)(hk:OpsOk k)(h:(mJ m x t R l Q k n b).2.2.2.2=0):
  wK m x t R l Q k n b=0∧∃ns,mJ m x t R l Q k n b=(rJ x t R Q,pY m l k,pX m x R l,ns,0)∧(0≤ns∧ns≤1048576)∧rJ x t R Q+pY m l k+pX m x R l*ns≤b∧(m=3→ns=n):=by
 unfold mJ at h⊢;by_cases hc:wK m x t R l Q k n b≠0
 ·rw[zE hc]at h;exact(hc h).elim
 rw[zF hc]at h⊢;have hc:wK m x t R l Q k n b=0:=by omega
 have s:=bv2 hl hk hc;have f:=aU3 hl hk hc;have g1:=f.mode;have g2:=f.len;have g3:=f.bud;have g4:=s.xs;have g5:=s.ts;have g6:=s.r;have g7:=s.r';have g8:=s.tp;have g9:=s.sl;have hfx:0≤rJ x t R Q∧rJ x t R Q≤1000:=by unfold rJ;omega
 split at h
 ·cases h
 rename_i c;rw[zF c];refine⟨hc,_,rfl, ?_, ?_,fun h3=>zE h3⟩
 ·split
  ·omega
  ·rename_i c3;unfold least at c;rw[zF c3]at c;have hd2:(b-rJ x t R Q-pY m l k) / pX m x R l≤b-rJ x t R Q-pY m l k:=Int.ediv_le_self _ (by omega);have hd1:0≤(b-rJ x t R Q-pY m l k) / pX m x R l:=Int.ediv_nonneg (by omega) (by omega);omega
 ·unfold least at c;split
  ·rename_i c3;rw[zE c3,aW]at c;omega
  ·rename_i c3;rw[zF c3]at c;have:=Int.mul_ediv_self_le (x:=b-rJ x t R Q-pY m l k) (k:=pX m x R l) (by omega);omega
theorem cO1 {m:Int}{X T:List Int}{R:Int}{l:List dR}{Q:Int}{k:List dR}{n b:Int}(hl:OpsOk l)(hk:OpsOk k)(h:(mJ m X.length T.length R l Q k n b).2.2.2.2=0):
  ∃c:Cx,c.Ok∧c.mode=m∧c.X=X∧c.T=T∧c.R=R∧c.l=l∧c.Q=Q∧c.k=k∧c.len=n∧c.words=b∧mJ m X.length T.length R l Q k n b=(c.fixed,c.tp,c.sl,c.ns,0):=by
 obtain⟨hc,ns,h1,h2,h3,h4⟩:=cc1 hl hk h;obtain⟨h5,h6⟩:=cb9 (bg8 hc).1;obtain⟨fl,hfl⟩:=cm2 hl h5;obtain⟨fk,hfk⟩:=cm2 hk h6;exact⟨⟨m,R,Q,n,b,X,T,l,k,fl,fk,rJ X.length T.length R Q,pY m l k,pX m X.length R l,ns⟩,⟨hl,hk,hc,hfl,hfk,rfl,rfl,rfl,h2,h3,h4⟩,rfl,rfl,rfl,rfl,rfl,rfl,rfl,rfl,rfl,h1⟩
section
variable {c:Cx}
theorem Cx.Ok.plan (h:c.Ok):mJ c.mode c.X.length c.T.length c.R c.l c.Q c.k c.len c.words=(c.fixed,c.tp,c.sl,c.ns,0)→mp c.mode c.X c.T c.R c.l c.Q c.k c.len c.words=some (c.fixed,c.tp,c.sl,c.ns,0):=fun e=>by
 rw[bi5 h.hl h.hk,e]
theorem cw6 (h:c.Ok): ∀i,i<10→pre [((c.T.length:Nat):Int),((c.X.length:Nat):Int),c.R,c.Q,max c.R c.Q,((c.X.length:Nat):Int),((c.T.length:Nat):Int),c.tp,c.sl*c.ns] i=(c.off i:Int):=by
 have n:=h.num;have nR:=n.R;have nQ:=n.Q;have nm:=n.mul;have htp:0≤c.tp:=by rw[n.tp];split<;>omega
 have hs: ∀i,i<9→([((c.T.length:Nat):Int),((c.X.length:Nat):Int),c.R,c.Q,max c.R c.Q,((c.X.length:Nat):Int),((c.T.length:Nat):Int),c.tp,c.sl*c.ns]:List Int).getD i 0=(c.sz i:Int):=fun i hi=>by
  rcases(show i=0∨i=1∨i=2∨i=3∨i=4∨i=5∨i=6∨i=7∨i=8 by omega)with rfl|rfl|rfl|rfl|rfl|rfl|rfl|rfl|rfl
  ·rfl
  ·rfl
  ·show c.R=(c.R.toNat:Int);omega
  ·show c.Q=(c.Q.toNat:Int);omega
  ·show max c.R c.Q=((max c.R.toNat c.Q.toNat:Nat):Int);omega
  ·rfl
  ·rfl
  ·show c.tp=(c.tp.toNat:Int);omega
  ·show c.sl*c.ns=((c.sl*c.ns).toNat:Int);omega
 intro i;induction i with
 |zero=>intro _;rfl
 |succ i ih=>
  intro hi;simp only[pre];rw[ih (by omega),hs i (by omega)];show(c.off i:Int)+(c.sz i:Int)=((c.off i+c.sz i:Nat):Int);omega
theorem bN6 (h:c.Ok)(e:mJ c.mode c.X.length c.T.length c.R c.l c.Q c.k c.len c.words=(c.fixed,c.tp,c.sl,c.ns,0)):qL c.mode c.X c.T c.R c.l c.Q c.k c.len c.words=some (0,c.P):=by
 have s:=bv2 h.hl h.hk h.hc;have s':SFacts c.X.length c.T.length c.R c.Q c.tp c.sl:=by rw[h.tp,h.sl];exact s
 unfold qL;rw[h.plan e];simp only[zG];rw[zA (by simp),zD,aV9 h.hl h.hk h.hc];simp only[zG];have hb:=bP0 (n:=c.ns) s' h.ns;rw[←h.tp,←h.sl,bE2 hb];simp only[zG]
 congr 2
 unfold Cx.P;apply List.map_congr_left;intro i hi;exact cw6 h i (List.mem_range.1 hi)
theorem bf7 {l:List dR}(h:l.length≤4096):eX l=some l:=by
 unfold eX;rw[dq (by omega) (by omega)]
theorem aF6 {l:List Int}(h:l.length≤1048576):dg l=some l:=by
 unfold dg;rw[dq (by omega) (by omega)]
theorem bE3 (h:c.Ok)(e:mJ c.mode c.X.length c.T.length c.R c.l c.Q c.k c.len c.words=(c.fixed,c.tp,c.sl,c.ns,0)):
  iK c.mode c.X c.T c.R c.l c.Q c.k c.len c.words=some (.inr (c.fixed,c.tp,c.sl,c.ns,c.mode,c.R,c.Q,c.len,c.words,c.len,c.X,c.T,c.l,c.k,c.P)):=by
 have n:=h.num;have nx:=n.x;have nt:=n.t;unfold iK;rw[h.plan e];simp only[zG];rw[zA (by simp),zD,bf7 h.hl.len,bf7 h.hk.len,aF6 (by omega),aF6 (by omega)];simp only[zG];rw[bN6 h e];rfl
def ck5 (c:Cx)(W:List Int):List Int:=put (put W (c.off 0) c.T) (c.off 1) c.X
def new1 (c:Cx):Dy:=⟨c.len,0,-1,0,0,0,0,0,c.fixed,c.fixed,ck5 c (fQ c.words.toNat)⟩
def new2 (c:Cx):Dy:=⟨c.len,0,-1,0,0,0,0,0,c.fixed,c.fixed,ck5 c (put (fQ c.words.toNat) (c.off 8) (fQ (c.sl*c.ns).toNat))⟩
theorem ah6 :Wd c (fQ c.words.toNat):=dW _
theorem av7 (h:c.Ok):0≤c.fixed∧c.fixed≤c.words∧1≤c.fixed∧c.fixed=(c.off 7:Int):=by
 have n:=h.num;have nR:=n.R;have nQ:=n.Q;have nf:=n.fixed;have nm:=n.mul;have ft:=h.fit;have htp:0≤c.tp:=by rw[n.tp];split<;>omega
 refine⟨by omega,by omega,by omega, ?_⟩;rw[cL0,nf];omega
theorem aM6 (h:c.Ok){W:List Int}(hW:Wd c W):Wd c (put W (c.off 0) c.T)∧Wd c (ck5 c W)∧fA c W (ck5 c W):=by
 have h0:=lr (c:=c) (i:=0) (j:=9) (by omega);have h1:=lr (c:=c) (i:=1) (j:=9) (by omega);have z0:c.sz 0=c.T.length:=rfl;have z1:c.sz 1=c.X.length:=rfl;have w1:=hW.put h (w:=c.T) (o:=c.off 0) (by omega);have w2:=w1.put h (w:=c.X) (o:=c.off 1) (by omega);exact⟨w1,w2,fA.put h (fA.put h (fA.refl W) hW (i:=0) (by omega) (Nat.le_of_eq z0.symm)) w1 (i:=1) (by omega) (Nat.le_of_eq z1.symm)⟩
theorem bf3 (h:c.Ok):qY c.words=some (fQ c.words.toNat):=by
 have f:=av7 h;have n:=h.num;have nw:=n.words;unfold qY vt;rw[zA (by omega),zD,zA (by omega),zD];simp only[zG];rw[zA (by simp),zD,gdz (by omega)];rfl
theorem bh6 (h:c.Ok):uY c.words=some (0,0,c.words):=by
 have n:=h.num;have nw:=n.words;unfold uY an7;rw[zA (show¬(0:Int)<0 by omega),zA (show¬c.words<0 by omega)];rfl
theorem aN1 {o n:Nat}{W:List Int}(h:o+n≤W.length)(hw:W.length≤1048576):eQ (n:Int) (o:Int) W=some ((o:Int),0,((o+n:Nat):Int)):=by
 unfold eQ oc;rw[zA (by omega),zD];simp only[zG];rw[ck (n:=(W.length:Int)-o) (by omega),zA (by omega),zD,ck (n:=(o:Int)+n) (by omega)]
 congr 2
theorem cN1 (h:c.Ok)(hm:c.mode=3)(e:mJ c.mode c.X.length c.T.length c.R c.l c.Q c.k c.len c.words=(c.fixed,c.tp,c.sl,c.ns,0)):
  mg c.mode c.X c.T c.R c.l c.Q c.k c.len c.words=some (.inr (.inl (c.fixed,c.tp,c.sl,c.ns,c.mode,c.R,c.Q,c.len,c.words,c.len,c.X,c.T,c.l,c.k,c.P,c.tk,c.fixed,c.fixed,c.words,(new1 c).W))):=by
 have f:=av7 h;have n:=h.num;have nw:=n.words;have nm:=n.mul;have h9:=h.off9_le;have h89:c.off 9=c.off 8+(c.sl*c.ns).toNat:=bN2;have hzl:(fQ c.words.toNat).length=c.words.toNat:=dW _;obtain⟨w1,w2,w3⟩:=aM6 h (ah6 (c:=c));unfold mg;rw[bE3 h e];simp only[zG,dT];rw[bf3 h,bh6 h];simp only[zG];rw[mI (by omega) (by omega) (by omega) (by omega)];simp only[zG];rw[show ix 8 c.P.length=some 8 from dp (k:=8) (by rw[Cx.P_len];omega)];simp only[zG];rw[Cx.P_get (show 8<10 by omega)];simp only[zG];rw[show eQ (c.off 8:Int) 0 (fQ c.words.toNat)=some (((0:Nat):Int),0,((0+c.off 8:Nat):Int))from aN1 (o:=0) (n:=c.off 8) (by rw[aX,hzl];omega) (by omega)];unfold gc;simp only[zG];rw[zB hm,zC,aW,ck (n:=c.sl*c.ns) (by omega),show c.sl*c.ns=((c.sl*c.ns).toNat:Int)by omega,aN1 (by omega) (by omega)]
 simp only[zG,ik];have etk:((0+c.off 8+(c.sl*c.ns).toNat:Nat):Int)=c.tk:=by unfold Cx.tk;omega
 rw[etk,aK9 (ii:=0) (i:=0) h ah6 rfl (by omega) (aB _)];simp only[zG];rw[aK9 (ii:=1) (i:=1) h w1 rfl (by omega) (aB _)];simp only[zG];have ef:(0:Int)+c.fixed=c.fixed:=by omega
 have em:max (0:Int) c.fixed=c.fixed:=by omega
 rw[ef,em];rfl
theorem cH9 (h:c.Ok)(hm:c.mode≠3)(e:mJ c.mode c.X.length c.T.length c.R c.l c.Q c.k c.len c.words=(c.fixed,c.tp,c.sl,c.ns,0)):
  mg c.mode c.X c.T c.R c.l c.Q c.k c.len c.words=some (.inr (.inr (c.fixed,c.tp,c.sl,c.ns,c.mode,c.R,c.Q,c.len,c.words,c.len,c.X,c.T,c.l,c.k,c.P,c.tk,(c.off 8:Int),c.ns,(c.X.length:Int),c.fixed,c.fixed,c.words,(new2 c).W))):=by
 have f:=av7 h;have n:=h.num;have nw:=n.words;have nm:=n.mul;have nx:=n.x;have nns:=h.ns;have h9:=h.off9_le;have h89:c.off 9=c.off 8+(c.sl*c.ns).toNat:=bN2;have hzl:(fQ c.words.toNat).length=c.words.toNat:=dW _;have hsl:=n.sl;rw[zF hm]at hsl;have w0:Wd c (put (fQ c.words.toNat) (c.off 8) (fQ (c.sl*c.ns).toNat)):=(ah6 (c:=c)).put h (by rw[dW];omega);obtain⟨w1,w2,w3⟩:=aM6 h w0;unfold mg;rw[bE3 h e];simp only[zG,dT];rw[bf3 h,bh6 h];simp only[zG];rw[mI (by omega) (by omega) (by omega) (by omega)];simp only[zG];rw[show ix 8 c.P.length=some 8 from dp (k:=8) (by rw[Cx.P_len];omega)];simp only[zG];rw[Cx.P_get (show 8<10 by omega)];simp only[zG];rw[show eQ (c.off 8:Int) 0 (fQ c.words.toNat)=some (((0:Nat):Int),0,((0+c.off 8:Nat):Int))from aN1 (o:=0) (n:=c.off 8) (by rw[aX,hzl];omega) (by omega)];unfold gc
 simp only[zG];rw[zA hm,zD];unfold zZ pq fy;rw[zB (show 0≤c.ns by omega),zB (show c.ns≤1048576 by omega),zB (show 1≤(c.X.length:Int)by omega),zB (show(c.X.length:Int)≤64 by omega)];simp only[zC,zD,Bool.not_true,zG];rw[ck (n:=(c.X.length:Int)+1) (by omega),←hsl,aW c.ns,ck (n:=c.sl*c.ns) (by omega)];have esn:c.sl*c.ns=(((c.sl*c.ns).toNat:Nat):Int):=by omega
 rw[show eQ (c.sl*c.ns) ((0+c.off 8:Nat):Int) (fQ c.words.toNat)=some (((0+c.off 8:Nat):Int),0,((0+c.off 8+(c.sl*c.ns).toNat:Nat):Int))from by
  conv=>lhs;rw[esn]
  exact aN1 (by omega) (by omega)]
 simp only[zG];rw[zA (by simp),zD,gdz (by omega),show List.replicate (c.sl*c.ns).toNat (0:Int)=fQ (c.sl*c.ns).toNat from rfl,oF (by rw[dW];exact aB _) (by omega) (by omega),aX];simp only[zG,dT];have etk:((c.off 8+(c.sl*c.ns).toNat:Nat):Int)=c.tk:=by unfold Cx.tk;omega
 rw[etk,aC8 (ii:=0) (i:=0) h w0 rfl (by omega) (aB _)];simp only[zG];rw[aC8 (ii:=1) (i:=1) h w1 rfl (by omega) (aB _)];simp only[zG];have ef:(0:Int)+c.fixed=c.fixed:=by omega
 have em:max (0:Int) c.fixed=c.fixed:=by omega
 rw[ef,em];rfl
theorem aV4 (h:c.Ok)(hm:c.mode≠3){k:Nat}(hk:k<c.ns.toNat):hY c (new2 c).W k=0:=by
 have h9:=h.off9_le;have nw:=h.num.words;have h89:c.off 9=c.off 8+(c.sl*c.ns).toNat:=bN2;have w0:Wd c (put (fQ c.words.toNat) (c.off 8) (fQ (c.sl*c.ns).toNat)):=(ah6 (c:=c)).put h (by rw[dW];omega);obtain⟨w1,w2,w3⟩:=aM6 h w0;show hY c (ck5 c _) k=0;rw[w3.tag];obtain⟨s1,_,_⟩:=uw h hm hk;unfold hY rg;rw[Int.toNat_natCast,List.getD_eq_getElem?_getD,bu4 (by rw[dW,dW];omega)];unfold fQ;split
 ·rw[aY];split<;>rfl
 ·rw[aY];split<;>rfl
theorem ck4 (h:c.Ok)(hm:c.mode≠3):Inv c (new2 c):=by
 have f:=av7 h;have n:=h.num;have nl:=n.len;have nw:=n.words;have h9:=h.off9_le;have h89:c.off 9=c.off 8+(c.sl*c.ns).toNat:=bN2;have w0:Wd c (put (fQ c.words.toNat) (c.off 8) (fQ (c.sl*c.ns).toNat)):=(ah6 (c:=c)).put h (by rw[dW];omega)
 have hu:jA c (new2 c).W=0:=by
  unfold jA;rw[List.countP_eq_zero];intro k hk;rw[aV4 h hm (List.mem_range.1 hk)];decide
 refine⟨(aM6 h w0).2.1,⟨by show 0≤c.len;omega,by show c.len≤65535;omega⟩,⟨aD _,by show 0≤c.len;omega⟩,⟨by show(-1:Int)≤ -1;omega,by show(-1:Int)≤c.len;omega⟩,fun k hk=> ?_, ?_,⟨aD _,f.2.1⟩⟩
 ·rw[aV4 h hm hk];exact⟨aD _,by show(0:Int)≤c.len+1;omega⟩
 ·rw[hu];show c.fixed=c.fixed+c.sl*0;omega
end
end
section
section
variable {c:Cx}
def bx8 (c:Cx)(s:Dy):Prop:=c.mode≠2→s.L=c.len
end
end
end Go.V
