/- A part of the proofs of this claim: what functions of the program answer on an abstract machine, and plain laws. No condition. -/
import Derived.Test.YtbocegmeciaanaaGreatL1
set_option linter.unusedVariables false
set_option linter.unusedSimpArgs false
set_option linter.unusedSectionVars false
namespace Go.V
open Go.Ab
section
open Go.IntKind renaming wrap → zH, i64 → zI, u64 → zJ
open Int renaming toNat_natCast → aB
open List renaming getElem?_eq_getElem → aD
set_option maxRecDepth 100000
theorem vj (f:Nat→Int): ∀{j:Nat},j<8→List.getD [f 0,f 1,f 2,f 3,f 4,f 5,f 6,f 7] j 0=f j
 |0,_=>rfl
 |1,_=>rfl
 |2,_=>rfl
 |3,_=>rfl
 |4,_=>rfl
 |5,_=>rfl
 |6,_=>rfl
 |7,_=>rfl
 |n+8,h=>by omega
def app (o:cu)(x y:Int):Int:=
 if o.1=1 then zH zJ (x+y)else if o.1=2 then zH zJ (x-y)else if o.1=3 then zH zJ (x*y)else if o.1=4 then zH zJ (0-x)else if o.1=5 then o.2.2.2.2 else if o.1=6 then x else 0
theorem aI0 (o:cu)(x y:Int):oS o.1 o.2.1 o.2.2.1 o.2.2.2.1 o.2.2.2.2 x y=some (app o x y):=by
 unfold oS app;simp only[br]
 repeat' split
 all_goals rfl
def inR (R:Nat)(o:cu):Prop:=(0≤o.2.1∧o.2.1<R)∧(0≤o.2.2.1∧o.2.2.1<R)∧0≤o.2.2.2.1∧o.2.2.2.1<R
theorem vU {R:Nat}{o:cu}(h:inR R o): ∃d a b:Nat,o.2.1=d∧o.2.2.1=a∧o.2.2.2.1=b∧d<R∧a<R∧b<R:=by
 unfold inR at h;exact⟨o.2.1.toNat,o.2.2.1.toNat,o.2.2.2.1.toNat,by omega,by omega,by omega,by omega,by omega,by omega⟩
def rg (r:List Int)(k:Int):Int:=r.getD k.toNat 0
theorem du {r:List Int}{k:Nat}(h:k<r.length):r[k]?=some (rg r (k:Int)):=by
 unfold rg;rw[aB,aD h,List.getD_eq_getElem?_getD,aD h];rfl
abbrev TS :=List Int×List Int×Nat
def mq (o:cu)(s:TS):TS:=(s.1.set o.2.1.toNat (app o (rg s.1 o.2.2.1) (rg s.1 o.2.2.2.1)),s.2.1.set s.2.2 (rg s.1 o.2.1),s.2.2+1)
def VdT (R N:Nat)(m:Nat)(s:TS):Prop:=s.1.length=R∧s.2.1.length=N∧s.2.2+m≤N
def stT (p d:Nat)(l:Nat→Int)(s:TS):Int×Int×Int×(List Int)×(List Int)×Int×Int×Int×Int×Int×Int×Int×Int:=
 ((p:Int),(s.2.2:Int),(d:Int),s.1,s.2.1,l 0,l 1,l 2,l 3,l 4,l 5,l 6,l 7)
theorem lG {code:List uK}{p:Nat}{x:uK}(hc:code.length≤1000)(h:code[p]?=some x):p<code.length∧ix (p:Int) code.length=some p:=by
 have:=(List.getElem?_eq_some_iff.1 h).1;exact⟨this,cd this⟩
theorem cr6 {code:List uK}(hc:code.length≤1000){R N:Nat}(hN:N≤1000000):Runs (ll code) code stT mq (VdT R N) (inR R)where
 op:=by
  intro p d l s m o to h hg hk hd hv;obtain⟨h1,h2⟩:=lG hc h;obtain⟨kd,ka,kb,e1,e2,e3,g1,g2,g3⟩:=vU hg;obtain⟨v1,v2,v3⟩:=hv;refine⟨?_,by unfold mq;exact⟨by simp[v1],by simp[v2],by show s.2.2+1+m≤N;omega⟩⟩;unfold stT mq;simp only[ll];rw[zA (by omega),zD,h2];simp only[zG];rw[h];simp only[zG,de];rw[zA (by omega),zD,zA (by omega),zD];simp only[aI0,zG];rw[e1,e2,e3,cd (show kd<s.1.length by omega)];simp only[zG];rw[du (show kd<s.1.length by omega)];simp only[zG];rw[cd (show s.2.2<s.2.1.length by omega)];simp only[zG];rw[du (show s.2.2<s.2.1.length by omega)];simp only[zG];rw[cd (show ka<s.1.length by omega)];simp only[zG];rw[du (show ka<s.1.length by omega)];simp only[zG];rw[cd (show kb<s.1.length by omega)];simp only[zG];rw[du (show kb<s.1.length by omega)]
  simp only[zG];rw[bk (n:=(p:Int)+1) (by omega),bk (n:=(s.2.2:Int)+1) (by omega)];rfl
 rep:=by
  intro p d l s m o to h hk hd hv;obtain⟨h1,h2⟩:=lG hc h;unfold stT;simp only[ll];rw[zA (by omega),zD,h2];simp only[zG];rw[h];simp only[zG,de];rw[zB hk,zC,cd hd];simp only[zG];rw[bk (n:=(p:Int)+1) (by omega),bk (n:=(d:Int)+1) (by omega)];rfl
 nxt:=by
  intro p d l s m e to h hk hd hl hl2 hv;obtain⟨h1,h2⟩:=lG hc h;have h8:=vj (upd l d (l d-1)) hd;rw[oe]at h8;unfold upd at h8;unfold stT;simp only[ll];rw[zA (by omega),zD,h2];simp only[zG];rw[h];simp only[zG,de];rw[zA (by omega),zD,zB hk,zC,bk (n:=((d+1:Nat):Int)-1) (by omega),show((d+1:Nat):Int)-1=(d:Int)by omega,cd hd];simp only[zG];rw[vj l hd,qv (by omega),h8,zB (by omega),zC];rfl
 out:=by
  intro p d l s m e to h hk hd hl hv;obtain⟨h1,h2⟩:=lG hc h;have h8:=vj (upd l d (l d-1)) hd;rw[oe]at h8;unfold upd at h8;unfold stT;simp only[ll];rw[zA (by omega),zD,h2];simp only[zG];rw[h];simp only[zG,de];rw[zA (by omega),zD,zB hk,zC,bk (n:=((d+1:Nat):Int)-1) (by omega),show((d+1:Nat):Int)-1=(d:Int)by omega,cd hd];simp only[zG];rw[vj l hd,qv (by omega),h8,zA (by omega),zD,bk (n:=(p:Int)+1) (by omega)];rfl
abbrev FS :=List Int×Nat
def ag4 (o:cu)(s:FS):FS:=(s.1.set o.2.1.toNat (app o (rg s.1 o.2.2.1) (rg s.1 o.2.2.2.1)),s.2+1)
def VdF (R M:Nat)(m:Nat)(s:FS):Prop:=s.1.length=R∧s.2+m≤M
def stF (p d:Nat)(l:Nat→Int)(s:FS):Int×Int×Int×(List Int)×Int×Int×Int×Int×Int×Int×Int×Int:=
 ((p:Int),(s.2:Int),(d:Int),s.1,l 0,l 1,l 2,l 3,l 4,l 5,l 6,l 7)
theorem cC2 {code:List uK}(hc:code.length≤1000){R M:Nat}(hM:M≤1000000):Runs (jz (-1) code) code stF ag4 (VdF R M) (inR R)where
 op:=by
  intro p d l s m o to h hg hk hd hv;obtain⟨h1,h2⟩:=lG hc h;obtain⟨kd,ka,kb,e1,e2,e3,g1,g2,g3⟩:=vU hg;obtain⟨v1,v2⟩:=hv;refine⟨?_,by unfold ag4;exact⟨by simp[v1],by show s.2+1+m≤M;omega⟩⟩;unfold stF ag4;simp only[jz];rw[zA (show¬((p:Int)=(code.length:Int))by omega),zD,zA (show¬((s.2:Int)= -1)by omega),zD,h2];simp only[zG];rw[h];simp only[zG,de];rw[zA (by omega),zD,zA (by omega),zD];simp only[aI0,uF,zG];rw[e1,e2,e3,cd (show ka<s.1.length by omega)];simp only[zG];rw[du (show ka<s.1.length by omega)];simp only[zG];rw[cd (show kb<s.1.length by omega)];simp only[zG];rw[du (show kb<s.1.length by omega)];simp only[zG];rw[cd (show kd<s.1.length by omega)];simp only[zG];rw[du (show kd<s.1.length by omega)];simp only[zG]
  rw[bk (n:=(p:Int)+1) (by omega),bk (n:=(s.2:Int)+1) (by omega)];rfl
 rep:=by
  intro p d l s m o to h hk hd hv;obtain⟨h1,h2⟩:=lG hc h;unfold stF;simp only[jz];rw[zA (show¬((p:Int)=(code.length:Int))by omega),zD,zA (show¬((s.2:Int)= -1)by omega),zD,h2];simp only[zG];rw[h];simp only[zG,de];rw[zB hk,zC,cd hd];simp only[zG];rw[bk (n:=(p:Int)+1) (by omega),bk (n:=(d:Int)+1) (by omega)];rfl
 nxt:=by
  intro p d l s m e to h hk hd hl hl2 hv;obtain⟨h1,h2⟩:=lG hc h;have h8:=vj (upd l d (l d-1)) hd;rw[oe]at h8;unfold upd at h8;unfold stF;simp only[jz];rw[zA (show¬((p:Int)=(code.length:Int))by omega),zD,zA (show¬((s.2:Int)= -1)by omega),zD,h2];simp only[zG];rw[h];simp only[zG,de];rw[zA (by omega),zD,zB hk,zC,bk (n:=((d+1:Nat):Int)-1) (by omega),show((d+1:Nat):Int)-1=(d:Int)by omega,cd hd];simp only[zG];rw[vj l hd,qv (by omega),h8,zB (by omega),zC];rfl
 out:=by
  intro p d l s m e to h hk hd hl hv;obtain⟨h1,h2⟩:=lG hc h;have h8:=vj (upd l d (l d-1)) hd;rw[oe]at h8;unfold upd at h8;unfold stF;simp only[jz];rw[zA (show¬((p:Int)=(code.length:Int))by omega),zD,zA (show¬((s.2:Int)= -1)by omega),zD,h2];simp only[zG];rw[h];simp only[zG,de];rw[zA (by omega),zD,zB hk,zC,bk (n:=((d+1:Nat):Int)-1) (by omega),show((d+1:Nat):Int)-1=(d:Int)by omega,cd hd];simp only[zG];rw[vj l hd,qv (by omega),h8,zA (by omega),zD,bk (n:=(p:Int)+1) (by omega)];rfl
def par (o:cu)(x y:Int):Int×Int:=
 if o.1=1 then(1,1)else if o.1=2 then(1,18446744073709551615)else if o.1=3 then(y,x)else if o.1=4 then(18446744073709551615,0)else if o.1=6 then(1,0)else(0,0)
theorem ai0 (o:cu)(x y:Int):lU o.1 o.2.1 o.2.2.1 o.2.2.2.1 o.2.2.2.2 x y=some (par o x y):=by
 unfold lU par;simp only[br]
 repeat' split
 all_goals rfl
def aI4 (o:cu)(r a:List Int)(t:Int):List Int×List Int:=
 let g:=rg a o.2.1
 let r1:=r.set o.2.1.toNat t
 let a1:=a.set o.2.1.toNat 0
 let q:=par o (rg r1 o.2.2.1) (rg r1 o.2.2.2.1)
 let a2:=a1.set o.2.2.1.toNat (zH zJ (rg a1 o.2.2.1+zH zJ (q.1*g)))
 (r1,a2.set o.2.2.2.1.toNat (zH zJ (rg a2 o.2.2.2.1+zH zJ (q.2*g))))
theorem cf1 {o:cu}{r a t:List Int}{n:Nat}(hg:inR r.length o)(ha:a.length=r.length)(hn:n<t.length):
  nI o.1 o.2.1 o.2.2.1 o.2.2.2.1 o.2.2.2.2 (n:Int) r a t=some (aI4 o r a (rg t (n:Int))):=by
 obtain⟨kd,ka,kb,e1,e2,e3,g1,g2,g3⟩:=vU hg;unfold nI;simp only[ai0,zG];unfold aI4;simp only[e1,e2,e3,aB];rw[cd (show kd<a.length by omega)];simp only[zG];rw[du (show kd<a.length by omega)];simp only[zG];rw[cd hn];simp only[zG];rw[du hn];simp only[zG];rw[cd g1];simp only[zG];rw[du g1];simp only[zG];have hr1: ∀x:Int,(r.set kd x).length=r.length:=by simp
 have ha1:(a.set kd 0).length=a.length:=by simp
 rw[cd (show ka<(r.set kd (rg t (n:Int))).length by rw[hr1];omega)];simp only[zG];rw[du (show ka<(r.set kd (rg t (n:Int))).length by rw[hr1];omega)];simp only[zG];rw[cd (show kb<(r.set kd (rg t (n:Int))).length by rw[hr1];omega)];simp only[zG];rw[du (show kb<(r.set kd (rg t (n:Int))).length by rw[hr1];omega)];simp only[zG];rw[cd (show ka<(a.set kd 0).length by omega)];simp only[zG];rw[du (show ka<(a.set kd 0).length by omega)];simp only[zG];generalize hP:par o _ _=P;generalize hA:(a.set kd 0).set ka _=A2;have hA2:A2.length=a.length:=by rw[←hA];simp
 rw[cd (show kb<A2.length by omega)];simp only[zG];rw[du (show kb<A2.length by omega)];simp only[zG]
abbrev BS :=List Int×List Int×Nat
def nT (t:List Int)(o:cu)(s:BS):BS:=((aI4 o s.1 s.2.1 (rg t ((s.2.2-1:Nat):Int))).1,(aI4 o s.1 s.2.1 (rg t ((s.2.2-1:Nat):Int))).2,s.2.2-1)
def VdB (R N:Nat)(m:Nat)(s:BS):Prop:=s.1.length=R∧s.2.1.length=R∧m≤s.2.2∧s.2.2≤N
def stB (p d:Nat)(l:Nat→Int)(s:BS):Int×Int×Int×(List Int)×(List Int)×Int×Int×Int×Int×Int×Int×Int×Int:=
 ((p:Int)-1,(d:Int),(s.2.2:Int),s.1,s.2.1,l 0,l 1,l 2,l 3,l 4,l 5,l 6,l 7)
theorem bh3 (o:cu)(r a:List Int)(t:Int):(aI4 o r a t).1.length=r.length∧(aI4 o r a t).2.length=a.length:=by
 unfold aI4;simp
theorem dc3 {code:List uK}(hc:code.length≤1000){R:Nat}{t:List Int}(hN:t.length≤1000000):Backs (gu t code) code stB (nT t) (VdB R t.length) (inR R)where
 op:=by
  intro p d l s m o to h hg hk hd hv;obtain⟨h1,h2⟩:=lG hc h;obtain⟨v1,v2,v3,v4⟩:=hv;obtain⟨q1,q2⟩:=bh3 o s.1 s.2.1 (rg t ((s.2.2-1:Nat):Int));refine⟨?_,by unfold nT;exact⟨by simp[v1,q1],by simp[v2,q2],by show m≤s.2.2-1;omega,by show s.2.2-1≤_;omega⟩⟩;unfold stB nT;simp only[gu];rw[show((p+1:Nat):Int)-1=(p:Int)by omega,zA (by omega),zD,h2];simp only[zG];rw[h];simp only[zG,de];rw[zA (by omega),zD,zA (by omega),zD,bk (n:=(s.2.2:Int)-1) (by omega),show(s.2.2:Int)-1=((s.2.2-1:Nat):Int)by omega,cf1 (by rw[v1];exact hg) (by omega) (by omega)];simp only[zG];rw[bk (n:=(p:Int)-1) (by omega)]
 rep:=by
  intro p q d l s m o e to h hk h' hd hv;obtain⟨h1,h2⟩:=lG hc h;obtain⟨h3,h4⟩:=lG hc h';unfold stB;simp only[gu];rw[show((p+1:Nat):Int)-1=(p:Int)by omega,zA (by omega),zD,h2];simp only[zG];rw[h];simp only[zG,de];rw[zB hk,zC,bk (n:=((q+1:Nat):Int)-1) (by omega),show((q+1:Nat):Int)-1=(q:Int)by omega,h4];simp only[zG];rw[h'];simp only[zG,de];rw[cd hd];simp only[zG];rw[bk (n:=(p:Int)-1) (by omega),bk (n:=(d:Int)+1) (by omega)];rfl
 nxt:=by
  intro p d l s m o to h hto hk hd hl hl2 hv;obtain⟨h1,h2⟩:=lG hc h;have h8:=vj (upd l d (l d-1)) hd;rw[oe]at h8;unfold upd at h8;unfold stB;simp only[gu];rw[show((p+1:Nat):Int)-1=(p:Int)by omega,zA (by omega),zD,h2];simp only[zG];rw[h];simp only[zG,de];rw[zA (by omega),zD,zB hk,zC,bk (n:=((d+1:Nat):Int)-1) (by omega),show((d+1:Nat):Int)-1=(d:Int)by omega,cd hd];simp only[zG];rw[vj l hd,qv (by omega),h8,zB (by omega),zC];rw[bk (n:=((to+1:Nat):Int)-2) (by omega),show((to+1:Nat):Int)-2=(to:Int)-1 by omega];rfl
 out:=by
  intro p d l s m o to h hk hd hl hv;obtain⟨h1,h2⟩:=lG hc h;have h8:=vj (upd l d (l d-1)) hd;rw[oe]at h8;unfold upd at h8;unfold stB;simp only[gu];rw[show((p+1:Nat):Int)-1=(p:Int)by omega,zA (by omega),zD,h2];simp only[zG];rw[h];simp only[zG,de];rw[zA (by omega),zD,zB hk,zC,bk (n:=((d+1:Nat):Int)-1) (by omega),show((d+1:Nat):Int)-1=(d:Int)by omega,cd hd];simp only[zG];rw[vj l hd,qv (by omega),h8,zA (by omega),zD,bk (n:=(p:Int)-1) (by omega)];rfl
end
section
open Bool renaming and_eq_true → cB, not_eq_true' → cD
open List renaming getElem?_append_right → bB, append_assoc → bD, length_append → dB
open Nat renaming le_refl → aB, sub_self → aD
theorem dc4 {w v c:Int}{n:Nat}(h:xO w v=some c)(hv:0≤v)(hw:w=(n:Int)):c=((n*v.toNat:Nat):Int):=by
 have hvv:((v.toNat:Nat):Int)=v:=Int.toNat_of_nonneg hv;rw[Int.natCast_mul,hvv,←hw];unfold xO at h;split at h
 ·rename_i hz;injection h with h
  rw[hz,Int.zero_mul,h]
 split at h
 ·cases h
 split at h
 ·cases h
 ·injection h with h
  exact h.symm
def cf7 (l:List cu)(m S:List Int):Prop:=m.length=l.length∧S.length=l.length∧∀(A B:List cu) (o e:cu) (b:Fo),l=A++o::(b.src++e::B)→b.Ok→o.1=7→e.1=0→
 m[A.length]?=some ((A.length+1+b.len:Nat):Int)∧S[A.length]?=some ((b.n*oN o:Nat):Int)
theorem cT2 {l:List cu}{m S R:List Int}(hm:MOK l m)(hS:S.length=l.length)(hv: ∀o∈l,okV o)(h: ∀j,j<l.length→∃a b,S[j]?=some a∧R[j]?=some b∧cU3 l j a b):cf7 l m S:=by
 refine⟨hm.len,hS,fun A B o e b hl hb ho he=> ?_⟩;have hlen:l.length=A.length+1+(b.len+(B.length+1)):=by rw[hl];simp[Fo.src_len];omega
 have hlt:A.length<l.length:=by omega
 have hget:l[A.length]=o:=by
  have:l[A.length]?=some o:=by rw[hl,bB (aB _),aD];rfl
  rw[List.getElem?_eq_getElem hlt]at this;injection this
 have hd:l.drop (A.length+1)=b.src++e::B:=by rw[hl,List.drop_append,List.drop_of_length_le (by omega),show A.length+1-A.length=1 by omega];rfl
 refine⟨?_, ?_⟩
 ·have:=hm.at' A.length hlt (by rw[hget];exact ho) b.src e B hd he (Fo.scan0 hb);rw[Fo.src_len]at this;exact this
 ·obtain⟨a,c,h1,h2,h3⟩:=h A.length hlt;obtain⟨h4,h5⟩:=(h3 hlt).1 (by rw[hget];exact ho) b.src e B hd he (Fo.scan0 hb);have hmem: ∀x∈b.src,0≤x.2.2.2.2:=fun x hx=>(hv x (by rw[hl];simp[hx])).1
  have e1:=Fo.Q9_n b hb hmem h4;rw[hget]at h5;rw[h1,dc4 h5 (hv o (by rw[hl];simp)).1 e1];rfl
section
variable {l:List cu} {m S:List Int} {em es:Int}
theorem dd6 {i:Nat}{op:List Int}{out:List uK}(hl:l.length≤1000)(ho:out.length≤1000){x:cu}(hx:l[i]?=some x)(hk:0<x.1∧x.1<7):
  gq l (em,m) (es,S) ((i:Int),op,out)=some (.inl (((i+1:Nat):Int),op,out++[de x 0])):=by
 obtain⟨hi,hg⟩:=List.getElem?_eq_some_iff.1 hx;simp only[gq];rw[zB (show(i:Int)<(l.length:Int)by omega),zC,ci hi,hg];simp only[zG];rw[zA (show¬x.1=7 by omega),zA (show¬x.1=0 by omega)];simp only[zD,zG,cn];rw[dk (by omega) (by omega),bk (by omega)];rfl
theorem cI3 {i j:Nat}{op:List Int}{out:List uK}(hl:l.length≤1000){x:cu}(hx:l[i]?=some x)(hk:x.1=7)(hs:S[i]?=some 0)(hm:m[i]?=some (j:Int))(hj:j≤1000):
  gq l (em,m) (es,S) ((i:Int),op,out)=some (.inl (((j+1:Nat):Int),op,out)):=by
 obtain⟨hi,hg⟩:=List.getElem?_eq_some_iff.1 hx;obtain⟨hi2,_⟩:=List.getElem?_eq_some_iff.1 hs;obtain⟨hi3,_⟩:=List.getElem?_eq_some_iff.1 hm;simp only[gq];rw[zB (show(i:Int)<(l.length:Int)by omega),zC,ci hi,hg];simp only[zG];rw[zB hk];simp only[zC];rw[cd hi2];simp only[zG];rw[hs];simp only[zG,di];rw[decide_true,zC,cd hi3];simp only[zG];rw[hm];simp only[zG,di];rw[bk (by omega)];rfl
theorem cI2 {i:Nat}{n:Int}{op:List Int}{out:List uK}(hl:l.length≤1000)(ho:out.length≤1000)(hp:op.length≤1000){x:cu}(hx:l[i]?=some x)(hk:x.1=7)(hs:S[i]?=some n)(hn:n≠0):
  gq l (em,m) (es,S) ((i:Int),op,out)=some (.inl (((i+1:Nat):Int),op++[(out.length:Int)],out++[de x 0])):=by
 obtain⟨hi,hg⟩:=List.getElem?_eq_some_iff.1 hx;obtain⟨hi2,_⟩:=List.getElem?_eq_some_iff.1 hs;simp only[gq];rw[zB (show(i:Int)<(l.length:Int)by omega),zC,ci hi,hg];simp only[zG];rw[zB hk];simp only[zC];rw[cd hi2];simp only[zG];rw[hs];simp only[zG,di];rw[zA hn,zD,dk (by omega) (by omega)];simp only[zG,di,cn];rw[dk (by omega) (by omega),bk (by omega)];rfl
theorem cw4 {i q:Nat}{op:List Int}{out:List uK}{o:cu}{t:Nat}(hl:l.length≤1000)(ho:out.length≤1000)(hp:op.length≤1000){x:cu}(hx:l[i]?=some x)(hk:x.1=0)(hq:out[q]?=some (de o t)):
  gq l (em,m) (es,S) ((i:Int),op++[(q:Int)],out)=some (.inl (((i+1:Nat):Int),op,out.set q (de o (out.length+1))++[de x (q+1)])):=by
 obtain⟨hi,hg⟩:=List.getElem?_eq_some_iff.1 hx;obtain⟨hq1,_⟩:=List.getElem?_eq_some_iff.1 hq;have hlen:(op++[(q:Int)]).length=op.length+1:=by simp
 simp only[gq];rw[zB (show(i:Int)<(l.length:Int)by omega),zC,ci hi,hg];simp only[zG];rw[zA (show¬x.1=7 by omega),zB hk];simp only[zD,zC,zG,cn];rw[bk (n:=((op++[(q:Int)]).length:Int)-1) (by omega),show((op++[(q:Int)]).length:Int)-1=(op.length:Int)by omega,cd (show op.length<(op++[(q:Int)]).length by omega)];simp only[zG];rw[bB (aB _),aD];simp only[List.getElem?_cons_zero,zG];rw[iw (by omega),ei,cd hq1];simp only[zG];rw[hq];simp only[zG];rw[dk (by simp;omega) (by omega)];simp only[zG,di,cn]
 have htk:(op++[(q:Int)]).take ((op.length:Int).toNat-0)=op:=by
  rw[show(op.length:Int).toNat-0=op.length by omega,List.take_left'];rfl
 rw[htk,bk (n:=(i:Int)+1) (by omega),bk (n:=(out.length:Int)+1) (by omega),bk (n:=(q:Int)+1) (by omega)];rfl
theorem be5 (hl:l.length≤1000)(hK:cf7 l m S): ∀(f:Fo) (A B:List cu) (op:List Int) (out:List uK),l=A++f.src++B→f.Ok→op.length≤A.length→out.length≤A.length→
  ∃k,k≤f.len∧Reach (gq l (em,m) (es,S)) k ((A.length:Int),op,out) (((A.length+f.len:Nat):Int),op,out++f.bare.code out.length)
 | .nil,A,B,op,out,hs,_,_,_=>by
  refine⟨0,aB _, ?_⟩;simp only[Fo.bare,Fo.code,Fo.len,List.append_nil,Nat.add_zero];exact Reach.refl
 | .op o r,A,B,op,out,hs,hk,hp,ho=>by
  have hA:(A++[o]).length=A.length+1:=by simp
  have hll:l.length=A.length+(r.len+1)+B.length:=by rw[hs];simp[Fo.src,Fo.src_len];omega
  have hx:l[A.length]?=some o:=by rw[hs,bD,bB (aB _),aD];rfl
  obtain⟨k,k1,k2⟩:=be5 hl hK r (A++[o]) B op (out++[de o 0]) (by rw[hs];simp[Fo.src]) hk.2 (by omega) (by simp;omega);refine⟨1+k,by simp only[Fo.len];omega, ?_⟩;have h1:=(Reach.one (dd6 (em:=em) (es:=es) (op:=op) (out:=out) hl (by omega) hx hk.1)).trans (show Reach _ k _ _ from by rw[hA]at k2;exact k2);simp only[Fo.bare,Fo.code,Fo.len];rw[show A.length+(r.len+1)=A.length+1+r.len by omega];rw[bD,dB]at h1;exact h1
 | .rep o b e r,A,B,op,out,hs,hk,hp,ho=>by
  obtain⟨⟨k1,k2⟩,k3,k4⟩:=hk;have hll:l.length=A.length+(b.len+r.len+2)+B.length:=by rw[hs];simp[Fo.src,Fo.src_len];omega
  have hx:l[A.length]?=some o:=by rw[hs,bD,bB (aB _),aD];rfl
  obtain⟨hm,hS⟩:=hK.2.2 A (r.src++B) o e b (by rw[hs];simp[Fo.src]) k3 k1 k2;have hAe:(A++o::b.src).length=A.length+1+b.len:=by simp[Fo.src_len];omega
  have hxe:l[A.length+1+b.len]?=some e:=by
   rw[show l=(A++o::b.src)++(e::(r.src++B))by rw[hs];simp[Fo.src],←hAe,bB (aB _),aD];rfl
  have hAr:(A++o::(b.src++[e])).length=A.length+1+b.len+1:=by simp[Fo.src_len];omega
  simp only[Fo.bare,Fo.len];by_cases hz:b.n*oN o=0
  ·rw[zE hz];rw[hz]at hS;obtain⟨k,g1,g2⟩:=be5 hl hK r (A++o::(b.src++[e])) B op out (by rw[hs];simp[Fo.src]) k4 (by omega) (by omega);refine⟨1+k,by omega, ?_⟩;have h1:=(Reach.one (cI3 (em:=em) (es:=es) (op:=op) (out:=out) hl hx k1 hS hm (by omega))).trans (show Reach _ k _ _ from by rw[hAr]at g2;exact g2);rw[show A.length+(b.len+r.len+2)=A.length+1+b.len+1+r.len by omega];exact h1
  ·rw[zF hz];have hA:(A++[o]).length=A.length+1:=by simp
   obtain⟨kb,b1,b2⟩:=be5 hl hK b (A++[o]) (e::(r.src++B)) (op++[(out.length:Int)]) (out++[de o 0]) (by rw[hs];simp[Fo.src]) k3 (by simp;omega) (by simp;omega);rw[hA]at b2;have hbl:=b.bare_len;have hrl:=r.bare_len;have holen:(out++[de o 0]++b.bare.code (out++[de o 0]).length).length=out.length+1+b.bare.len:=by simp[Fo.code_len];omega
   have hq:(out++[de o 0]++b.bare.code (out++[de o 0]).length)[out.length]?=some (de o 0):=by
    rw[bD,bB (aB _),aD];rfl
   have h2:=cw4 (em:=em) (es:=es) (m:=m) (S:=S) (op:=op) hl (by omega) (by omega) hxe k2 hq;rw[holen]at h2
   have hset:(out++[de o 0]++b.bare.code (out++[de o 0]).length).set out.length (de o (out.length+1+b.bare.len+1))=out++de o (out.length+1+b.bare.len+1)::b.bare.code (out.length+1):=by
    rw[bD,List.set_append_right _ _ (aB _),aD,dB];rfl
   rw[hset]at h2;obtain⟨k,g1,g2⟩:=be5 hl hK r (A++o::(b.src++[e])) B op (out++de o (out.length+1+b.bare.len+1)::b.bare.code (out.length+1)++[de e (out.length+1)]) (by rw[hs];simp[Fo.src]) k4 (by omega) (by rw[hAr];simp[Fo.code_len];omega);rw[hAr]at g2;refine⟨1+kb+1+k,by omega, ?_⟩;have h1:=(((Reach.one (cI2 (em:=em) (es:=es) (m:=m) (op:=op) (out:=out) hl (by omega) (by omega) hx k1 hS (by omega))).trans b2).trans (Reach.one h2)).trans g2;rw[show A.length+(b.len+r.len+2)=A.length+1+b.len+1+r.len by omega]
   have e1:out++de o (out.length+1+b.bare.len+1)::b.bare.code (out.length+1)++[de e (out.length+1)]++r.bare.code (out++de o (out.length+1+b.bare.len+1)::b.bare.code (out.length+1)++[de e (out.length+1)]).length=out++(Fo.rep o b.bare e r.bare).code out.length:=by
    have hl3:(out++de o (out.length+1+b.bare.len+1)::b.bare.code (out.length+1)++[de e (out.length+1)]).length=out.length+b.bare.len+2:=by simp[Fo.code_len];omega
    rw[hl3];simp only[Fo.code];rw[show out.length+1+b.bare.len+1=out.length+b.bare.len+2 by omega];simp
   rw[e1]at h1;exact h1
end
theorem bq8 {l:List cu}:zW l=(li l).bind fun r=>some (r.2.1,r.2.2.1):=rfl
theorem cn8 {R:Int}{l:List cu}(h:xo R l=0):lk0 l=0∧lk1 R l=0∧lk2 l=0∧lk3 l=0:=by
 unfold xo at h;split at h
 ·omega
 split at h
 ·omega
 split at h
 ·omega
 ·omega
structure Prg (R:Int)(l:List cu)(f:Fo):Prop where
 ops:OpsOk l
 ok:f.Ok
 src:f.src=l
 z:xo R l=0
 R1:1≤R∧R≤64
 deep:f.hi≤8
 n:f.n≤65536
 w:ej l=((f.n:Int),0)
 regs: ∀o∈l,0<o.1∧o.1<7→inR R.toNat o
theorem cB0 {R:Int}{l:List cu}(h:OpsOk l)(hp:xo R l=0): ∃f,Prg R l f:=by
 obtain⟨h0,h1,h2,h3⟩:=cn8 hp
 have hform:aS4 l=true:=by
  unfold lk0 at h0;split at h0
  ·assumption
  ·omega
 have hregs:aI9 R l=true:=by
  unfold lk1 at h1;split at h1
  ·assumption
  ·omega
 unfold aS4 at hform;rw[cB,decide_eq_true_eq,cD]at hform;obtain⟨hs,hr⟩:=hform;unfold aI9 at hregs;rw[cB,decide_eq_true_eq,cD]at hregs;obtain⟨hR,ho⟩:=hregs;obtain⟨f,f1,f2⟩:=Fo.parse _ l (aB _) hs
 have hq: ∃t,Q9 l=some t∧t≤65536:=by
  unfold lk3 ej at h3;rw[zE hs]at h3;cases hq:Q9 l with
  |none=>rw[hq]at h3;cases h3
  |some t=>
   rw[hq]at h3;refine⟨t,rfl, ?_⟩;by_cases c:65536<t
   ·simp only[zE c]at h3;cases h3
   ·omega
 obtain⟨t,ht,hle⟩:=hq;have hn:t=(f.n:Int):=Fo.Q9_n f f1 (fun x hx=>(h.v x (f2▸hx)).1) (by rw[f2];exact ht);refine⟨f,h,f1,f2,hp,hR, ?_,by omega, ?_,fun o hm hk=> ?_⟩
 ·have h4:=Fo.hi_le f1;rw[f2]at h4;unfold lk2 bd9 at h2;rw[zE hs]at h2;by_cases c:(8:Int)<((hmax l 0 0:Nat):Int)
  ·simp only[zE c]at h2;cases h2
  ·omega
 ·unfold ej;rw[zE hs,ht];show(if 65536<t then((0:Int),(9:Int))else(t,0))=_;rw[zF (by omega),hn]
 ·have h5:=List.any_eq_false.1 hr o hm;have h6:=List.any_eq_false.1 ho o hm;have h5:tn o=true:=by simpa using h5
  have h6:bH2 R o=false:=by simpa using h6
  obtain⟨k,d,a,b,v⟩:=o;have hk:k=1∨k=2∨k=3∨k=4∨k=5∨k=6:=by simp only at hk;omega
  unfold inR
  rcases hk with rfl|rfl|rfl|rfl|rfl|rfl<;>
   ·simp[tn,al2,cx]at h5;simp[bH2,cx]at h6;simp only;omega
theorem au0 {R:Int}{l:List cu}{f:Fo}(hP:Prg R l f):oP R l=some (0,f.bare.code 0):=by
 unfold oP;rw[bp5 hP.ops];simp only[zG];rw[hP.z,zA (by simp),zD];have hl:=hP.ops.len;have hs:cl l 0=some 0:=by rw[←hP.src];exact Fo.scan0 hP.ok
 obtain⟨m,hm,hM⟩:=aW4 (l:=l) (by omega) hs;obtain⟨r,hr,r1,r2,r3⟩:=aJ5 (l:=l) (by omega) hP.ops.v;rw[hm,bq8,hr];simp only[zG];have hw:=hP.w;rcases r3 with⟨r3,_⟩|⟨_,_,r4,r5,r6⟩
 ·rw[hw]at r3;exact(r3 rfl).elim
 have hK:=cT2 hM r4 (fun o ho=>hP.ops.v o ho) r6;obtain⟨k,k1,k2⟩:=be5 (em:=0) (es:=r.2.1) (by omega) hK f [] [] [] [] (by simp[hP.src]) hP.ok (by simp) (by simp);have hfl:f.len=l.length:=by rw[←Fo.src_len,hP.src]
 have h1:=k2 (18446744073709551616-k);rw[show 18446744073709551616-k+k=dy by unfold dy;omega,show 18446744073709551616-k=(18446744073709551615-k)+1 by omega]at h1
 have hloop:bt (gq l (0,m) (r.2.1,r.2.2.1)) dy ((0:Int),([]:List Int),([]:List uK))=some (f.bare.code 0):=by
  refine h1.trans ?_;rw[df];simp only[gq];rw[zA (by rw[hfl];simp),zD];rfl
 rw[hloop];rfl
end
section
open List renaming replicate → aB, length_replicate → aD
theorem fj {α γ:Type}{g:α→Option (α⊕γ)}{k:Nat}{s s':α}{c:γ}(h:Reach g k s s')(hk:k≤1000000000)(he:g s'=some (.inr c)):bt g dy s=some c:=by
 have h1:=h (18446744073709551616-k);rw[show 18446744073709551616-k+k=dy by unfold dy;omega,show 18446744073709551616-k=(18446744073709551615-k)+1 by omega]at h1;refine h1.trans ?_;rw[df,he];rfl
section
variable {R:Int} {l:List cu} {f:Fo}
theorem Prg.len (h:Prg R l f):f.len≤100:=by
 have:=h.ops.len;rw[←Fo.src_len,h.src];exact this
theorem Prg.clen (h:Prg R l f):(f.bare.code 0).length≤1000:=by
 have h1:=h.len;have h2:=f.bare_len;rw[Fo.code_len];omega
theorem Prg.steps (h:Prg R l f):f.bare.steps≤1000000000:=by
 have h1:=Fo.steps_le f.bare f.bare_pos;rw[Fo.bare_n]at h1;have h2:=h.len;have h3:=f.bare_len;have h4:=h.n;have h5:(2*f.bare.len+1)*f.n≤201*65536:=Nat.mul_le_mul (by omega) h4;omega
theorem Prg.good (h:Prg R l f): ∀o∈f.bare.src,(0<o.1∧o.1<7→inR R.toNat o)∧okV o:=fun o ho=>by
 have:=Fo.bare_mem f ho;rw[h.src]at this;exact⟨h.regs o this,h.ops.v o this⟩
theorem Prg.hi (h:Prg R l f):0+f.bare.hi≤8:=by
 have h1:=h.deep;have h2:=f.bare_hi;omega
theorem Prg.writes (h:Prg R l f):jf l=some ((f.n:Int),0):=by
 rw[uz (by have:=h.ops.len;omega) h.ops.v,h.w]
def cT0 (R:Nat)(o:cu):Prop:=0<o.1∧o.1<7→inR R o
theorem bv1 {σ γ S:Type}{g:σ→Option (σ⊕γ)}{code:List uK}{st:Nat→Nat→(Nat→Int)→S→σ}{stp:cu→S→S}{Vd:Nat→S→Prop}{R:Nat}(h:Runs g code st stp Vd (inR R)):Runs g code st stp Vd (cT0 R):=
 ⟨fun h1 h2 h3 h4 h5=>h.op h1 (h2 h3) h3 h4 h5,h.rep,h.nxt,h.out⟩
theorem bc5 {σ γ S:Type}{g:σ→Option (σ⊕γ)}{code:List uK}{st:Nat→Nat→(Nat→Int)→S→σ}{stp:cu→S→S}{Vd:Nat→S→Prop}{R:Nat}(h:Backs g code st stp Vd (inR R)):Backs g code st stp Vd (cT0 R):=
 ⟨fun h1 h2 h3 h4 h5=>h.op h1 (h2 h3) h3 h4 h5,h.rep,h.nxt,h.out⟩
def qs (f:Fo)(r t:List Int):TS:=uE mq f.unroll (r,t,0)
theorem cs4 (h:Prg R l f){r t:List Int}(hr:r.length=R.toNat)(ht:f.n≤t.length)(ht2:t.length≤1000000):
  xW (f.bare.code 0) r t=some (((qs f r t).2.2:Int),(qs f r t).1,(qs f r t).2.1)∧(qs f r t).1.length=R.toNat∧(qs f r t).2.1.length=t.length:=by
 obtain⟨l',_,h2,h3⟩:=bj1 (m:=0) (l:=fun _=>0) (s:=((r,t,0):TS)) (d:=0) (p:=0) (A:=[]) (B:=[]) (bv1 (cr6 (R:=R.toNat) (N:=t.length) h.clen ht2)) f.bare (by simp) rfl (Fo.bare_ok f h.ok) f.bare_pos h.hi h.good ⟨hr,rfl,by rw[Fo.bare_n];show 0+(f.n+0)≤_;omega⟩;rw[Fo.bare_unroll]at h2 h3;refine⟨?_,h3.1,h3.2.1⟩;unfold xW
 have:=fj h2 h.steps (c:=(((qs f r t).2.2:Int),(qs f r t).1,(qs f r t).2.1,l' 0,l' 1,l' 2,l' 3,l' 4,l' 5,l' 6,l' 7)) (by
  unfold stT;simp only[ll];rw[zB (by rw[Fo.code_len];omega),zC]
  rfl)
 have e:stT 0 0 (fun _=>0) ((r,t,0):TS)=(0,0,0,r,t,0,0,0,0,0,0,0,0):=rfl;rw[e]at this;rw[this];rfl
theorem yj (h:Prg R l f){r t:List Int}(hr:r.length=R.toNat)(ht:f.n≤t.length)(ht2:t.length≤1000000):
  mz R l r t=some (((qs f r t).2.2:Int),0,(qs f r t).1,(qs f r t).2.1)∧(qs f r t).1.length=R.toNat∧(qs f r t).2.1.length=t.length:=by
 obtain⟨h1,h2,h3⟩:=cs4 h hr ht ht2;refine⟨?_,h2,h3⟩;unfold mz zX;rw[au0 h,h.writes];have hR:=h.R1;simp only[zG];rw[zA (show¬((0:Int)≠0)by simp),zD,zA (show¬((r.length:Int)≠R)by omega),zD,zA (show¬((t.length:Int)<(f.n:Int))by omega),zD];simp only[zG];rw[zA (show¬((0:Int)≠0)by simp),zD,h1];rfl
def aJ3 (f:Fo)(r:List Int):List Int:=(uE ag4 f.unroll (r,0)).1
theorem bG2 (h:Prg R l f){r:List Int}(hr:r.length=R.toNat):rN (-1) (f.bare.code 0) r=some (aJ3 f r)∧(aJ3 f r).length=R.toNat:=by
 obtain⟨l',_,h2,h3⟩:=bj1 (m:=0) (l:=fun _=>0) (s:=((r,0):FS)) (d:=0) (p:=0) (A:=[]) (B:=[]) (bv1 (cC2 (R:=R.toNat) (M:=65536) h.clen (by omega))) f.bare (by simp) rfl (Fo.bare_ok f h.ok) f.bare_pos h.hi h.good ⟨hr,by rw[Fo.bare_n];show 0+(f.n+0)≤_;have:=h.n;omega⟩;rw[Fo.bare_unroll]at h2 h3;refine⟨?_,h3.1⟩;unfold rN
 have:=fj h2 h.steps (c:=(aJ3 f r,l' 0,l' 1,l' 2,l' 3,l' 4,l' 5,l' 6,l' 7)) (by
  unfold stF;simp only[jz];rw[zB (by rw[Fo.code_len];omega),zC]
  rfl)
 have e:stF 0 0 (fun _=>0) ((r,0):FS)=(0,0,0,r,0,0,0,0,0,0,0,0):=rfl;rw[e]at this;rw[this];rfl
def fill (R:Int)(r:List Int):List Int:=r++aB (R.toNat-r.length) 0
theorem ik {R:Int}{r:List Int}(h:r.length≤R.toNat):(fill R r).length=R.toNat:=by
 unfold fill;rw[List.length_append,aD];omega
theorem cm3 {R:Int}{r:List Int}(h:r.length≤R.toNat):aF8 (aB R.toNat (0:Int)) 0 (aB R.toNat (0:Int)).length r=fill R r:=by
 unfold aF8 fill;rw[aD,List.take_zero,List.nil_append,Nat.zero_add,Nat.min_eq_right h,List.take_of_length_le h,List.drop_replicate]
theorem bP6 (h:Prg R l f){r:List Int}(hr:r.length≤R.toNat):qc R l r=some (0,aJ3 f (fill R r))∧(aJ3 f (fill R r)).length=R.toNat:=by
 obtain⟨h1,h2⟩:=bG2 h (ik hr);refine⟨?_,h2⟩;have hR:=h.R1;unfold qc uG;rw[au0 h];simp only[zG];rw[zA (show¬((0:Int)≠0)by simp),zD,zA (show¬(R<(r.length:Int))by omega),zD,zB (show 0≤R by omega),zB (show R≤R by omega),zB (show 8*R≤140737488355328 by omega),cm3 hr];show((gd true _).bind _)=_;rw[ei];simp only[zG];rw[zA (show¬((0:Int)≠0)by simp),zD,h1];rfl
def mg (f:Fo)(r a t:List Int):BS:=xP (nT t) f.unroll (r,a,f.n)
theorem cf0 (h:Prg R l f){r a t:List Int}(hr:r.length=R.toNat)(ha:a.length=R.toNat)(ht:f.n≤t.length)(ht2:t.length≤1000000):
  nH (f.n:Int) r a t (f.bare.code 0)=some ((mg f r a t).1,(mg f r a t).2.1)∧(mg f r a t).1.length=R.toNat∧(mg f r a t).2.1.length=R.toNat:=by
 obtain⟨l',_,h2,h3⟩:=aF7 (m:=0) (l:=fun _=>0) (s:=((r,a,f.n):BS)) (d:=0) (p:=0) (A:=[]) (B:=[]) (bc5 (dc3 (R:=R.toNat) (t:=t) h.clen ht2)) f.bare (by simp) rfl (Fo.bare_ok f h.ok) f.bare_pos h.hi h.good ⟨hr,ha,by rw[Fo.bare_n];exact Nat.le_refl _,ht⟩;rw[Fo.bare_unroll]at h2 h3;refine⟨?_,h3.1,h3.2.1⟩;unfold nH;have hl:=h.clen;rw[Fo.code_len]at hl
 have:=fj h2 h.steps (c:=((mg f r a t).1,(mg f r a t).2.1,l' 0,l' 1,l' 2,l' 3,l' 4,l' 5,l' 6,l' 7)) (by
  unfold stB;simp only[gu];rw[zB (by omega),zC]
  rfl)
 have e:stB (0+f.bare.len) 0 (fun _=>0) ((r,a,f.n):BS)=(IntKind.i64.wrap (((f.bare.code 0).length:Int)-1),0,(f.n:Int),r,a,0,0,0,0,0,0,0,0):=by
  unfold stB;rw[Fo.code_len,bk (by omega),Nat.zero_add];rfl
 rw[e]at this;rw[this];rfl
theorem tt (h:Prg R l f){r a t:List Int}(hr:r.length=R.toNat)(ha:a.length=R.toNat)(ht:f.n≤t.length)(ht2:t.length≤1000000):
  pF R l r a t=some (0,(mg f r a t).1,(mg f r a t).2.1)∧(mg f r a t).1.length=R.toNat∧(mg f r a t).2.1.length=R.toNat:=by
 obtain⟨h1,h2,h3⟩:=cf0 h hr ha ht ht2;refine⟨?_,h2,h3⟩;have hR:=h.R1;unfold pF;rw[au0 h,h.writes];simp only[zG];rw[zA (show¬((0:Int)≠0)by simp),zD,zA (show¬((r.length:Int)≠R)by omega),zD,zA (show¬((a.length:Int)≠R)by omega),zD,zA (show¬((t.length:Int)<(f.n:Int))by omega),zD,h1];rfl
end
end
section
open List renaming length_take → aB, take_length → aD, getElem?_take → bB, length_append → bD, ext_getElem? → cB, getElem?_drop → cD, getElem?_append_left → dB, getElem?_append_right → dD, getElem_mem → eD, length_drop → fB
def seg (W:List Int)(o n:Nat):List Int:=(W.drop o).take n
def put (W:List Int)(o:Nat)(w:List Int):List Int:=W.take o++(w++W.drop (o+w.length))
theorem tK (W:List Int)(o n i:Nat):(seg W o n)[i]?=if i<n then W[o+i]? else none:=by
 unfold seg;rw[bB];split
 ·rw[cD]
 ·rfl
theorem af5 {W:List Int}{o:Nat}{w:List Int}(h:o+w.length≤W.length)(i:Nat):(put W o w)[i]?=if o≤i∧i<o+w.length then w[i-o]? else W[i]?:=by
 unfold put;have hl:(W.take o).length=o:=by rw[aB];omega
 by_cases h1:i<o
 ·rw[dB (by omega),bB,zE h1,zF (by omega)]
 ·rw[dD (by omega),hl];by_cases h2:i<o+w.length
  ·rw[dB (by omega),zE ⟨by omega,h2⟩]
  ·rw[dD (by omega),cD,zF (by omega)]
   congr 1
   omega
theorem ib {W:List Int}{o n:Nat}(h:o+n≤W.length):(seg W o n).length=n:=by
 unfold seg;rw[aB,fB];omega
theorem cM9 {W:List Int}{o:Nat}{w:List Int}(h:o+w.length≤W.length):(put W o w).length=W.length:=by
 unfold put;rw[bD,bD,aB,fB];omega
theorem cd9 {W:List Int}{o:Nat}{w:List Int}{n:Nat}(h:o+w.length≤W.length)(hn:n≤w.length):seg (put W o w) o n=w.take n:=by
 apply cB;intro i;rw[tK,bB,af5 h];split
 ·rw[zE (by omega)]
  congr 1
  omega
 ·rfl
theorem sF {W:List Int}{o:Nat}{w:List Int}(h:o+w.length≤W.length):seg (put W o w) o w.length=w:=by
 rw[cd9 h (Nat.le_refl _),aD]
theorem xw {W:List Int}{o:Nat}{w:List Int}{o' n:Nat}(h:o+w.length≤W.length)(hd:o'+n≤o∨o+w.length≤o'):seg (put W o w) o' n=seg W o' n:=by
 apply cB;intro i;rw[tK,tK];split
 ·rw[af5 h,zF (by omega)]
 ·rfl
theorem bH9 {W:List Int}{o:Nat}{w:List Int}{i:Nat}(h:o+w.length≤W.length)(hd:i<o∨o+w.length≤i):(put W o w)[i]?=W[i]?:=by
 rw[af5 h,zF (by omega)]
theorem cv1 {W w:List Int}{o:Nat}(h:o+w.length≤W.length):aF8 W o w.length w=put W o w:=by
 unfold aF8 put;rw[aD,Nat.min_self]
theorem ae1 {W:List Int}{o n tk:Nat}(h:o+n≤tk)(ht:tk≤W.length)(hw:W.length≤1048576):ec (o:Int) (n:Int) (tk:Int) W=some (0,seg W o n):=by
 unfold ec;rw[zA (by omega),zD,zA (by omega),zD,zA (by omega),zD,bk (n:=(tk:Int)-o) (by omega),zA (by omega),zD,bk (n:=(o:Int)+n) (by omega),iw (by omega),ei];unfold ca;rw[show((o:Int)+n).toNat-(o:Int).toNat=n by omega,show(o:Int).toNat=o by omega,dk (by rw[aB];omega) (by omega)];rfl
theorem cl6 {W:List Int}{o tk:Nat}(h:o<tk)(ht:tk≤W.length)(hw:W.length≤1048576):gw (o:Int) (tk:Int) W=some (rg W (o:Int),0):=by
 unfold gw;rw[zA (by omega),zD,zA (by omega),zD,bk (n:=(tk:Int)-o) (by omega),zA (by omega),zD,bk (n:=(o:Int)+1) (by omega),iw (by omega),ei];unfold ca;rw[show((o:Int)+1).toNat-(o:Int).toNat=1 by omega,show(o:Int).toNat=o by omega,dk (by rw[aB];omega) (by omega)]
 have hs:(W.drop o).take 1=[rg W (o:Int)]:=by
  apply cB;intro i;rw[bB,cD];rcases Nat.eq_zero_or_pos i with rfl|hi
  ·rw[zE (by omega),Nat.add_zero,du (by omega)];rfl
  ·rw[zF (by omega),List.getElem?_eq_none (by simp;omega)]
 rw[hs];rfl
theorem aR3 {W w:List Int}{o tk:Nat}(h:o+w.length≤tk)(ht:tk≤W.length)(hw:W.length≤1048576):fy (o:Int) w (tk:Int) W=some (0,put W o w):=by
 unfold fy;rw[zA (by omega),zD,zA (by omega),zD,zA (by omega),zD,bk (n:=(tk:Int)-o) (by omega),zA (by omega),zD,bk (n:=(o:Int)+w.length) (by omega),iw (by omega),ei,show((o:Int)+w.length).toNat-(o:Int).toNat=w.length by omega,show(o:Int).toNat=o by omega,cv1 (by omega)]
theorem bg4 {n lv pk bd:Int}(h:0≤n)(hl:0≤lv)(hb:lv+n≤bd)(hbd:bd≤1048576):fh n lv pk bd=some (0,lv+n,max pk (lv+n),bd):=by
 unfold fh nB kH;rw[zA (by omega),zD];simp only[zG];rw[bk (n:=bd-lv) (by omega),zB (by omega),bk (n:=lv+n) (by omega)];rfl
theorem bg3 {n lv pk bd:Int}(h:0≤n)(hl:n≤lv)(hp:lv≤pk)(hb:lv≤1048576):dj n lv pk bd=some (0,lv-n,pk,bd):=by
 unfold dj kH;rw[zA (by omega),zD,zA (by omega),zD];simp only[zG];rw[bk (n:=0-n) (by omega),bk (by omega),show lv+(0-n)=lv-n by omega,Int.max_eq_left (by omega)]
theorem cn9 (ls:List (List Int))(h: ∀l∈ls,l.length≤100000):ls.flatten.length≤100000*ls.length:=by
 induction ls with
 |nil=>simp
 |cons a r ih=>
  have h1:=h a (by simp);have h2:=ih fun l hl=>h l (by simp[hl])
  rw[List.flatten_cons,bD,List.length_cons];omega
theorem bv4 {ls:List (List Int)}{i:Nat}(h:i<ls.length):(ls.take (i+1)).flatten=(ls.take i).flatten++ls[i]:=by
 rw[List.take_succ_eq_append_getElem h,List.flatten_append];simp
theorem cs3 (ls:List (List Int))(h: ∀l∈ls,l.length≤100000)(hl:ls.length≤1000)(i:Nat):(ls.take i).flatten.length≤100000000:=by
 have h1:=cn9 (ls.take i) fun l hl=>h l (List.mem_of_mem_take hl)
 rw[aB]at h1;omega
theorem cm9 {ls:List (List Int)}(h: ∀l∈ls,l.length≤100000)(hl:ls.length≤1000):gf ls=some ls.flatten:=by
 have hlen:=cs3 ls h hl
 have k0:bt (ia ls) dy (0,0)=some (((ls.take ls.length).flatten.length:Nat):Int):=by
  refine ff (n:=ls.length) (fun i=>(((ls.take i).flatten.length:Nat):Int)) (by omega) (fun i hi=> ?_) ?_
  ·unfold ia;have h1:=hlen i;have h2:=h ls[i] (eD hi);simp only;rw[zB (show(i:Int)<(ls.length:Int)by omega),zC,ci hi];simp only[zG];rw[bk (n:=(((ls.take i).flatten.length:Nat):Int)+((ls[i].length:Nat):Int)) (by omega),zA (by omega),zD,bk (n:=(i:Int)+1) (by omega),bv4 hi,bD];rfl
  ·unfold ia;simp only;rw[zA (by omega),zD]
 have k1: ∀(f:Int×List Int→Option ((Int×List Int)⊕List Int)),(∀s,f s=cond (decide (s.1<((ls.length:Nat):Int))) ((rd ls s.1).bind fun x=>gd (i9 (s.2.length+x.length) 8) (some (.inl (IntKind.i64.wrap (s.1+1),s.2++x)))) (some (.inr s.2)))→
   bt f dy (0,[])=some (ls.take ls.length).flatten:=by
  intro f hf;refine ff (n:=ls.length) (fun i=>(ls.take i).flatten) (by omega) (fun i hi=> ?_) ?_
  ·rw[hf];have h1:=hlen i;have h2:=h ls[i] (eD hi);rw[zB (show(i:Int)<(ls.length:Int)by omega),zC,ci hi];simp only[zG];rw[dk (by omega) (by omega),bk (n:=(i:Int)+1) (by omega),bv4 hi];rfl
  ·rw[hf];rw[zA (by omega),zD]
 unfold gf;rw[k0];rw[aD];simp only[zG];have h1:=hlen ls.length;rw[aD]at h1;rw[zA (by omega),zD,bk (n:=((ls.flatten.length:Nat):Int)-0) (by omega),br];split
 ·rw[Int.sub_zero]
  have hz:og 8 ((ls.flatten.length:Nat):Int)=true:=by
   generalize ls.flatten.length=N at h1⊢;unfold og;rw[zB (by omega),zB (by omega),zB (by omega)];rfl
  rw[hz,ei,dk (by rw[List.length_replicate];omega) (by omega),iw (by omega),ei,List.take_zero,k1 (mb ls) fun s=>rfl,aD];rfl
 ·rw[k1 (md ls) fun s=>rfl,aD];rfl
end
section
open List renaming length_append → aB, length_replicate → aD
structure Cx where
 mode:Int
 R:Int
 Q:Int
 len:Int
 words:Int
 X:List Int
 T:List Int
 l:List cu
 k:List cu
 fl:Fo
 fk:Fo
 fixed:Int
 tp:Int
 sl:Int
 ns:Int
namespace Cx
def sz (c:Cx):Nat→Nat
 |0=>c.T.length
 |1=>c.X.length
 |2=>c.R.toNat
 |3=>c.Q.toNat
 |4=>max c.R.toNat c.Q.toNat
 |5=>c.X.length
 |6=>c.T.length
 |7=>c.tp.toNat
 |8=>(c.sl*c.ns).toNat
 |_=>0
def off (c:Cx):Nat→Nat
 |0=>0
 |i+1=>c.off i+c.sz i
def P (c:Cx):List Int:=(List.range 10).map fun i=>(c.off i:Int)
def tk (c:Cx):Int:=(c.off 9:Int)
structure Ok (c:Cx):Prop where
 hl:OpsOk c.l
 hk:OpsOk c.k
 hc:vT c.mode c.X.length c.T.length c.R c.l c.Q c.k c.len c.words=0
 pl:Prg c.R c.l c.fl
 pk:Prg c.Q c.k c.fk
 fixed:c.fixed=oL c.X.length c.T.length c.R c.Q
 tp:c.tp=od c.mode c.l c.k
 sl:c.sl=oK c.mode c.X.length c.R c.l
 ns:0≤c.ns∧c.ns≤1048576
 fit:c.fixed+c.tp+c.sl*c.ns≤c.words
 base:c.mode=3→c.ns=c.len
end Cx
structure Num (c:Cx):Prop where
 mode:1≤c.mode∧c.mode≤3
 R:1≤c.R∧c.R≤64
 Q:1≤c.Q∧c.Q≤64
 x:1≤c.X.length∧c.X.length≤64
 t:c.T.length≤64
 xtR:(c.X.length:Int)+c.T.length+1≤c.R
 xtQ:(c.X.length:Int)+c.T.length≤c.Q
 len:0≤c.len∧c.len≤65535
 words:0≤c.words∧c.words≤1048576
 n:c.fl.n≤65536
 m:c.fk.n≤65536
 tp:c.tp=(if c.mode=3 then(c.fk.n:Int)else c.fl.n+c.fk.n)
 sl:c.sl=(if c.mode=3 then(c.fl.n:Int)+c.R else c.X.length+1)
 fixed:c.fixed=2*c.T.length+2*c.X.length+c.R+c.Q+max c.R c.Q
 mul:0≤c.sl*c.ns
theorem aM9 {m:Int}{x t:Nat}{R:Int}{l:List cu}{Q:Int}{k:List cu}{n b:Int}(h:vT m x t R l Q k n b=0):pY R l Q k=0∧yf R Q x t=0:=by
 unfold vT at h;split at h
 ·rename_i c;exact(c h).elim
 split at h
 ·rename_i c;exact(c h).elim
 split at h
 ·rename_i c;exact(c h).elim
 rename_i c1 c2 c3;exact⟨by omega,by omega⟩
theorem cq5 {R Q:Int}{l k:List cu}(h:pY R l Q k=0):xo R l=0∧xo Q k=0:=by
 unfold pY at h
 repeat' split at h
 all_goals first|(exact absurd h (by assumption))|skip
 unfold xo;constructor
 ·repeat' split
  all_goals first|(rename_i c;exact(by omega))|omega
 ·repeat' split
  all_goals first|(rename_i c;exact(by omega))|omega
theorem bs3 {R Q:Int}{x t:Nat}(hx:x≤64)(ht:t≤64)(h:yf R Q x t=0):(x:Int)+t+1≤R∧(x:Int)+t≤Q:=by
 unfold yf at h;rw[bk (n:=(x:Int)+t) (by omega),bk (n:=(x:Int)+t+1) (by omega)]at h
 repeat' split at h
 all_goals omega
theorem Cx.Ok.num {c:Cx}(h:c.Ok):Num c:=by
 have f:=ae9 h.hl h.hk h.hc;obtain⟨h1,h2⟩:=aM9 h.hc;obtain⟨h3,h4⟩:=bs3 f.xs.2 f.ts h2;have w1:=h.pl.w;have w2:=h.pk.w;have s:=aO7 h.hl h.hk h.hc;refine⟨f.mode,f.regs,f.regs',f.xs,f.ts,h3,h4,f.len,f.bud,h.pl.n,h.pk.n, ?_, ?_, ?_, ?_⟩
 ·rw[h.tp];unfold od;rw[w1,w2]
 ·rw[h.sl];unfold oK;rw[w1]
 ·rw[h.fixed];unfold oL;rfl
 ·rw[h.sl];exact(bg6 (by have:=s.sl;omega) h.ns).1
section
variable {c:Cx}
theorem dk8 :c.off 1=c.T.length:=Nat.zero_add _
theorem dk9 :c.off 2=c.T.length+c.X.length:=by show c.off 1+_=_;rw[dk8];rfl
theorem dl0 :c.off 3=c.T.length+c.X.length+c.R.toNat:=by show c.off 2+_=_;rw[dk9];rfl
theorem dl1 :c.off 4=c.T.length+c.X.length+c.R.toNat+c.Q.toNat:=by show c.off 3+_=_;rw[dl0];rfl
theorem dl2 :c.off 5=c.T.length+c.X.length+c.R.toNat+c.Q.toNat+max c.R.toNat c.Q.toNat:=by show c.off 4+_=_;rw[dl1];rfl
theorem dl3 :c.off 6=c.T.length+c.X.length+c.R.toNat+c.Q.toNat+max c.R.toNat c.Q.toNat+c.X.length:=by show c.off 5+_=_;rw[dl2];rfl
theorem df4 :c.off 7=c.T.length+c.X.length+c.R.toNat+c.Q.toNat+max c.R.toNat c.Q.toNat+c.X.length+c.T.length:=by show c.off 6+_=_;rw[dl3];rfl
theorem dl4 :c.off 8=c.off 7+c.tp.toNat:=rfl
theorem bq3 :c.off 9=c.off 8+(c.sl*c.ns).toNat:=rfl
theorem cb6 {i j:Nat}(h:i≤j):c.off i≤c.off j:=by
 induction j with
 |zero=>rw[Nat.le_zero.1 h];exact Nat.le_refl _
 |succ j ih=>
  rcases Nat.lt_or_ge i (j+1)with h1|h1
  ·exact Nat.le_trans (ih (by omega)) (Nat.le_add_right _ _)
  ·rw[Nat.le_antisymm h h1];exact Nat.le_refl _
theorem jh {i j:Nat}(h:i<j):c.off i+c.sz i≤c.off j:=cb6 (c:=c) (i:=i+1) h
theorem Cx.Ok.off9_le (h:c.Ok):(c.off 9:Int)≤c.words:=by
 have n:=h.num;have g1:=n.R;have g2:=n.Q;have g3:=n.fixed;have g4:=n.tp;have g5:=n.mul;have g6:=h.fit;have htp:0≤c.tp:=by rw[g4];split<;>omega
 rw[bq3,dl4,df4];omega
theorem Cx.P_get {i:Nat}(h:i<10):c.P[i]?=some (c.off i:Int):=by
 unfold Cx.P;rw[List.getElem?_map,List.getElem?_range h];rfl
theorem Cx.P_len :c.P.length=10:=by unfold Cx.P;simp
def Wd (c:Cx)(W:List Int):Prop:=W.length=c.words.toNat
theorem Wd.tk {W:List Int}(h:c.Ok)(hW:Wd c W):c.off 9≤W.length∧W.length≤1048576:=by
 have:=h.off9_le;have:=h.num.words;unfold Wd at hW;omega
theorem Wd.put {W w:List Int}{o:Nat}(h:c.Ok)(hW:Wd c W)(ho:o+w.length≤c.off 9):Wd c (put W o w):=by
 have:=hW.tk h;unfold Wd at hW⊢;rw[cM9 (by omega),hW]
theorem co3 {i:Nat}{ii a0 a1 a2 a3 a4 a5 a6 a7 a8 a9 a10 a11 a12 a13 a14 a15 a16:Int}{X T:List Int}{l k:List cu}{lv pk bd:Int}{W:List Int}(h:c.Ok)(hW:Wd c W)(hi:ii=(i:Int))(hi9:i<9):
  cz ii a0 a1 a2 a3 a4 a5 a6 a7 a8 a9 a10 a11 a12 a13 a14 a15 a16 X T l k c.P c.tk lv pk bd W=some (seg W (c.off i) (c.sz i)):=by
 subst hi;have hk:=hW.tk h;have h9:=jh (c:=c) (i:=i) (j:=9) hi9;unfold cz;rw[cd (show i<c.P.length by rw[Cx.P_len];omega)];simp only[zG];rw[Cx.P_get (show i<10 by omega)];simp only[zG];rw[bk (n:=(i:Int)+1) (by omega),show(i:Int)+1=((i+1:Nat):Int)by omega,cd (show i+1<c.P.length by rw[Cx.P_len];omega)];simp only[zG];rw[Cx.P_get (show i+1<10 by omega)];simp only[zG]
 have e:IntKind.i64.wrap ((c.off (i+1):Int)-(c.off i:Int))=(c.sz i:Int):=by
  have:c.off (i+1)=c.off i+c.sz i:=rfl;rw[bk (by omega)];omega
 rw[e];unfold Cx.tk;rw[ae1 h9 hk.1 hk.2];rfl
theorem put1 {i:Nat}{ii a0 a1 a2 a3 a4 a5 a6 a7 a8 a9 a10 a11 a12 a13 a14 a15 a16:Int}{X T:List Int}{l k:List cu}{lv pk bd:Int}{W w:List Int}(h:c.Ok)(hW:Wd c W)(hi:ii=(i:Int))(hi9:i<9)(hw:w.length≤c.sz i):
  bu ii w a0 a1 a2 a3 a4 a5 a6 a7 a8 a9 a10 a11 a12 a13 a14 a15 a16 X T l k c.P c.tk lv pk bd W=some (put W (c.off i) w):=by
 subst hi;have hk:=hW.tk h;have h9:=jh (c:=c) (i:=i) (j:=9) hi9;unfold bu;rw[cd (show i<c.P.length by rw[Cx.P_len];omega)];simp only[zG];rw[Cx.P_get (show i<10 by omega)];simp only[zG];unfold Cx.tk;rw[aR3 (by omega) hk.1 hk.2];rfl
theorem ck8 {R:Int}{l:List cu}{a:List Int}(hR:1≤R∧R≤64)(ha:(a.length:Int)≤R):nz R l a=some (fill R a):=by
 unfold nz ca;rw[dk (by omega) (by omega)];simp only[zG];rw[bk (n:=R-(a.length:Int)) (by omega)]
 have hz:og 8 (R-(a.length:Int))=true:=by
  unfold og;rw[zB (by omega),zB (by omega),zB (by omega)];rfl
 rw[hz,ei,dk (by rw[aD];omega) (by omega),show(R-(a.length:Int)).toNat=R.toNat-a.length by omega];rfl
theorem cu9 {R:Int}{ops:List cu}{x more:List Int}{a0 a1 a2 a3 a4 a5 a6 a7 a8 a9 a10 a11 a12 a13 a14 a15 a16:Int}{X T:List Int}{l k:List cu}{lv pk bd:Int}{W:List Int}(h:c.Ok)(hW:Wd c W)(hR:1≤R∧R≤64)(hx:(x.length:Int)+c.T.length+more.length≤R):
  kg R ops x more a0 a1 a2 a3 a4 a5 a6 a7 a8 a9 a10 a11 a12 a13 a14 a15 a16 X T l k c.P c.tk lv pk bd W=some (fill R (x++(seg W 0 c.T.length++more))):=by
 have hk:=hW.tk h;have h1:=jh (c:=c) (i:=0) (j:=9) (by omega);have hs:(seg W 0 c.T.length).length=c.T.length:=ib (by have:c.off 0+c.sz 0=0+c.T.length:=rfl;omega);unfold kg;rw[co3 (ii:=0) (i:=0) h hW rfl (by omega)];simp only[zG];have hseg:seg W (c.off 0) (c.sz 0)=seg W 0 c.T.length:=rfl
 rw[hseg,cm9 (fun a ha=>by
  simp only[List.mem_cons,List.not_mem_nil,or_false]at ha
  rcases ha with rfl|rfl|rfl<;>omega) (by simp)]
 simp only[zG];have e:[x,seg W 0 c.T.length,more].flatten=x++(seg W 0 c.T.length++more):=by simp
 have hl:(x++(seg W 0 c.T.length++more)).length=x.length+c.T.length+more.length:=by rw[aB,aB,hs];omega
 rw[e];generalize x++(seg W 0 c.T.length++more)=a at*;rw[bk (n:=R-(a.length:Int)) (by omega)]
 have hz:og 8 (R-(a.length:Int))=true:=by
  unfold og;rw[zB (by omega),zB (by omega),zB (by omega)];rfl
 rw[hz,ei,dk (by rw[aD];omega) (by omega),show(R-(a.length:Int)).toNat=R.toNat-a.length by omega];rfl
end
end
section
open Go.IntKind renaming wrap → zH, i64 → zI, u64 → zJ
open List renaming range → aB, getElem?_eq_none → bB, length_append → bD, replicate → cD, ext_getElem? → dB, length_take → dD
open Nat renaming le_refl → aD, le_of_eq → cB
theorem gdz {β:Type}{n:Int}{y:Option β}(h:0≤n∧n≤1048576):gd (Nat.beq 1 (Sh.w (.int .u64))&&decide (0≤n)&&decide (n≤n)&&decide ((8:Int)*n≤140737488355328)&&Nat.ble 1 8) y=y:=by
 rw[zB h.1,zB (Int.le_refl n),zB (by omega)];rfl
section
variable {c:Cx}
theorem Cx.Ok.of (h:c.Ok):kX c.mode c.X c.T c.R c.l c.Q c.k c.len c.words=some ((c.fl.n:Int),(c.fk.n:Int)):=by
 rw[cj2 h.hl h.hk,zF (fun k=>k h.hc),h.pl.w,h.pk.w]
def da (n:Nat):List Int:=cD n 0
def stepR (c:Cx)(W:List Int)(p:Int):TS:=qs c.fl (fill c.R (seg W (c.off 1) c.X.length++(seg W 0 c.T.length++[zH zJ p]))) (da c.fl.n)
def lossR (c:Cx)(W x:List Int):TS:=qs c.fk (fill c.Q (x++(seg W 0 c.T.length++[]))) (da c.fk.n)
def ui (x:Nat)(g a:List Int):List Int:=(aB g.length).map fun(i:Nat)=>IntKind.u64.wrap (rg g (i:Int)+rg a ((x+i:Nat):Int))
def ap0 (c:Cx)(W a:List Int):List Int:=
 put (put (put W (c.off 4) a) (c.off 5) (a.take c.X.length)) (c.off 6) (ui c.X.length (seg (put (put W (c.off 4) a) (c.off 5) (a.take c.X.length)) (c.off 6) c.T.length) a)
theorem uj (x:Nat)(g a:List Int):(ui x g a).length=g.length:=by unfold ui;simp
theorem Wd.in' {W:List Int}(h:c.Ok)(hW:Wd c W){i:Nat}(hi:i<9):c.off i+c.sz i≤W.length:=by
 have:=hW.tk h;have:=jh (c:=c) (i:=i) (j:=9) hi;omega
theorem bM9 {X:List Int}{a g:List Int}{f:Int×List Int→Option ((Int×List Int)⊕List Int)}(hg:g.length≤64)(hX:X.length≤64)(ha:X.length+g.length≤a.length)(hf: ∀s,f s=cond (decide (s.1<(((g.length:Nat):Int))))
   ((ix s.1 (s.2.length)).bind fun j=>(s.2[j]?).bind fun y=>(ix (zH zI (((X.length:Nat):Int)+s.1)) a.length).bind fun j'=>(a[j']?).bind fun y'=>(ix s.1 (s.2.length)).bind fun j''=>(s.2[j'']?).bind fun y''=>some (.inl (zH zI (s.1+1),s.2.set j'' (zH zJ (y+y')))))
   (some (.inr s.2))):bt f dy (0,g)=some (ui X.length g a):=by
 have hF: ∀i,((aB g.length).map fun(j:Nat)=>if j<i then zH zJ (rg g (j:Int)+rg a ((X.length+j:Nat):Int))else rg g (j:Int)).length=g.length:=fun i=>by simp
 have hget: ∀i j,j<g.length→((aB g.length).map fun(j:Nat)=>if j<i then zH zJ (rg g (j:Int)+rg a ((X.length+j:Nat):Int))else rg g (j:Int))[j]?=some (if j<i then zH zJ (rg g (j:Int)+rg a ((X.length+j:Nat):Int))else rg g (j:Int)):=fun i j hj=>by
  rw[List.getElem?_map,List.getElem?_range hj];rfl
 have e0:g=(aB g.length).map fun(j:Nat)=>if j<0 then zH zJ (rg g (j:Int)+rg a ((X.length+j:Nat):Int))else rg g (j:Int):=by
  apply dB;intro j;by_cases hj:j<g.length
  ·rw[hget 0 j hj,zF (by omega),du hj]
  ·rw[bB (by omega),bB (by simp;omega)]
 have e1:ui X.length g a=(aB g.length).map fun(j:Nat)=>if j<g.length then zH zJ (rg g (j:Int)+rg a ((X.length+j:Nat):Int))else rg g (j:Int):=by
  unfold ui;apply List.map_congr_left;intro j hj;rw[zE (List.mem_range.1 hj)]
 rw[e1];refine Eq.trans (congrArg (fun y=>bt f dy (0,y)) e0) ?_;refine ff (n:=g.length) (fun i=>(aB g.length).map fun(j:Nat)=>if j<i then zH zJ (rg g (j:Int)+rg a ((X.length+j:Nat):Int))else rg g (j:Int)) (by omega) (fun i hi=> ?_) ?_
 ·rw[hf];rw[zB (show(i:Int)<((g.length:Nat):Int)by omega),zC,cd (by rw[hF];exact hi)];simp only[zG];rw[hget i i hi];simp only[zG];rw[zF (Nat.lt_irrefl i),bk (n:=((X.length:Nat):Int)+(i:Int)) (by omega),show((X.length:Nat):Int)+(i:Int)=((X.length+i:Nat):Int)by omega,cd (show X.length+i<a.length by omega)];simp only[zG];rw[du (show X.length+i<a.length by omega)];simp only[zG];rw[bk (n:=(i:Int)+1) (by omega)]
  congr 3
  apply dB;intro j;by_cases hj:j<g.length
  ·rw[hget (i+1) j hj];by_cases hij:i=j
   ·subst hij;rw[List.getElem?_set_self (by rw[hF];exact hi),zE (Nat.lt_succ_self i)]
   ·rw[List.getElem?_set_ne hij,hget i j hj]
    congr 1
    by_cases h3:j<i
    ·rw[zE h3,zE (by omega)]
    ·rw[zF h3,zF (by omega)]
  ·rw[bB (by simp;omega),bB (by simp;omega)]
 ·rw[hf];rw[zA (by omega),zD]
theorem fd (n:Nat):(da n).length=n:=List.length_replicate
theorem mp (h:c.Ok){W:List Int}(hW:Wd c W)(p:Int):(fill c.R (seg W (c.off 1) c.X.length++(seg W 0 c.T.length++[zH zJ p]))).length=c.R.toNat∧(stepR c W p).1.length=c.R.toNat∧(stepR c W p).2.1.length=c.fl.n:=by
 have n:=h.num;have h1:=hW.in' h (i:=1) (by omega);have h0:=hW.in' h (i:=0) (by omega);have l1:(seg W (c.off 1) c.X.length).length=c.X.length:=ib h1;have l0:(seg W 0 c.T.length).length=c.T.length:=ib h0
 have hf:(fill c.R (seg W (c.off 1) c.X.length++(seg W 0 c.T.length++[zH zJ p]))).length=c.R.toNat:=by
  apply ik;rw[bD,bD,l1,l0];have:=n.xtR;simp;omega
 obtain⟨_,h2,h3⟩:=yj h.pl hf (t:=da c.fl.n) (by rw[fd];exact aD _) (by rw[fd];have:=n.n;omega);rw[fd]at h3;exact⟨hf,h2,h3⟩
theorem aq7 (h:c.Ok){W x:List Int}(hW:Wd c W)(hx:x.length=c.X.length):(fill c.Q (x++(seg W 0 c.T.length++[]))).length=c.Q.toNat∧(lossR c W x).1.length=c.Q.toNat∧(lossR c W x).2.1.length=c.fk.n:=by
 have n:=h.num;have h0:=hW.in' h (i:=0) (by omega);have l0:(seg W 0 c.T.length).length=c.T.length:=ib h0
 have hf:(fill c.Q (x++(seg W 0 c.T.length++[]))).length=c.Q.toNat:=by
  apply ik;rw[bD,bD,l0,hx];have:=n.xtQ;simp;omega
 obtain⟨_,h2,h3⟩:=yj h.pk hf (t:=da c.fk.n) (by rw[fd];exact aD _) (by rw[fd];have:=n.m;omega);rw[fd]at h3;exact⟨hf,h2,h3⟩
theorem rl (h:c.Ok){W a:List Int}(hW:Wd c W)(ha:c.X.length+c.T.length≤a.length)(ha2:a.length≤max c.R.toNat c.Q.toNat):
  Wd c (put W (c.off 4) a)∧Wd c (put (put W (c.off 4) a) (c.off 5) (a.take c.X.length))∧Wd c (ap0 c W a):=by
 have h4:=jh (c:=c) (i:=4) (j:=9) (by omega);have h5:=jh (c:=c) (i:=5) (j:=9) (by omega);have h6:=jh (c:=c) (i:=6) (j:=9) (by omega);have s4:c.sz 4=max c.R.toNat c.Q.toNat:=rfl;have s5:c.sz 5=c.X.length:=rfl;have s6:c.sz 6=c.T.length:=rfl;have w1:=hW.put h (w:=a) (o:=c.off 4) (by omega);have w2:=w1.put h (w:=a.take c.X.length) (o:=c.off 5) (by rw[dD];omega);refine⟨w1,w2, ?_⟩;unfold ap0;refine w2.put h ?_;rw[uj,ib (n:=c.T.length) (w2.in' h (i:=6) (by omega))];omega
theorem da6 (h:c.Ok){W:List Int}(hW:Wd c W){L p q c0 c1 c2 c3 z lv pk bd:Int}:
  lS c.fixed c.tp c.sl c.ns c.mode c.R c.Q c.len c.words L p q c0 c1 c2 c3 z c.X c.T c.l c.k c.P c.tk lv pk bd W=some (c.fixed,c.tp,c.sl,c.ns,c.mode,c.R,c.Q,c.len,c.words,L,p,q,c0,zH zI (c1+1),c2,c3,z,put W (c.off 2) (stepR c W p).1,(stepR c W p).1,(stepR c W p).2.1):=by
 have n:=h.num;obtain⟨f1,f2,f3⟩:=mp h hW p;have h1:=hW.in' h (i:=1) (by omega);have l1:(seg W (c.off 1) c.X.length).length=c.X.length:=ib h1;unfold lS;rw[h.of];simp only[zG];have gn:=n.n;rw[gdz (by omega),co3 (ii:=1) (i:=1) h hW rfl (by omega)];simp only[zG];rw[gdz (by omega),cu9 h hW n.R (by rw[show c.sz 1=c.X.length from rfl,l1];have:=n.xtR;simp;omega)];simp only[zG];rw[gdz (by omega),show c.sz 1=c.X.length from rfl,show cD ((c.fl.n:Int)).toNat (0:Int)=da c.fl.n from rfl];obtain⟨r1,r2,r3⟩:=yj h.pl f1 (t:=da c.fl.n) (by rw[fd];exact aD _) (by rw[fd];omega);rw[r1];simp only[zG];rw[put1 (ii:=2) (i:=2) h hW rfl (by omega) (by rw[show c.sz 2=c.R.toNat from rfl];exact cB r2)];rfl
theorem cU7 (h:c.Ok){W r a t:List Int}(hW:Wd c W)(hr:r.length=c.Q.toNat)(ha:a.length=c.Q.toNat)(ht:t.length=c.fk.n){L p q c0 c1 c2 c3 z lv pk bd:Int}:
  mM c.Q c.fixed c.tp c.sl c.ns c.mode c.R c.Q c.len c.words L p q c0 c1 c2 c3 z c.k r a t c.X c.T c.l c.P c.tk lv pk bd W=some (c.fixed,c.tp,c.sl,c.ns,c.mode,c.R,c.Q,c.len,c.words,L,p,q,c0,c1,c2,zH zI (c3+1),z,(mg c.fk r a t).1,(mg c.fk r a t).2.1,ap0 c W (mg c.fk r a t).2.1):=by
 have n:=h.num;obtain⟨r1,r2,r3⟩:=tt h.pk hr ha (cB ht.symm) (by have:=n.n;have:=n.m;omega);have nR:=n.R;have nQ:=n.Q;have n1:=n.xtR;have n2:=n.xtQ;have nx:=n.x;have nt:=n.t;unfold mM;rw[r1];simp only[zG];generalize mg c.fk r a t=q1 at*;have b:=rl h (a:=q1.2.1) hW (by omega) (by omega);obtain⟨b1,b2,b3⟩:=b;rw[put1 (ii:=4) (i:=4) h hW rfl (by omega) (by rw[show c.sz 4=max c.R.toNat c.Q.toNat from rfl];omega)];simp only[zG];rw[iw (by omega),ei,show((c.X.length:Int)).toNat-0=c.X.length by omega,List.drop_zero,put1 (ii:=5) (i:=5) h b1 rfl (by omega) (by rw[dD,show c.sz 5=c.X.length from rfl];omega)];simp only[zG];rw[co3 (ii:=6) (i:=6) h b2 rfl (by omega)];simp only[zG];rw[show c.sz 6=c.T.length from rfl];have hg:(seg (put (put W (c.off 4) q1.2.1) (c.off 5) (q1.2.1.take c.X.length)) (c.off 6) c.T.length).length=c.T.length:=ib (b2.in' h (i:=6) (by omega));rw[bM9 (f:=rH c.X (0,q1.1,q1.2.1) _) (X:=c.X) (a:=q1.2.1) (g:=seg (put (put W (c.off 4) q1.2.1) (c.off 5) (q1.2.1.take c.X.length)) (c.off 6) c.T.length) (by omega) (by omega) (by omega) (fun s=>rfl)]
 simp only[zG];rw[put1 (ii:=6) (i:=6) h b2 rfl (by omega) (by rw[uj,hg];exact aD _)];rfl
def bF5 (c:Cx)(W x:List Int):List Int:=ap0 c (put W (c.off 3) (lossR c W x).1) (mg c.fk (lossR c W x).1 (fill c.Q [1]) (lossR c W x).2.1).2.1
theorem aG5 (h:c.Ok){W x:List Int}(hW:Wd c W)(hx:x.length=c.X.length):Wd c (put W (c.off 3) (lossR c W x).1)∧Wd c (bF5 c W x):=by
 have n:=h.num;obtain⟨f1,f2,f3⟩:=aq7 h hW hx;have nR:=n.R;have nQ:=n.Q;have n2:=n.xtQ;have nx:=n.x;have nm:=n.m;have h3:=jh (c:=c) (i:=3) (j:=9) (by omega);have s3:c.sz 3=c.Q.toNat:=rfl;have w1:=hW.put h (w:=(lossR c W x).1) (o:=c.off 3) (by omega);obtain⟨_,r2,r3⟩:=tt h.pk f2 (a:=fill c.Q [1]) (t:=(lossR c W x).2.1) (ik (by simp;omega)) (cB f3.symm) (by omega);exact⟨w1,(rl h w1 (by omega) (by omega)).2.2⟩
theorem dk3 (h:c.Ok){W x:List Int}(hW:Wd c W)(hx:x.length=c.X.length){L p q c0 c1 c2 c3 z lv pk bd:Int}:
  nv x c.fixed c.tp c.sl c.ns c.mode c.R c.Q c.len c.words L p q c0 c1 c2 c3 z c.X c.T c.l c.k c.P c.tk lv pk bd W=some (c.fixed,c.tp,c.sl,c.ns,c.mode,c.R,c.Q,c.len,c.words,L,p,q,c0,c1,zH zI (c2+1),zH zI (c3+1),rg (lossR c W x).1 0,bF5 c W x):=by
 have n:=h.num;obtain⟨f1,f2,f3⟩:=aq7 h hW hx;obtain⟨w1,w2⟩:=aG5 h hW hx;have nR:=n.R;have nQ:=n.Q;have n2:=n.xtQ;have nx:=n.x;have nm:=n.m;unfold nv;rw[h.of];simp only[zG];rw[gdz (by omega),cu9 h hW n.Q (by simp;omega)];simp only[zG];rw[gdz (by omega),show cD ((c.fk.n:Int)).toNat (0:Int)=da c.fk.n from rfl];obtain⟨r1,r2,r3⟩:=yj h.pk f1 (t:=da c.fk.n) (by rw[fd];exact aD _) (by rw[fd];omega);rw[r1];simp only[zG];have e:qs c.fk (fill c.Q (x++(seg W 0 c.T.length++[]))) (da c.fk.n)=lossR c W x:=rfl;rw[e];have i0:ix 0 (lossR c W x).1.length=some 0:=cd (k:=0) (by omega);have g0:(lossR c W x).1[0]?=some (rg (lossR c W x).1 0):=du (k:=0) (by omega);rw[i0];simp only[zG];rw[g0];simp only[zG];rw[put1 (ii:=3) (i:=3) h hW rfl (by omega) (by rw[show c.sz 3=c.Q.toNat from rfl];exact cB f2)];simp only[zG];rw[ck8 n.Q (by simp;omega)]
 simp only[zG];rw[cU7 h w1 f2 (ik (by simp;omega)) f3];rfl
theorem dh3 (h:c.Ok){W:List Int}(hW:Wd c W){i0 L p q c0 c1 c2 c3 z lv pk bd:Int}(hl:0≤lv)(hp:lv≤pk)(hb:lv+c.fk.n≤bd)(hbd:bd≤1048576):
  kG i0 c.fixed c.tp c.sl c.ns c.mode c.R c.Q c.len c.words L p q c0 c1 c2 c3 z c.X c.T c.l c.k c.P c.tk lv pk bd W=some (c.fixed,c.tp,c.sl,c.ns,c.mode,c.R,c.Q,c.len,c.words,L,p,q,c0,c1,zH zI (c2+1),zH zI (c3+1),rg (lossR c W (seg W (c.off 1) c.X.length)).1 0,lv,max pk (lv+c.fk.n),bd,bF5 c W (seg W (c.off 1) c.X.length)):=by
 have n:=h.num;have h1:=hW.in' h (i:=1) (by omega);have l1:(seg W (c.off 1) c.X.length).length=c.X.length:=ib h1;unfold kG;rw[h.of];simp only[zG];rw[bg4 (by omega) hl hb hbd];simp only[zG];rw[co3 (ii:=1) (i:=1) h hW rfl (by omega)];simp only[zG];rw[show c.sz 1=c.X.length from rfl,dk3 h hW l1];simp only[zG];rw[bg3 (by omega) (by omega) (by omega) (by omega)];simp only[zG];rw[show lv+(c.fk.n:Int)-c.fk.n=lv by omega]
end
end
section
section
variable {c:Cx}
def bv9 (c:Cx)(W r t:List Int):List Int:=ap0 c W (mg c.fl r (fill c.R (seg W (c.off 5) c.X.length)) t).2.1
theorem bk8 (h:c.Ok){W r t:List Int}(hW:Wd c W)(hr:r.length=c.R.toNat)(ht:t.length=c.fl.n):(fill c.R (seg W (c.off 5) c.X.length)).length=c.R.toNat∧Wd c (bv9 c W r t):=by
 have n:=h.num;have nR:=n.R;have n1:=n.xtR;have nx:=n.x;have nn:=n.n;have h5:=hW.in' h (i:=5) (by omega);have l5:(seg W (c.off 5) c.X.length).length=c.X.length:=ib h5;have hf:(fill c.R (seg W (c.off 5) c.X.length)).length=c.R.toNat:=ik (by omega);obtain⟨_,r2,r3⟩:=tt h.pl hr hf (Nat.le_of_eq ht.symm) (by omega);exact⟨hf,(rl h hW (by omega) (by omega)).2.2⟩
def cB6 (c:Cx)(W:List Int)(p:Int):List Int:=bv9 c (put W (c.off 2) (stepR c W p).1) (stepR c W p).1 (stepR c W p).2.1
theorem av2 (h:c.Ok){W:List Int}(hW:Wd c W)(p:Int):Wd c (put W (c.off 2) (stepR c W p).1):=by
 obtain⟨_,f2,_⟩:=mp h hW p;have h2:=jh (c:=c) (i:=2) (j:=9) (by omega);have s2:c.sz 2=c.R.toNat:=rfl;exact hW.put h (by omega)
def bO2 (c:Cx)(W:List Int)(p:Int):List Int:=bv9 c (bF5 c (put W (c.off 2) (stepR c W p).1) ((stepR c W p).1.take c.X.length)) (stepR c W p).1 (stepR c W p).2.1
def aT6 (c:Cx)(W:List Int)(p:Int):List Int:=aJ3 c.fl (fill c.R (seg W (c.off 1) c.X.length++(seg W 0 c.T.length++[IntKind.u64.wrap p])))
def adv1 (c:Cx)(W:List Int)(p:Int):List Int:=put (put W (c.off 2) (aT6 c W p)) (c.off 1) ((aT6 c W p).take c.X.length)
def advW (c:Cx)(W:List Int)(p:Int):Nat→List Int
 |0=>W
 |i+1=>adv1 c (advW c W p i) (p+i)
theorem cn7 {R:Int}{r:List Int}(h:r.length=R.toNat):fill R r=r:=by
 unfold fill;rw[h,Nat.sub_self];simp
theorem aT7 (h:c.Ok){W:List Int}(hW:Wd c W)(p:Int):qc c.R c.l (fill c.R (seg W (c.off 1) c.X.length++(seg W 0 c.T.length++[IntKind.u64.wrap p])))=some (0,aT6 c W p)∧(aT6 c W p).length=c.R.toNat:=by
 obtain⟨f1,_,_⟩:=mp h hW p;have:=bP6 h.pl (r:=fill c.R (seg W (c.off 1) c.X.length++(seg W 0 c.T.length++[IntKind.u64.wrap p]))) (Nat.le_of_eq f1);rw[cn7 f1]at this;exact this
theorem cg0 (h:c.Ok){W:List Int}(hW:Wd c W)(p:Int):Wd c (put W (c.off 2) (aT6 c W p))∧Wd c (adv1 c W p):=by
 have n:=h.num;have nR:=n.R;have n1:=n.xtR;obtain⟨_,f2⟩:=aT7 h hW p;have h1:=jh (c:=c) (i:=1) (j:=9) (by omega);have h2:=jh (c:=c) (i:=2) (j:=9) (by omega);have s1:c.sz 1=c.X.length:=rfl;have s2:c.sz 2=c.R.toNat:=rfl;have w1:=hW.put h (w:=aT6 c W p) (o:=c.off 2) (by omega);exact⟨w1,w1.put h (by rw[List.length_take];omega)⟩
theorem bE0 (h:c.Ok){W:List Int}(hW:Wd c W)(p:Int): ∀i,Wd c (advW c W p i)
 |0=>hW
 |i+1=>(cg0 h (bE0 h hW p i) _).2
end
end
section
open List renaming range → aB
def mE (a n:Int):Bool:=if a<1 then false else if 9<a then false else if a=1 then decide (1≤n∧n<65536)else if a≤4 then decide (0≤n∧n<1048576)else decide (n=0)
section
variable {c:Cx}
def sp (c:Cx)(k:Nat):Nat:=c.off 8+k*(c.X.length+1)
def gc (c:Cx)(W:List Int)(k:Nat):Int:=rg W (sp c k:Int)
def we (c:Cx)(W:List Int):List Int:=(aB c.ns.toNat).map fun(k:Nat)=>gc c W k-1
structure Dy where
 L:Int
 p:Int
 q:Int
 c0:Int
 c1:Int
 c2:Int
 c3:Int
 z:Int
 lv:Int
 pk:Int
 W:List Int
def jy (c:Cx)(W:List Int):Nat:=(aB c.ns.toNat).countP fun(k:Nat)=>decide (0<gc c W k)
structure Inv (c:Cx)(s:Dy):Prop where
 w:Wd c s.W
 L:0≤s.L∧s.L≤65535
 p:0≤s.p∧s.p≤s.L
 q: -1≤s.q∧s.q≤s.L
 tag: ∀k,k<c.ns.toNat→0≤gc c s.W k∧gc c s.W k≤s.L+1
 lv:s.lv=c.fixed+c.sl*jy c s.W
 pk:s.lv≤s.pk∧s.pk≤c.words
theorem vl (h:c.Ok)(hm:c.mode≠3){k:Nat}(hk:k<c.ns.toNat):sp c k+(c.X.length+1)≤c.off 9∧c.ns.toNat*(c.X.length+1)+c.off 8=c.off 9∧c.ns.toNat≤524288:=by
 have n:=h.num;have hsl:=n.sl;rw[zF hm]at hsl;have hns:=h.ns
 have e:(c.sl*c.ns).toNat=c.ns.toNat*(c.X.length+1):=by
  have:c.sl*c.ns=((c.ns.toNat*(c.X.length+1):Nat):Int):=by
   rw[Int.natCast_mul,hsl,Int.toNat_of_nonneg hns.1,Int.mul_comm]
   congr 1
  rw[this];rfl
 have h9:c.off 9=c.off 8+c.ns.toNat*(c.X.length+1):=by rw[bq3,e]
 have h1:(k+1)*(c.X.length+1)≤c.ns.toNat*(c.X.length+1):=Nat.mul_le_mul_right _ hk;rw[Nat.succ_mul]at h1;have h2:=h.off9_le;have h3:=n.words;have h4:c.ns.toNat*2≤c.ns.toNat*(c.X.length+1):=Nat.mul_le_mul_left _ (by have:=n.x;omega);unfold sp;omega
theorem af4 (h:c.Ok)(hm:c.mode≠3){k:Nat}(hk:k<c.ns.toNat):ed (c.off 8:Int) c.ns (c.X.length:Int) (k:Int)=some (sp c k:Int):=by
 obtain⟨h1,h2,h3⟩:=vl h hm hk;have h4:=h.off9_le;have h5:=h.num.words;have h6:=h.num.x;unfold sp at h1;unfold ed gm;simp only[zG];have e:(k:Int)*((c.X.length:Int)+1)=((k*(c.X.length+1):Nat):Int):=by rw[Int.natCast_mul];congr 1
 rw[bk (n:=(c.X.length:Int)+1) (by omega),e,bk (n:=((k*(c.X.length+1):Nat):Int)) (by omega),bk (by omega)];unfold sp
 congr 1
theorem aY4 (h:c.Ok)(hm:c.mode≠3){W:List Int}(hW:Wd c W){k:Nat}(hk:k<c.ns.toNat):gw (sp c k:Int) c.tk W=some (gc c W k,0):=by
 obtain⟨h1,_,_⟩:=vl h hm hk;obtain⟨h2,h3⟩:=hW.tk h;exact cl6 (by omega) h2 h3
theorem ck2 (h:c.Ok)(hm:c.mode≠3){W:List Int}(hW:Wd c W)(ht: ∀k,k<c.ns.toNat→0≤gc c W k∧gc c W k≤65536):jr (c.off 8:Int) c.ns (c.X.length:Int) c.tk W=some (we c W):=by
 unfold jr;have hns:=h.ns
 have key:bt (jt (c.off 8:Int) c.ns (c.X.length:Int) c.tk W) dy (0,(aB 0).map fun(k:Nat)=>gc c W k-1)=some (we c W):=by
  refine ff (n:=c.ns.toNat) (fun i=>(aB i).map fun(k:Nat)=>gc c W k-1) (by omega) (fun i hi=> ?_) ?_
  ·have hti:=ht i hi;unfold jt;simp only;rw[zB (by omega),zC,af4 h hm hi];simp only[zG];rw[aY4 h hm hW hi];simp only[zG];rw[dk (by simp;omega) (by omega),bk (n:=(i:Int)+1) (by omega),bk (n:=gc c W i) (by omega),bk (n:=gc c W i-1) (by omega),List.range_succ,List.map_append];rfl
  ·unfold jt;simp only;rw[zA (by omega),zD];rfl
 have key:bt (jt (c.off 8:Int) c.ns (c.X.length:Int) c.tk W) dy (0,[])=_:=key;rw[key];rfl
theorem bk1 {W:List Int}{k:Nat}(hk:k<c.ns.toNat):(we c W)[k]?=some (gc c W k-1):=by
 unfold we;rw[List.getElem?_map,List.getElem?_range hk];rfl
theorem zQ {W:List Int}:(we c W).length=c.ns.toNat:=by unfold we;simp
theorem bp6 {l:List Int}{L:Int}(hl:l.length<1000000)(h: ∀t∈l,-1≤t∧t≤L):dw l L=some false:=by
 unfold dw jk
 have key:bt (cw l L) dy 0=some (.inr ()):=by
  refine ru (n:=l.length) (by omega) (fun i hi=> ?_) ?_
  ·have:=h l[i] (List.getElem_mem hi);unfold cw kn;rw[zB (by omega),zC,ci hi];simp only[zG];rw[zA (by omega),zD];simp only[zG];rw[zA (by omega),zD,bk (by omega)];rfl
  ·unfold cw;rw[zA (by omega),zD]
 rw[key];rfl
theorem cb0 {L p q:Int}{l:List Int}(hL:0≤L∧L≤65535)(hp:0≤p∧p≤L)(hq: -1≤q∧q≤L)(hl:l.length<1000000)(h: ∀t∈l,-1≤t∧t≤L):kO L p q l=some (.inr (p,q,L,l)):=by
 unfold kO rR kn;rw[zB (show 0≤L by omega),zB (show L<65536 by omega)];simp only[zC,zG,Bool.not_true,zD];rw[zA (show¬(1048576<(l.length:Int))by omega),zA (show¬p= -1 by omega),zA (show¬p< -1 by omega),zA (show¬L<p by omega),zA (show¬q< -1 by omega),zA (show¬L<q by omega)];simp only[zD,zG];rw[bp6 hl h];simp only[zG,zD];unfold kQ;rw[dk (by omega) (by omega)];rfl
end
end
section
open Int renaming mul_le_mul_of_nonneg_left → aB
open List renaming countP_le_length → aD
section
variable {c:Cx}
def doF (c:Cx)(a n:Int)(s:Dy):Int×Dy:=
 if mE a n=false∨7<a then(2,s)
 else if(2≤a∧a≤4)∧c.ns≤n then(2,s)
 else if a=1 then(if s.L-s.p<n then(17,s)else(0,{s with p:=s.p+n,c0:=s.c0+n,W:=advW c s.W s.p n.toNat}))
 else if a=2 then(if 0≤gc c s.W n.toNat-1 then(15,s)else(0,{s with lv:=s.lv+c.sl,pk:=max s.pk (s.lv+c.sl),W:=put s.W (sp c n.toNat) (IntKind.u64.wrap (IntKind.i64.wrap (s.p+1))::seg s.W (c.off 1) c.X.length)}))
 else if a=3 then(if gc c s.W n.toNat-1<0 then(16,s)else(0,{s with p:=gc c s.W n.toNat-1,W:=put s.W (c.off 1) (seg s.W (sp c n.toNat+1) c.X.length)}))
 else if a=4 then(if gc c s.W n.toNat-1<0 then(16,s)else(0,{s with lv:=s.lv-c.sl,W:=put s.W (sp c n.toNat) (da (c.X.length+1))}))
 else if a=5 then(if s.q≠ -1 then(18,s)else if s.p≠s.L then(17,s)else(0,{s with q:=s.p,c2:=s.c2+1,c3:=s.c3+1,z:=rg (lossR c s.W (seg s.W (c.off 1) c.X.length)).1 0,pk:=max s.pk (s.lv+c.fk.n),W:=bF5 c s.W (seg s.W (c.off 1) c.X.length)}))
 else if a=6 then(if s.q≠ -1 then(18,s)else if s.p≠s.L-1 then(17,s)else(0,{s with q:=s.p,c1:=s.c1+1,c2:=s.c2+1,c3:=s.c3+1+1,z:=rg (lossR c (put s.W (c.off 2) (stepR c s.W s.p).1) ((stepR c s.W s.p).1.take c.X.length)).1 0,pk:=max s.pk (s.lv+(c.fl.n+c.fk.n)),W:=bO2 c s.W s.p}))
 else(if s.q≤0 then(18,s)else if s.p≠s.q-1 then(17,s)else(0,{s with q:=s.p,c1:=s.c1+1,c3:=s.c3+1,pk:=max s.pk (s.lv+c.fl.n),W:=cB6 c s.W s.p}))
def dk2 (c:Cx)(r:Int×Dy):Int×Int×Int×Int×Int×Int×Int×Int×Int×Int×Int×Int×Int×Int×Int×Int×Int×Int×Int×Int×Int×List Int:=
 (r.1,c.fixed,c.tp,c.sl,c.ns,c.mode,c.R,c.Q,c.len,c.words,r.2.L,r.2.p,r.2.q,r.2.c0,r.2.c1,r.2.c2,r.2.c3,r.2.z,r.2.lv,r.2.pk,c.words,r.2.W)
def Cnt (B:Int)(s:Dy):Prop:=(0≤s.c0∧s.c0≤B)∧(0≤s.c1∧s.c1≤B)∧(0≤s.c2∧s.c2≤B)∧(0≤s.c3∧s.c3≤B)
theorem ck7 (c:Cx)(W:List Int):jy c W≤c.ns.toNat:=by
 unfold jy;exact Nat.le_trans aD (by simp)
theorem aX9 (h:c.Ok){s:Dy}(hi:Inv c s):0≤s.lv∧s.lv+c.tp≤c.words∧c.words≤1048576∧0≤c.tp:=by
 have n:=h.num;have h1:=hi.lv;have h2:=ck7 c s.W;have h3:=h.fit;have h4:=n.fixed;have h5:=h.ns;have h6:=n.sl;have h7:1≤c.sl:=by rw[h6];have:=n.R;split<;>omega
 have h8:c.sl*(jy c s.W:Int)≤c.sl*c.ns:=aB (by omega) (by omega);have h9:0≤c.sl*(jy c s.W:Int):=Int.mul_nonneg (by omega) (by omega);have h10:0≤c.tp:=by rw[n.tp];split<;>omega
 have:=n.R;have:=n.Q;have:=n.words;refine⟨by omega,by omega,by omega,h10⟩
theorem cp1 (h:c.Ok){s:Dy}(hi:Inv c s)(hu:jy c s.W<c.ns.toNat):s.lv+c.sl≤c.words:=by
 have n:=h.num;have h1:=hi.lv;have h3:=h.fit;have h5:=h.ns;have h6:=n.sl;have h7:1≤c.sl:=by rw[h6];have:=n.R;split<;>omega
 have h8:c.sl*((jy c s.W:Int)+1)≤c.sl*c.ns:=aB (by omega) (by omega);have h10:0≤c.tp:=by rw[n.tp];split<;>omega
 rw[Int.mul_add,Int.mul_one]at h8;omega
theorem cn0 {l:List Nat}{P:Nat→Bool}{k:Nat}(hk:k∈l)(hP:P k=false):l.countP P<l.length:=by
 rcases Nat.lt_or_ge (l.countP P) l.length with h|h
 ·exact h
 ·have:=List.countP_eq_length.1 (Nat.le_antisymm aD h) k hk;rw[hP]at this;cases this
theorem co0 {W:List Int}{k:Nat}(hk:k<c.ns.toNat)(ht:gc c W k≤0):jy c W<c.ns.toNat:=by
 have:=cn0 (l:=List.range c.ns.toNat) (P:=fun(k:Nat)=>decide (0<gc c W k)) (k:=k) (List.mem_range.2 hk) (zA (by omega));rw[List.length_range]at this;exact this
end
end
section
def ca9 (a n p q L tot:Int)(l:List Int):Int×Int×Int×Int×Int×List Int:=
 if mE a n=false∨7<a then(2,p,q,L,tot,l)
 else if(2≤a∧a≤4)∧(l.length:Int)≤n then(2,p,q,L,tot,l)
 else if a=1 then(if L-p<n then(17,p,q,L,tot,l)else(0,p+n,q,L,tot+n,l))
 else if a=2 then(if 0≤rg l n then(15,p,q,L,tot,l)else(0,p,q,L,tot,l.set n.toNat p))
 else if a=3 then(if rg l n<0 then(16,p,q,L,tot,l)else(0,rg l n,q,L,tot,l))
 else if a=4 then(if rg l n<0 then(16,p,q,L,tot,l)else(0,p,q,L,tot,l.set n.toNat (-1)))
 else if a=5 then(if q≠ -1 then(18,p,q,L,tot,l)else if p≠L then(17,p,q,L,tot,l)else(0,p,p,L,tot,l))
 else if a=6 then(if q≠ -1 then(18,p,q,L,tot,l)else if p≠L-1 then(17,p,q,L,tot,l)else(0,p,p,L,tot,l))
 else(if q≤0 then(18,p,q,L,tot,l)else if p≠q-1 then(17,p,q,L,tot,l)else(0,p,p,L,tot,l))
theorem af8 {a n:Int}(h: ¬(mE a n=false∨7<a)):mE a n=true∧(a=1∨a=2∨a=3∨a=4∨a=5∨a=6∨a=7):=by
 have h1:mE a n=true:=by
  cases hr:mE a n with
  |true=>rfl
  |false=>exact(h (.inl hr)).elim
 refine⟨h1, ?_⟩;have h2: ¬a<1:=fun h3=>by unfold mE at h1;rw[zE h3]at h1;cases h1
 omega
theorem vZ {a n:Int}(h:mE a n=true)(ha:1≤a∧a≤4):0≤n∧n<1048576∧(a=1→1≤n∧n<65536):=by
 unfold mE at h;rw[zF (by omega),zF (by omega)]at h;by_cases h1:a=1
 ·rw[zE h1]at h;have:=of_decide_eq_true h;omega
 ·rw[zF h1,zE (by omega)]at h;have:=of_decide_eq_true h;omega
section
variable {c:Cx}
theorem bV7 {W:List Int}{L:Int}(ht: ∀k,k<c.ns.toNat→0≤gc c W k∧gc c W k≤L+1): ∀t∈we c W,-1≤t∧t≤L:=fun t hm=>by
 unfold we at hm;obtain⟨k,hk,rfl⟩:=List.mem_map.1 hm;have:=ht k (List.mem_range.1 hk);omega
theorem cN2 {W:List Int}{n:Int}(h:0≤n)(hn:n.toNat<c.ns.toNat):rg (we c W) n=gc c W n.toNat-1:=by
 have h1:=bk1 (c:=c) (W:=W) hn;have h2:=du (r:=we c W) (k:=n.toNat) (by rw[zQ];exact hn);rw[h1,Int.toNat_of_nonneg h]at h2;injection h2 with h2
 exact h2.symm
theorem Cnt.in' {B:Int}{s:Dy}(h:Cnt B s)(hB:B≤2305843009213693952):(0≤s.c0∧s.c0≤2305843009213693952)∧(0≤s.c1∧s.c1≤2305843009213693952)∧(0≤s.c2∧s.c2≤2305843009213693952)∧(0≤s.c3∧s.c3≤2305843009213693952):=by
 unfold Cnt at h;omega
theorem cE4 {W:List Int}{k:Nat}(hk:k<c.ns.toNat)(ht:0<gc c W k):0<jy c W:=by
 unfold jy;exact List.countP_pos_iff.2 ⟨k,List.mem_range.2 hk,zB ht⟩
theorem cy0 (h:c.Ok){s:Dy}(hi:Inv c s)(hu:0<jy c s.W):c.sl≤s.lv:=by
 have n:=h.num;have h1:=hi.lv;have h4:=n.fixed;have h6:=n.sl;have h7:1≤c.sl:=by rw[h6];have:=n.R;split<;>omega
 have h8:c.sl*1≤c.sl*(jy c s.W:Int):=Int.mul_le_mul_of_nonneg_left (by omega) (by omega);have:=n.R;have:=n.Q;omega
end
end
section
open Go.IntKind renaming wrap → zH, i64 → zI, u64 → zJ
open Int renaming reduceEq → aB, le_max_left → cB, toNat_natCast → cD
open List renaming getD_eq_getElem?_getD → aD, range → bD, length_take → dB, countP_append → eD
open Nat renaming le_of_eq → bB, le_refl → dD
section
variable {c:Cx}
def fm (c:Cx)(W W':List Int):Prop:= ∀i,c.off 8≤i→W'[i]?=W[i]?
theorem fm.refl (W:List Int):fm c W W:=fun _ _=>rfl
theorem fm.trans {W W' W'':List Int}(h:fm c W W')(h':fm c W' W''):fm c W W'':=fun i hi=>(h' i hi).trans (h i hi)
theorem fm.put (h:c.Ok){W W' w:List Int}{i:Nat}(hK:fm c W W')(hW:Wd c W')(hi:i<8)(hw:w.length≤c.sz i):fm c W (put W' (c.off i) w):=fun j hj=>by
 have h1:=jh (c:=c) (i:=i) (j:=8) hi;have h2:=hW.in' h (i:=i) (by omega);rw[bH9 (by omega) (.inr (by omega))];exact hK j hj
theorem fm.rg {W W':List Int}(h:fm c W W'){i:Nat}(hi:c.off 8≤i):rg W' (i:Int)=rg W (i:Int):=by
 unfold Go.V.rg;rw[cD,aD,aD,h i hi]
theorem fm.tag {W W':List Int}(h:fm c W W')(k:Nat):gc c W' k=gc c W k:=h.rg (by unfold sp;omega)
theorem fm.used {W W':List Int}(h:fm c W W'):jy c W'=jy c W:=by
 unfold jy
 congr 1
 funext k
 rw[h.tag k]
theorem fm.seg {W W':List Int}(h:fm c W W'){o n:Nat}(ho:c.off 8≤o):seg W' o n=seg W o n:=by
 apply List.ext_getElem?;intro i;rw[tK,tK];split
 ·exact h _ (by omega)
 ·rfl
theorem bf4 (h:c.Ok){W a:List Int}(hW:Wd c W)(ha:c.X.length+c.T.length≤a.length)(ha2:a.length≤max c.R.toNat c.Q.toNat):fm c W (ap0 c W a):=by
 obtain⟨w1,w2,w3⟩:=rl h hW ha ha2;unfold ap0;refine fm.put h (fm.put h (fm.put h (fm.refl W) hW (by omega) ?_) w1 (by omega) ?_) w2 (by omega) ?_
 ·exact ha2
 ·rw[dB];exact Nat.min_le_left _ _
 ·rw[uj,ib (n:=c.T.length) (w2.in' h (i:=6) (by omega))];exact dD _
theorem aX8 (h:c.Ok){W x:List Int}(hW:Wd c W)(hx:x.length=c.X.length):fm c W (bF5 c W x):=by
 have n:=h.num;have nR:=n.R;have nQ:=n.Q;have n2:=n.xtQ;have nx:=n.x;have nm:=n.m;obtain⟨f1,f2,f3⟩:=aq7 h hW hx;obtain⟨w1,w2⟩:=aG5 h hW hx;obtain⟨_,r2,r3⟩:=tt h.pk f2 (a:=fill c.Q [1]) (t:=(lossR c W x).2.1) (ik (by simp;omega)) (bB f3.symm) (by omega);exact(fm.put h (fm.refl W) hW (i:=3) (by omega) (bB f2)).trans (bf4 h w1 (by omega) (by omega))
theorem bQ5 (h:c.Ok){W r t:List Int}(hW:Wd c W)(hr:r.length=c.R.toNat)(ht:t.length=c.fl.n):fm c W (bv9 c W r t):=by
 have n:=h.num;have nR:=n.R;have n1:=n.xtR;have nx:=n.x;have nn:=n.n;obtain⟨f1,f2⟩:=bk8 h hW hr ht;obtain⟨_,r2,r3⟩:=tt h.pl hr f1 (bB ht.symm) (by omega);exact bf4 h hW (by omega) (by omega)
theorem bt3 (h:c.Ok){W:List Int}(hW:Wd c W)(p:Int):fm c W (put W (c.off 2) (stepR c W p).1):=
 fm.put h (fm.refl W) hW (i:=2) (by omega) (bB (mp h hW p).2.1)
theorem bG7 (h:c.Ok){W:List Int}(hW:Wd c W)(p:Int):fm c W (cB6 c W p)∧Wd c (cB6 c W p):=by
 obtain⟨f1,f2,f3⟩:=mp h hW p;have w1:=av2 h hW p;exact⟨(bt3 h hW p).trans (bQ5 h w1 f2 f3),(bk8 h w1 f2 f3).2⟩
theorem cs2 (h:c.Ok){W:List Int}(hW:Wd c W)(p:Int):((stepR c W p).1.take c.X.length).length=c.X.length:=by
 have n:=h.num;have nR:=n.R;have n1:=n.xtR;obtain⟨f1,f2,f3⟩:=mp h hW p;rw[dB];omega
theorem bf5 (h:c.Ok){W:List Int}(hW:Wd c W)(p:Int):fm c W (bO2 c W p)∧Wd c (bO2 c W p):=by
 obtain⟨f1,f2,f3⟩:=mp h hW p;have w1:=av2 h hW p;have hx:=cs2 h hW p;have w2:=(aG5 h w1 hx).2;exact⟨((bt3 h hW p).trans (aX8 h w1 hx)).trans (bQ5 h w2 f2 f3),(bk8 h w2 f2 f3).2⟩
theorem cx2 (h:c.Ok){W:List Int}(hW:Wd c W)(p:Int):fm c W (adv1 c W p):=by
 obtain⟨_,f2⟩:=aT7 h hW p;obtain⟨w1,w2⟩:=cg0 h hW p;refine fm.put h (fm.put h (fm.refl W) hW (i:=2) (by omega) (bB f2)) w1 (i:=1) (by omega) ?_;rw[dB];exact Nat.min_le_left _ _
theorem bG6 (h:c.Ok){W:List Int}(hW:Wd c W)(p:Int): ∀i,fm c W (advW c W p i)
 |0=>fm.refl W
 |i+1=>(bG6 h hW p i).trans (cx2 h (bE0 h hW p i) _)
theorem ap7 {P P':Nat→Bool}{k:Nat}: ∀{n:Nat},k<n→P k=false→P' k=true→(∀j,j<n→j≠k→P' j=P j)→(bD n).countP P'=(bD n).countP P+1
 |n+1,hk,h0,h1,hne=>by
  rw[List.range_succ,eD,eD];by_cases hkn:k=n
  ·subst hkn
   have e:(bD k).countP P'=(bD k).countP P:=List.countP_congr fun j hj=>by
    have:=List.mem_range.1 hj;rw[hne j (by omega) (by omega)]
   rw[e];simp[h0,h1]
  ·rw[ap7 (n:=n) (by omega) h0 h1 fun j hj hjk=>hne j (by omega) hjk];have:[n].countP P'=[n].countP P:=by simp[hne n (by omega) (by omega)]
   omega
theorem cT7 {j k:Nat}(h:j<k):sp c j+(c.X.length+1)≤sp c k:=by
 have h1:(j+1)*(c.X.length+1)≤k*(c.X.length+1):=Nat.mul_le_mul_right _ h;rw[Nat.succ_mul]at h1;unfold sp;omega
theorem ck1 {W w:List Int}{j k:Nat}(hlen:sp c k+w.length≤W.length)(hw:w.length=c.X.length+1)(hjk:j≠k):gc c (put W (sp c k) w) j=gc c W j:=by
 unfold gc rg;rw[cD,aD,aD,bH9 hlen];rcases Nat.lt_or_ge j k with h|h
 ·exact .inl (by have:=cT7 (c:=c) h;omega)
 ·exact .inr (by have:=cT7 (c:=c) (show k<j by omega);omega)
theorem aJ8 {W w:List Int}{k:Nat}(hlen:sp c k+w.length≤W.length)(hw:w.length=c.X.length+1):gc c (put W (sp c k) w) k=w.getD 0 0:=by
 unfold gc rg;rw[cD,aD,aD,af5 hlen,zE ⟨dD _,by omega⟩,Nat.sub_self]
theorem aq4 {s s':Dy}(hi:Inv c s)(hW:Wd c s'.W)(hk:fm c s.W s'.W)(hL:s'.L=s.L)(hp:0≤s'.p∧s'.p≤s.L)(hq: -1≤s'.q∧s'.q≤s.L)(hlv:s'.lv=s.lv)(hpk:s.pk≤s'.pk∧s'.pk≤c.words):Inv c s':=
 ⟨hW,by rw[hL];exact hi.L,by rw[hL];exact hp,by rw[hL];exact hq,fun k hkk=>by rw[hk.tag,hL];exact hi.tag k hkk,by rw[hlv,hk.used];exact hi.lv,by rw[hlv];exact⟨Int.le_trans hi.pk.1 hpk.1,hpk.2⟩⟩
theorem cg7 (h:c.Ok)(hm:c.mode≠3){s:Dy}(hi:Inv c s)(a n:Int):Inv c (doF c a n s).2:=by
 have nm:=h.num;have hW:=hi.w;have hL:=hi.L;have hp:=hi.p;have hq:=hi.q;have hpk:=hi.pk;have hns:=h.ns;have nx:=nm.x;obtain⟨g1,g2,g3,g4⟩:=aX9 h hi;have htp:=nm.tp;rw[zF hm]at htp;have hsl:=nm.sl;rw[zF hm]at hsl;have l1:(seg s.W (c.off 1) c.X.length).length=c.X.length:=ib (hW.in' h (i:=1) (by omega));unfold doF;by_cases h1:mE a n=false∨7<a
 ·rw[zE h1];exact hi
 rw[zF h1];obtain⟨h2,hk⟩:=af8 h1;by_cases h4:(2≤a∧a≤4)∧c.ns≤n
 ·rw[zE h4];exact hi
 rw[zF h4]
 have slot:(2≤a∧a≤4)→n.toNat<c.ns.toNat:=fun hs=>by
  have hn:=vZ h2 ⟨by omega,hs.2⟩;have: ¬c.ns≤n:=fun h7=>h4 ⟨hs,h7⟩
  omega
 rcases hk with rfl|rfl|rfl|rfl|rfl|rfl|rfl
 ·have hn:=vZ h2 (by omega);simp only[aB,reduceIte];by_cases h5:s.L-s.p<n
  ·rw[zE h5];exact hi
  ·rw[zF h5];exact aq4 hi (bE0 h hW _ _) (bG6 h hW _ _) rfl ⟨by show 0≤s.p+n;omega,by show s.p+n≤s.L;omega⟩ hq rfl ⟨Int.le_refl _,hpk.2⟩
 ·have hlt:=slot (by omega);simp only[aB,reduceIte];by_cases h5:0≤gc c s.W n.toNat-1
  ·rw[zE h5];exact hi
  rw[zF h5];generalize n.toNat=k at*;obtain⟨s1,s2,s3⟩:=vl h hm hlt;obtain⟨t1,t2⟩:=hW.tk h;have htk:=hi.tag k hlt;have hw:(zH zJ (zH zI (s.p+1))::seg s.W (c.off 1) c.X.length).length=c.X.length+1:=by simp[l1]
  have hnew:=aJ8 (c:=c) (W:=s.W) (k:=k) (w:=zH zJ (zH zI (s.p+1))::seg s.W (c.off 1) c.X.length) (by omega) hw
  have hv:(zH zJ (zH zI (s.p+1))::seg s.W (c.off 1) c.X.length).getD 0 0=s.p+1:=by
   show zH zJ (zH zI (s.p+1))=_;rw[bk (by omega),qv (by omega)]
  rw[hv]at hnew;have hold: ∀j,j≠k→gc c (put s.W (sp c k) (zH zJ (zH zI (s.p+1))::seg s.W (c.off 1) c.X.length)) j=gc c s.W j:=fun j hj=>ck1 (by omega) hw hj
  have hmore:=cp1 h hi (co0 hlt (by omega))
  have hu:jy c (put s.W (sp c k) (zH zJ (zH zI (s.p+1))::seg s.W (c.off 1) c.X.length))=jy c s.W+1:=by
   unfold jy;exact ap7 hlt (zA (by omega)) (zB (by rw[hnew];omega)) fun j _ hj=>by rw[hold j hj]
  refine⟨hW.put h (by omega),hL,hp,hq,fun j hj=> ?_, ?_, ?_⟩
  ·by_cases hjk:j=k
   ·subst hjk;rw[hnew];show 0≤s.p+1∧s.p+1≤s.L+1;omega
   ·rw[hold j hjk];exact hi.tag j hj
  ·show s.lv+c.sl=c.fixed+c.sl*((jy c (put s.W (sp c k) _):Nat):Int);rw[hu,hi.lv];rw[show(((jy c s.W+1:Nat)):Int)=(jy c s.W:Int)+1 by omega,Int.mul_add,Int.mul_one,Int.add_assoc]
  ·show s.lv+c.sl≤max s.pk (s.lv+c.sl)∧max s.pk (s.lv+c.sl)≤c.words;omega
 ·have hlt:=slot (by omega);simp only[aB,reduceIte];by_cases h5:gc c s.W n.toNat-1<0
  ·rw[zE h5];exact hi
  rw[zF h5];obtain⟨s1,s2,s3⟩:=vl h hm hlt;obtain⟨t1,t2⟩:=hW.tk h;have htk:=hi.tag _ hlt;have l2:(seg s.W (sp c n.toNat+1) c.X.length).length=c.X.length:=ib (by omega);have h1o:=jh (c:=c) (i:=1) (j:=9) (by omega);have z1:c.sz 1=c.X.length:=rfl;exact aq4 hi (hW.put h (by rw[l2];omega)) (fm.put h (fm.refl s.W) hW (i:=1) (by omega) (by rw[l2];exact dD _)) rfl ⟨by show 0≤gc c s.W n.toNat-1;omega,by show gc c s.W n.toNat-1≤s.L;omega⟩ hq rfl ⟨Int.le_refl _,hpk.2⟩
 ·have hlt:=slot (by omega);simp only[aB,reduceIte];by_cases h5:gc c s.W n.toNat-1<0
  ·rw[zE h5];exact hi
  rw[zF h5];generalize n.toNat=k at*;obtain⟨s1,s2,s3⟩:=vl h hm hlt;obtain⟨t1,t2⟩:=hW.tk h;have htk:=hi.tag k hlt;have hw:(da (c.X.length+1)).length=c.X.length+1:=fd _;have hnew:=aJ8 (c:=c) (W:=s.W) (k:=k) (w:=da (c.X.length+1)) (by omega) hw;have hv:(da (c.X.length+1)).getD 0 0=0:=rfl;rw[hv]at hnew;have hold: ∀j,j≠k→gc c (put s.W (sp c k) (da (c.X.length+1))) j=gc c s.W j:=fun j hj=>ck1 (by omega) hw hj
  have hu:jy c s.W=jy c (put s.W (sp c k) (da (c.X.length+1)))+1:=by
   unfold jy;exact ap7 hlt (zA (by omega)) (zB (by omega)) fun j _ hj=>by rw[hold j hj]
  refine⟨hW.put h (by omega),hL,hp,hq,fun j hj=> ?_, ?_, ?_⟩
  ·by_cases hjk:j=k
   ·subst hjk;rw[hnew];show(0:Int)≤0∧0≤s.L+1;omega
   ·rw[hold j hjk];exact hi.tag j hj
  ·show s.lv-c.sl=c.fixed+c.sl*((jy c (put s.W (sp c k) (da (c.X.length+1))):Nat):Int);rw[hi.lv,hu];rw[show(((jy c (put s.W (sp c k) (da (c.X.length+1)))+1:Nat)):Int)=(jy c (put s.W (sp c k) (da (c.X.length+1))):Int)+1 by omega,Int.mul_add,Int.mul_one];omega
  ·show s.lv-c.sl≤s.pk∧s.pk≤c.words;omega
 ·simp only[aB,reduceIte];by_cases h5:s.q≠ -1
  ·rw[zE h5];exact hi
  rw[zF h5];by_cases h6:s.p≠s.L
  ·rw[zE h6];exact hi
  rw[zF h6];exact aq4 hi (aG5 h hW l1).2 (aX8 h hW l1) rfl hp ⟨by show-1≤s.p;omega,hp.2⟩ rfl ⟨cB _ _,by show max s.pk (s.lv+(c.fk.n:Int))≤c.words;omega⟩
 ·simp only[aB,reduceIte];by_cases h5:s.q≠ -1
  ·rw[zE h5];exact hi
  rw[zF h5];by_cases h6:s.p≠s.L-1
  ·rw[zE h6];exact hi
  rw[zF h6];exact aq4 hi (bf5 h hW s.p).2 (bf5 h hW s.p).1 rfl hp ⟨by show-1≤s.p;omega,hp.2⟩ rfl ⟨cB _ _,by show max s.pk (s.lv+((c.fl.n:Int)+c.fk.n))≤c.words;omega⟩
 ·simp only[aB,reduceIte];by_cases h5:s.q≤0
  ·rw[zE h5];exact hi
  rw[zF h5];by_cases h6:s.p≠s.q-1
  ·rw[zE h6];exact hi
  rw[zF h6];exact aq4 hi (bG7 h hW s.p).2 (bG7 h hW s.p).1 rfl hp ⟨by show-1≤s.p;omega,hp.2⟩ rfl ⟨cB _ _,by show max s.pk (s.lv+(c.fl.n:Int))≤c.words;omega⟩
theorem cH4 {s:Dy}{B:Int}(hc:Cnt B s)(a n:Int):Cnt (B+65536) (doF c a n s).2:=by
 have key:Cnt (B+65536) s:=by unfold Cnt at hc⊢;omega
 unfold doF;by_cases h1:mE a n=false∨7<a
 ·rw[zE h1];exact key
 rw[zF h1];obtain⟨h2,hk⟩:=af8 h1;split
 ·exact key
 split
 ·rename_i ha;have hn:=vZ h2 (by omega);split
  ·exact key
  ·unfold Cnt at hc⊢;simp only;omega
 repeat' split
 all_goals first|exact key|(unfold Cnt at hc⊢;simp only;omega)
end
end
section
open Nat renaming add_sub_cancel_left → aB, le_add_right → aD
theorem cl3 {t r:List Int}{j:Nat}(h:j<t.length):(t++r)[0+j]?=some (rg t (j:Int)):=by
 rw[Nat.zero_add,List.getElem?_append_left h,du h]
theorem aL4 {t r:List Int}{j:Nat}(h:j<r.length):(t++r)[t.length+j]?=some (rg r (j:Int)):=by
 rw[List.getElem?_append_right (aD _ _),aB,du h]
theorem cl4 {t r:List Int}{j:Nat}{v:Int}:(t++r).set (t.length+j) v=t++r.set j v:=by
 rw[List.set_append_right _ _ (aD _ _),aB]
def stK (t:List Int)(p d:Nat)(l:Nat→Int)(s:BS):Int×Int×Int×(List Int)×(List Int)×Int×Int×Int×Int×Int×Int×Int×Int:=
 ((p:Int)-1,(d:Int),(s.2.2:Int),t++s.1,s.2.1,l 0,l 1,l 2,l 3,l 4,l 5,l 6,l 7)
theorem cU8 {code:List uK}(hc:code.length≤1000){R:Int}(hR:1≤R∧R≤64){t w:List Int}{e0 e1:Int}(hN:t.length≤1000000)(hw:w.length=t.length+R.toNat):Backs (eo R (e0,w) (e1,code)) code (stK t) (nT t) (VdB R.toNat t.length) (inR R.toNat)where
 op:=by
  intro p d l s m o to h hg hk hd hv;obtain⟨h1,h2⟩:=lG hc h;obtain⟨v1,v2,v3,v4⟩:=hv;obtain⟨q1,q2⟩:=bh3 o s.1 s.2.1 (rg t ((s.2.2-1:Nat):Int));refine⟨?_,by unfold nT;exact⟨by simp[v1,q1],by simp[v2,q2],by show m≤s.2.2-1;omega,by show s.2.2-1≤_;omega⟩⟩;obtain⟨kd,ka,kb,e1,e2,e3,g1,g2,g3⟩:=vU hg;unfold stK nT;simp only[eo];rw[show((p+1:Nat):Int)-1=(p:Int)by omega,zA (by omega),zD,h2];simp only[zG];rw[h];simp only[zG,de];rw[zA (by omega),zD,zA (by omega),zD];simp only[ai0,zG];rw[bk (n:=(s.2.2:Int)-1) (by omega),show(s.2.2:Int)-1=((s.2.2-1:Nat):Int)by omega,bk (n:=(w.length:Int)-R) (by omega),show((w.length:Int)-R).toNat=t.length by omega,show((w.length:Int)).toNat-t.length=R.toNat by omega,Nat.sub_zero];have hn:s.2.2-1<t.length:=by omega
  generalize s.2.2-1=n at*;unfold aI4;simp only[e1,e2,e3,Int.toNat_natCast];rw[cd (show kd<s.2.1.length by omega)];simp only[zG];rw[du (show kd<s.2.1.length by omega)];simp only[zG];rw[cd hn];simp only[zG];rw[cl3 hn];simp only[zG];rw[cd g1];simp only[zG];rw[aL4 (show kd<s.1.length by omega)];simp only[zG];rw[cd g2];simp only[zG];rw[cl4];have hr1: ∀x:Int,(s.1.set kd x).length=s.1.length:=by simp
  have ha1:(s.2.1.set kd 0).length=s.2.1.length:=by simp
  rw[aL4 (show ka<(s.1.set kd (rg t (n:Int))).length by rw[hr1];omega)];simp only[zG];rw[cd g3];simp only[zG];rw[aL4 (show kb<(s.1.set kd (rg t (n:Int))).length by rw[hr1];omega)];simp only[zG];rw[cd (show ka<(s.2.1.set kd 0).length by omega)];simp only[zG];rw[du (show ka<(s.2.1.set kd 0).length by omega)];simp only[zG];generalize hP:par o _ _=P;generalize hA:(s.2.1.set kd 0).set ka _=A2;have hA2:A2.length=s.2.1.length:=by rw[←hA];simp
  rw[cd (show kb<A2.length by omega)];simp only[zG];rw[du (show kb<A2.length by omega)];simp only[zG];rw[bk (n:=(p:Int)-1) (by omega)]
 rep:=by
  intro p q d l s m o e to h hk h' hd hv;obtain⟨h1,h2⟩:=lG hc h;obtain⟨h3,h4⟩:=lG hc h';unfold stK;simp only[eo];rw[show((p+1:Nat):Int)-1=(p:Int)by omega,zA (by omega),zD,h2];simp only[zG];rw[h];simp only[zG,de];rw[zB hk,zC,bk (n:=((q+1:Nat):Int)-1) (by omega),show((q+1:Nat):Int)-1=(q:Int)by omega,h4];simp only[zG];rw[h'];simp only[zG,de];rw[cd hd];simp only[zG];rw[bk (n:=(p:Int)-1) (by omega),bk (n:=(d:Int)+1) (by omega)];rfl
 nxt:=by
  intro p d l s m o to h hto hk hd hl hl2 hv;obtain⟨h1,h2⟩:=lG hc h;have h8:=vj (upd l d (l d-1)) hd;rw[oe]at h8;unfold upd at h8;unfold stK;simp only[eo];rw[show((p+1:Nat):Int)-1=(p:Int)by omega,zA (by omega),zD,h2];simp only[zG];rw[h];simp only[zG,de];rw[zA (by omega),zD,zB hk,zC,bk (n:=((d+1:Nat):Int)-1) (by omega),show((d+1:Nat):Int)-1=(d:Int)by omega,cd hd];simp only[zG];rw[vj l hd,qv (by omega),h8,zB (by omega),zC];rw[bk (n:=((to+1:Nat):Int)-2) (by omega),show((to+1:Nat):Int)-2=(to:Int)-1 by omega];rfl
 out:=by
  intro p d l s m o to h hk hd hl hv;obtain⟨h1,h2⟩:=lG hc h;have h8:=vj (upd l d (l d-1)) hd;rw[oe]at h8;unfold upd at h8;unfold stK;simp only[eo];rw[show((p+1:Nat):Int)-1=(p:Int)by omega,zA (by omega),zD,h2];simp only[zG];rw[h];simp only[zG,de];rw[zA (by omega),zD,zB hk,zC,bk (n:=((d+1:Nat):Int)-1) (by omega),show((d+1:Nat):Int)-1=(d:Int)by omega,cd hd];simp only[zG];rw[vj l hd,qv (by omega),h8,zA (by omega),zD,bk (n:=(p:Int)-1) (by omega)];rfl
section
variable {R:Int} {l:List cu} {f:Fo}
theorem cc0 (h:Prg R l f){r a t w:List Int}{e0 e1:Int}(hr:r.length=R.toNat)(ha:a.length=R.toNat)(ht:f.n≤t.length)(ht2:t.length≤1000000)(hw:w.length=t.length+R.toNat):
  ∃b0 b1 b2 b3 b4 b5 b6 b7,bt (eo R (e0,w) (e1,f.bare.code 0)) dy (IntKind.i64.wrap (((f.bare.code 0).length:Int)-1),0,(f.n:Int),t++r,a,0,0,0,0,0,0,0,0)=some (t++(mg f r a t).1,(mg f r a t).2.1,b0,b1,b2,b3,b4,b5,b6,b7):=by
 obtain⟨l',_,h2,h3⟩:=aF7 (m:=0) (l:=fun _=>0) (s:=((r,a,f.n):BS)) (d:=0) (p:=0) (A:=[]) (B:=[]) (bc5 (cU8 (e0:=e0) (e1:=e1) (t:=t) h.clen h.R1 ht2 hw)) f.bare (by simp) rfl (Fo.bare_ok f h.ok) f.bare_pos h.hi h.good ⟨hr,ha,by rw[Fo.bare_n];exact Nat.le_refl _,ht⟩;rw[Fo.bare_unroll]at h2 h3;have hl:=h.clen;rw[Fo.code_len]at hl
 have:=fj h2 h.steps (c:=(t++(mg f r a t).1,(mg f r a t).2.1,l' 0,l' 1,l' 2,l' 3,l' 4,l' 5,l' 6,l' 7)) (by
  unfold stK;simp only[eo];rw[zB (by omega),zC]
  rfl)
 have e:stK t (0+f.bare.len) 0 (fun _=>0) ((r,a,f.n):BS)=(IntKind.i64.wrap (((f.bare.code 0).length:Int)-1),0,(f.n:Int),t++r,a,0,0,0,0,0,0,0,0):=by
  unfold stK;rw[Fo.code_len,bk (by omega),Nat.zero_add];rfl
 rw[e]at this;exact⟨_,_,_,_,_,_,_,_,this⟩
end
end
section
open Bool renaming not_true → aB
open Int renaming toNat_of_nonneg → aD, mul_le_mul_of_nonneg_left → bB
open List renaming length_append → bD, length_take → cB
section
variable {c:Cx}
def mJ (c:Cx)(i:Nat):Nat:=c.off 8+i*c.sl.toNat
def kr (s:Dy):Int:=if s.q<0 then s.p else s.q
structure InvB (c:Cx)(s:Dy):Prop where
 w:Wd c s.W
 L:s.L=c.len
 p:0≤s.p∧s.p≤s.L
 q: -1≤s.q∧s.q≤s.L
 qp:0≤s.q→s.p=s.q
 lv:s.lv=c.fixed+c.sl*kr s
 pk:s.lv≤s.pk∧s.pk≤c.words
def vm (c:Cx)(W:List Int)(i:Nat):List Int:=seg W (mJ c i) c.fl.n
def zK (c:Cx)(W:List Int)(i:Nat):List Int:=seg W (mJ c i+c.fl.n) c.R.toNat
def ay6 (c:Cx)(W:List Int)(i:Nat):BS:=mg c.fl (zK c W i) (fill c.R (seg W (c.off 5) c.X.length)) (vm c W i)
def plF (c:Cx)(a n:Int)(s:Dy):Int×Dy:=
 if a=8 then(if n≠0 then(2,s)else if 0≤s.q then(18,s)else if s.p=s.L then(17,s)else
  (0,{s with p:=s.p+1,c1:=s.c1+1,lv:=s.lv+c.sl,pk:=max s.pk (s.lv+c.sl),W:=put (put (put s.W (c.off 2) (stepR c s.W s.p).1) (mJ c s.p.toNat) ((stepR c s.W s.p).2.1++(stepR c s.W s.p).1)) (c.off 1) ((stepR c s.W s.p).1.take c.X.length)}))
 else if a=5 then(if n≠0 then(2,s)else if 0≤s.q then(18,s)else if s.p≠s.L then(17,s)else
  (0,{s with q:=s.L,c2:=s.c2+1,c3:=s.c3+1,z:=rg (lossR c s.W (seg s.W (c.off 1) c.X.length)).1 0,pk:=max s.pk (s.lv+c.fk.n),W:=bF5 c s.W (seg s.W (c.off 1) c.X.length)}))
 else if a=9 then(if n≠0 then(2,s)else if s.q<1 then(18,s)else
  (0,{s with p:=s.q-1,q:=s.q-1,c3:=s.c3+1,lv:=s.lv-c.sl,W:=put (ap0 c s.W (ay6 c s.W (s.q-1).toNat).2.1) (c.off 1) ((ay6 c s.W (s.q-1).toNat).1.take c.X.length)}))
 else(2,s)
theorem uy (h:c.Ok)(hm:c.mode=3){i:Nat}(hi:i<c.ns.toNat):c.sl.toNat=c.fl.n+c.R.toNat∧c.sl=(c.fl.n:Int)+c.R∧mJ c i+c.sl.toNat≤c.off 9∧c.off 8≤mJ c i:=by
 have n:=h.num;have hsl:=n.sl;rw[zE hm]at hsl;have hns:=h.ns;have nR:=n.R
 have e:(c.sl*c.ns).toNat=c.ns.toNat*c.sl.toNat:=by
  have:c.sl*c.ns=((c.ns.toNat*c.sl.toNat:Nat):Int):=by
   rw[Int.natCast_mul,aD hns.1,aD (by omega),Int.mul_comm]
  rw[this];rfl
 have h9:c.off 9=c.off 8+c.ns.toNat*c.sl.toNat:=by rw[bq3,e]
 have h1:(i+1)*c.sl.toNat≤c.ns.toNat*c.sl.toNat:=Nat.mul_le_mul_right _ hi;rw[Nat.succ_mul]at h1;unfold mJ;omega
theorem bV0 (h:c.Ok)(hm:c.mode=3){i:Nat}(hi:i<c.ns.toNat){a0 a1 a4 a5 a6 a7 a8 a9 a10 a11 a12 a13 a14 a15 a16 a17:Int}{X T:List Int}{l k:List cu}{b0 b1 b2 b3:Int}{W:List Int}:ki (i:Int) a0 a1 c.sl a4 a5 a6 a7 a8 a9 a10 a11 a12 a13 a14 a15 a16 a17 X T l k c.P b0 b1 b2 b3 W=some (mJ c i:Int):=by
 obtain⟨h1,h2,h3,h4⟩:=uy h hm hi;have h5:=h.off9_le;have n:=h.num;have h6:=n.words;have nR:=n.R;unfold ki;rw[show ix 8 c.P.length=some 8 from cd (k:=8) (by rw[Cx.P_len];omega)];simp only[zG];rw[Cx.P_get (show 8<10 by omega)];simp only[zG];have e:(i:Int)*c.sl=((i*c.sl.toNat:Nat):Int):=by rw[Int.natCast_mul,aD (by omega)]
 unfold mJ at h3;rw[e,bk (n:=((i*c.sl.toNat:Nat):Int)) (by omega),bk (by omega)];unfold mJ
 congr 1
theorem bf8 (h:c.Ok)(hm:c.mode=3){s:Dy}(hi:InvB c s):0≤s.lv∧s.lv+c.tp≤c.words∧c.words≤1048576∧0≤c.tp∧(kr s<c.ns→s.lv+c.sl≤c.words)∧(0<kr s→c.sl≤s.lv)∧c.ns=s.L:=by
 have n:=h.num;have h1:=hi.lv;have h3:=h.fit;have h4:=n.fixed;have h5:=h.ns;have h6:=n.sl;rw[zE hm]at h6;have nR:=n.R;have nQ:=n.Q;have nw:=n.words;have hb:=h.base hm;have hL:=hi.L;have hp:=hi.p;have hq:=hi.q;have hh:0≤kr s∧kr s≤c.ns:=by unfold kr;split<;>omega
 have h7:1≤c.sl:=by omega
 have h8:c.sl*kr s≤c.sl*c.ns:=bB hh.2 (by omega);have h9:0≤c.sl*kr s:=Int.mul_nonneg (by omega) hh.1;have h10:0≤c.tp:=by rw[n.tp];split<;>omega
 refine⟨by omega,by omega,by omega,h10,fun hlt=> ?_,fun hpos=> ?_,by omega⟩
 ·have h8:c.sl*(kr s+1)≤c.sl*c.ns:=bB (by omega) (by omega);rw[Int.mul_add,Int.mul_one]at h8;omega
 ·have h8:c.sl*1≤c.sl*kr s:=bB (by omega) (by omega);omega
theorem aR4 (h:c.Ok)(hm:c.mode=3){W:List Int}(hW:Wd c W){i:Nat}(hi:i<c.ns.toNat):
  seg W (mJ c i) c.sl.toNat=vm c W i++zK c W i∧(vm c W i).length=c.fl.n∧(zK c W i).length=c.R.toNat∧(fill c.R (seg W (c.off 5) c.X.length)).length=c.R.toNat∧(ay6 c W i).1.length=c.R.toNat∧(ay6 c W i).2.1.length=c.R.toNat:=by
 obtain⟨h1,h2,h3,h4⟩:=uy h hm hi;obtain⟨t1,t2⟩:=hW.tk h;have n:=h.num;have nR:=n.R;have n1:=n.xtR;have nn:=n.n;have l5:(seg W (c.off 5) c.X.length).length=c.X.length:=ib (hW.in' h (i:=5) (by omega));have e1:(vm c W i).length=c.fl.n:=ib (by omega);have e2:(zK c W i).length=c.R.toNat:=ib (by omega);have e3:(fill c.R (seg W (c.off 5) c.X.length)).length=c.R.toNat:=ik (by omega);obtain⟨_,r2,r3⟩:=tt h.pl e2 e3 (t:=vm c W i) (Nat.le_of_eq e1.symm) (by omega);refine⟨?_,e1,e2,e3,r2,r3⟩;apply List.ext_getElem?;intro j;rw[tK];by_cases hj:j<c.fl.n
 ·rw[zE (by omega),List.getElem?_append_left (by omega)];unfold vm;rw[tK,zE hj]
 ·rw[List.getElem?_append_right (by omega),e1];unfold zK;rw[tK];by_cases hj2:j<c.sl.toNat
  ·rw[zE hj2,zE (by omega)]
   congr 1
   omega
  ·rw[zF hj2,zF (by omega)]
theorem plain1 (h:c.Ok)(hm:c.mode=3){s:Dy}(hi:InvB c s){B:Int}(hc:Cnt B s)(hB:B≤2305843009213693952){a n:Int}:
  lR a n c.fixed c.tp c.sl c.ns c.mode c.R c.Q c.len c.words s.L s.p s.q s.c0 s.c1 s.c2 s.c3 s.z c.X c.T c.l c.k c.P c.tk s.lv s.pk c.words s.W=some (dk2 c (plF c a n s)):=by
 have nm:=h.num;have hW:=hi.w;have hL:=hi.L;have hp:=hi.p;have hq:=hi.q;have hpk:=hi.pk;have hns:=h.ns;have nR:=nm.R;have n1:=nm.xtR;have nx:=nm.x;have nt:=nm.t;have nn:=nm.n;have nlen:=nm.len;obtain⟨k0,k1,k2,k3⟩:=hc.in' hB;obtain⟨g1,g2,g3,g4,g5,g6,g7⟩:=bf8 h hm hi;have htp:=nm.tp;rw[zE hm]at htp;obtain⟨t1,t2⟩:=hW.tk h;unfold lR plF;by_cases a8:a=8
 ·subst a8;rw[zB (show(8:Int)=8 from rfl),zA (show¬(8:Int)=5 by decide)];simp only[zC,zG,aB,zD,reduceIte];by_cases hn:n≠0
  ·rw[zE hn,zB hn];rfl
  rw[zF hn,zA hn];simp only[zD,zG];by_cases hq0:0≤s.q
  ·rw[zE hq0,zB hq0];rfl
  rw[zF hq0,zA hq0];simp only[zD,zG];by_cases hpl:s.p=s.L
  ·rw[zE hpl,zB hpl];rfl
  rw[zF hpl,zA hpl];simp only[BEq.rfl,aB,zD,zG,cn];have hheld:kr s=s.p:=by unfold kr;rw[zE (by omega)]
  have hlt:s.p.toNat<c.ns.toNat:=by omega
  have ep:s.p=((s.p.toNat:Nat):Int):=by omega
  obtain⟨s1,s2,s3,s4⟩:=uy h hm hlt;obtain⟨f1,f2,f3⟩:=mp h hW s.p;have w1:=av2 h hW s.p;have hbd:=g5 (by rw[hheld];omega);rw[bg4 (by omega) g1 hbd (by omega)];simp only[zG];rw[da6 h hW];simp only[zG];have hse:=bV0 h hm hlt (a0:=c.fixed) (a1:=c.tp) (a4:=c.ns) (a5:=c.mode) (a6:=c.R) (a7:=c.Q) (a8:=c.len) (a9:=c.words) (a10:=s.L) (a11:=s.p) (a12:=s.q) (a13:=s.c0) (a14:=IntKind.i64.wrap (s.c1+1)) (a15:=s.c2) (a16:=s.c3) (a17:=s.z) (X:=c.X) (T:=c.T) (l:=c.l) (k:=c.k) (b0:=c.tk) (b1:=s.lv+c.sl) (b2:=max s.pk (s.lv+c.sl)) (b3:=c.words) (W:=put s.W (c.off 2) (stepR c s.W s.p).1);rw[←ep]at hse;rw[hse];simp only[zG];have hla:((stepR c s.W s.p).2.1++(stepR c s.W s.p).1).length=c.sl.toNat:=by rw[bD];omega
  rw[dk (by omega) (by omega)];obtain⟨u1,u2⟩:=w1.tk h;unfold Cx.tk;rw[aR3 (by rw[hla];exact s3) u1 u2];simp only[zG];rw[iw (by omega),ei,show((c.X.length:Int)).toNat-0=c.X.length by omega,List.drop_zero,show((c.off 9:Nat):Int)=c.tk from rfl,put1 (ii:=1) (i:=1) h (w1.put h (by rw[hla];exact s3)) rfl (by omega) (by rw[cB,show c.sz 1=c.X.length from rfl];omega)];simp only[zG];rw[bk (n:=s.p+1) (by omega),bk (n:=s.c1+1) (by omega)];rfl
 rw[zA a8,zF a8];simp only[zD,zG];by_cases a5:a=5
 ·subst a5;rw[zB (show(5:Int)=5 from rfl)];simp only[zC,aB,zD,reduceIte];by_cases hn:n≠0
  ·rw[zE hn,zB hn];rfl
  rw[zF hn,zA hn];simp only[zD,zG];by_cases hq0:0≤s.q
  ·rw[zE hq0,zB hq0];rfl
  rw[zF hq0,zA hq0];simp only[zD,zG];by_cases hpl:s.p≠s.L
  ·rw[zE hpl,zA hpl];rfl
  rw[zF hpl,zB (show s.p=s.L by omega)];simp only[BEq.rfl,aB,zD,zG,cn];rw[dh3 h hW g1 hpk.1 (by omega) g3];simp only[zG];rw[bk (n:=s.c2+1) (by omega),bk (n:=s.c3+1) (by omega)];rfl
 rw[zA a5,zF a5];simp only[zD,Bool.not_false,zC];by_cases a9:a=9
 ·subst a9;rw[zA (show¬((9:Int)≠9)from fun k=>k rfl)];simp only[reduceIte];by_cases hn:n≠0
  ·rw[zE hn,zB hn];rfl
  rw[zF hn,zA hn];simp only[zD,zG];by_cases hq1:s.q<1
  ·rw[zE hq1,zB hq1];rfl
  rw[zF hq1,zA hq1];simp only[zD,zG,cn];have hheld:kr s=s.q:=by unfold kr;rw[zF (by omega)]
  have hlt:(s.q-1).toNat<c.ns.toNat:=by omega
  have ep:s.q-1=(((s.q-1).toNat:Nat):Int):=by omega
  obtain⟨s1,s2,s3,s4⟩:=uy h hm hlt;obtain⟨b1,b2,b3,b4,b5,b6⟩:=aR4 h hm hW hlt;rw[bk (n:=s.q-1) (by omega)];have hse:=bV0 h hm hlt (a0:=c.fixed) (a1:=c.tp) (a4:=c.ns) (a5:=c.mode) (a6:=c.R) (a7:=c.Q) (a8:=c.len) (a9:=c.words) (a10:=s.L) (a11:=s.q-1) (a12:=s.q-1) (a13:=s.c0) (a14:=s.c1) (a15:=s.c2) (a16:=s.c3) (a17:=s.z) (X:=c.X) (T:=c.T) (l:=c.l) (k:=c.k) (b0:=c.tk) (b1:=s.lv) (b2:=s.pk) (b3:=c.words) (W:=s.W);rw[←ep]at hse;rw[hse];simp only[zG]
  have hrd:ec (mJ c (s.q-1).toNat:Int) c.sl c.tk s.W=some (0,vm c s.W (s.q-1).toNat++zK c s.W (s.q-1).toNat):=by
   have:=ae1 (W:=s.W) (o:=mJ c (s.q-1).toNat) (n:=c.sl.toNat) s3 t1 t2;rw[aD (by omega),b1]at this;exact this
  rw[hrd];simp only[zG];generalize (s.q-1).toNat=i at*;have hlen:(vm c s.W i++zK c s.W i).length=c.fl.n+c.R.toNat:=by rw[bD];omega
  have hwr:IntKind.i64.wrap (((vm c s.W i++zK c s.W i).length:Int)-c.R)=(c.fl.n:Int):=by rw[hlen,bk (by omega)];omega
  simp only[hwr];rw[iw (by omega),ei,iw (by omega),ei,co3 (ii:=5) (i:=5) h hW rfl (by omega)];simp only[zG];have l5:(seg s.W (c.off 5) c.X.length).length=c.X.length:=ib (hW.in' h (i:=5) (by omega));rw[show c.sz 5=c.X.length from rfl,ck8 nR (by omega)];simp only[zG];rw[au0 h.pl,h.pl.writes];simp only[zG];rw[zA (show¬((0:Int)≠0)by simp),zD];rw[zA (show¬((((((vm c s.W i++zK c s.W i).length:Int)).toNat-((c.fl.n:Int)).toNat:Nat):Int)≠c.R)by omega),zD,zA (show¬(((fill c.R (seg s.W (c.off 5) c.X.length)).length:Int)≠c.R)by omega),zD,zA (show¬(((((c.fl.n:Int)).toNat-0:Nat):Int)<(c.fl.n:Int))by omega),zD];obtain⟨z0,z1,z2,z3,z4,z5,z6,z7,hz⟩:=cc0 h.pl (e0:=0) (e1:=0) (t:=vm c s.W i) (r:=zK c s.W i) (a:=fill c.R (seg s.W (c.off 5) c.X.length)) (w:=vm c s.W i++zK c s.W i) b3 b4 (Nat.le_of_eq b2.symm) (by omega) (by rw[hlen,b2])
  rw[hz];simp only[zG];have eK:mg c.fl (zK c s.W i) (fill c.R (seg s.W (c.off 5) c.X.length)) (vm c s.W i)=ay6 c s.W i:=rfl;rw[eK];generalize ay6 c s.W i=q1 at*;obtain⟨v1,v2,v3⟩:=rl h (a:=q1.2.1) hW (by omega) (by omega);rw[put1 (ii:=4) (i:=4) h hW rfl (by omega) (by rw[show c.sz 4=max c.R.toNat c.Q.toNat from rfl];omega)];simp only[zG];rw[iw (by omega),ei,show((c.X.length:Int)).toNat-0=c.X.length by omega,List.drop_zero,put1 (ii:=5) (i:=5) h v1 rfl (by omega) (by rw[cB,show c.sz 5=c.X.length from rfl];omega)];simp only[zG];rw[co3 (ii:=6) (i:=6) h v2 rfl (by omega)];simp only[zG];rw[show c.sz 6=c.T.length from rfl];have hg:(seg (put (put s.W (c.off 4) q1.2.1) (c.off 5) (q1.2.1.take c.X.length)) (c.off 6) c.T.length).length=c.T.length:=ib (v2.in' h (i:=6) (by omega));rw[bM9 (f:=qT c.X q1.2.1 _) (X:=c.X) (a:=q1.2.1) (g:=seg (put (put s.W (c.off 4) q1.2.1) (c.off 5) (q1.2.1.take c.X.length)) (c.off 6) c.T.length) (by omega) (by omega) (by omega) (fun s=>rfl)]
  simp only[zG];rw[put1 (ii:=6) (i:=6) h v2 rfl (by omega) (by rw[uj,hg];exact Nat.le_refl _)];simp only[zG];have hlen2:(vm c s.W i++q1.1).length=c.fl.n+c.R.toNat:=by rw[bD];omega
  rw[bk (n:=(c.fl.n:Int)+(c.X.length:Int)) (by omega),iw (by omega),ei,show((c.fl.n:Int)+(c.X.length:Int)).toNat-((c.fl.n:Int)).toNat=c.X.length by omega,Int.toNat_natCast];have hdr:(vm c s.W i++q1.1).drop c.fl.n=q1.1:=List.drop_left' b2;rw[hdr];have eB:put (put (put s.W (c.off 4) q1.2.1) (c.off 5) (q1.2.1.take c.X.length)) (c.off 6) (ui c.X.length (seg (put (put s.W (c.off 4) q1.2.1) (c.off 5) (q1.2.1.take c.X.length)) (c.off 6) c.T.length) q1.2.1)=ap0 c s.W q1.2.1:=rfl;rw[eB,put1 (ii:=1) (i:=1) h v3 rfl (by omega) (by rw[cB,show c.sz 1=c.X.length from rfl];omega)];simp only[zG];rw[bg3 (by omega) (g6 (by rw[hheld];omega)) hpk.1 (by omega)];simp only[zG];rw[bk (n:=s.c3+1) (by omega)];rfl
 rw[zF a9,zB a9];by_cases hn:n≠0
 ·rw[zB hn];rfl
 ·rw[zA hn];rfl
end
end
section
open Int renaming le_refl → aB
open List renaming getElem?_replicate → aD
theorem cq8 {m:Int}{x t:Nat}{R:Int}{l:List cu}{Q:Int}{k:List cu}{n b:Int}(hl:OpsOk l)(hk:OpsOk k)(h:(jT m x t R l Q k n b).2.2.2.2=0):
  vT m x t R l Q k n b=0∧∃ns,jT m x t R l Q k n b=(oL x t R Q,od m l k,oK m x R l,ns,0)∧(0≤ns∧ns≤1048576)∧oL x t R Q+od m l k+oK m x R l*ns≤b∧(m=3→ns=n):=by
 unfold jT at h⊢;by_cases hc:vT m x t R l Q k n b≠0
 ·rw[zE hc]at h;exact(hc h).elim
 rw[zF hc]at h⊢;have hc:vT m x t R l Q k n b=0:=by omega
 have s:=aO7 hl hk hc;have f:=ae9 hl hk hc;have g1:=f.mode;have g2:=f.len;have g3:=f.bud;have g4:=s.xs;have g5:=s.ts;have g6:=s.r;have g7:=s.r';have g8:=s.tp;have g9:=s.sl;have hfx:0≤oL x t R Q∧oL x t R Q≤1000:=by unfold oL;omega
 split at h
 ·cases h
 rename_i c;rw[zF c];refine⟨hc,_,rfl, ?_, ?_,fun h3=>zE h3⟩
 ·split
  ·omega
  ·rename_i c3;unfold least at c;rw[zF c3]at c;have hd2:(b-oL x t R Q-od m l k) / oK m x R l≤b-oL x t R Q-od m l k:=Int.ediv_le_self _ (by omega);have hd1:0≤(b-oL x t R Q-od m l k) / oK m x R l:=Int.ediv_nonneg (by omega) (by omega);omega
 ·unfold least at c;split
  ·rename_i c3;rw[zE c3,Int.mul_comm]at c;omega
  ·rename_i c3;rw[zF c3]at c;have:=Int.mul_ediv_self_le (x:=b-oL x t R Q-od m l k) (k:=oK m x R l) (by omega);omega
theorem dk5 {m:Int}{X T:List Int}{R:Int}{l:List cu}{Q:Int}{k:List cu}{n b:Int}(hl:OpsOk l)(hk:OpsOk k)(h:(jT m X.length T.length R l Q k n b).2.2.2.2=0):
  ∃c:Cx,c.Ok∧c.mode=m∧c.X=X∧c.T=T∧c.R=R∧c.l=l∧c.Q=Q∧c.k=k∧c.len=n∧c.words=b∧jT m X.length T.length R l Q k n b=(c.fixed,c.tp,c.sl,c.ns,0):=by
 obtain⟨hc,ns,h1,h2,h3,h4⟩:=cq8 hl hk h;obtain⟨h5,h6⟩:=cq5 (aM9 hc).1;obtain⟨fl,hfl⟩:=cB0 hl h5;obtain⟨fk,hfk⟩:=cB0 hk h6;exact⟨⟨m,R,Q,n,b,X,T,l,k,fl,fk,oL X.length T.length R Q,od m l k,oK m X.length R l,ns⟩,⟨hl,hk,hc,hfl,hfk,rfl,rfl,rfl,h2,h3,h4⟩,rfl,rfl,rfl,rfl,rfl,rfl,rfl,rfl,rfl,h1⟩
section
variable {c:Cx}
theorem Cx.Ok.plan (h:c.Ok):jT c.mode c.X.length c.T.length c.R c.l c.Q c.k c.len c.words=(c.fixed,c.tp,c.sl,c.ns,0)→qX c.mode c.X c.T c.R c.l c.Q c.k c.len c.words=some (c.fixed,c.tp,c.sl,c.ns,0):=fun e=>by
 rw[aN9 h.hl h.hk,e]
theorem cM8 (h:c.Ok): ∀i,i<10→pre [((c.T.length:Nat):Int),((c.X.length:Nat):Int),c.R,c.Q,max c.R c.Q,((c.X.length:Nat):Int),((c.T.length:Nat):Int),c.tp,c.sl*c.ns] i=(c.off i:Int):=by
 have n:=h.num;have nR:=n.R;have nQ:=n.Q;have nm:=n.mul;have htp:0≤c.tp:=by rw[n.tp];split<;>omega
 have hs: ∀i,i<9→([((c.T.length:Nat):Int),((c.X.length:Nat):Int),c.R,c.Q,max c.R c.Q,((c.X.length:Nat):Int),((c.T.length:Nat):Int),c.tp,c.sl*c.ns]:List Int).getD i 0=(c.sz i:Int):=fun i hi=>by
  rcases(show i=0∨i=1∨i=2∨i=3∨i=4∨i=5∨i=6∨i=7∨i=8 by omega)with rfl|rfl|rfl|rfl|rfl|rfl|rfl|rfl|rfl
  ·rfl
  ·rfl
  ·show c.R=(c.R.toNat:Int);omega
  ·show c.Q=(c.Q.toNat:Int);omega
  ·show max c.R c.Q=((max c.R.toNat c.Q.toNat:Nat):Int);omega
  ·rfl
  ·rfl
  ·show c.tp=(c.tp.toNat:Int);omega
  ·show c.sl*c.ns=((c.sl*c.ns).toNat:Int);omega
 intro i;induction i with
 |zero=>intro _;rfl
 |succ i ih=>
  intro hi;simp only[pre];rw[ih (by omega),hs i (by omega)];show(c.off i:Int)+(c.sz i:Int)=((c.off i+c.sz i:Nat):Int);omega
theorem bh1 (h:c.Ok)(e:jT c.mode c.X.length c.T.length c.R c.l c.Q c.k c.len c.words=(c.fixed,c.tp,c.sl,c.ns,0)):oh c.mode c.X c.T c.R c.l c.Q c.k c.len c.words=some (0,c.P):=by
 have s:=aO7 h.hl h.hk h.hc;have s':SFacts c.X.length c.T.length c.R c.Q c.tp c.sl:=by rw[h.tp,h.sl];exact s
 unfold oh;rw[h.plan e];simp only[zG];rw[zA (by simp),zD,aB8 h.hl h.hk h.hc];simp only[zG];have hb:=bI8 (n:=c.ns) s' h.ns;rw[←h.tp,←h.sl,bh2 hb];simp only[zG]
 congr 2
 unfold Cx.P;apply List.map_congr_left;intro i hi;exact cM8 h i (List.mem_range.1 hi)
theorem br7 {l:List cu}(h:l.length≤100):gr l=some l:=by
 unfold gr;rw[dk (by omega) (by omega)]
theorem um {l:List Int}(h:l.length≤1048576):ca l=some l:=by
 unfold ca;rw[dk (by omega) (by omega)]
theorem bS4 (h:c.Ok)(e:jT c.mode c.X.length c.T.length c.R c.l c.Q c.k c.len c.words=(c.fixed,c.tp,c.sl,c.ns,0)):
  mt c.mode c.X c.T c.R c.l c.Q c.k c.len c.words=some (.inr (c.fixed,c.tp,c.sl,c.ns,c.mode,c.R,c.Q,c.len,c.words,c.len,c.X,c.T,c.l,c.k,c.P)):=by
 have n:=h.num;have nx:=n.x;have nt:=n.t;unfold mt;rw[h.plan e];simp only[zG];rw[zA (by simp),zD,br7 h.hl.len,br7 h.hk.len,um (by omega),um (by omega)];simp only[zG];rw[bh1 h e];rfl
theorem cq9 {m:Int}{X T:List Int}{R:Int}{l:List cu}{Q:Int}{k:List cu}{n b:Int}(hl:OpsOk l)(hk:OpsOk k)(h:(jT m X.length T.length R l Q k n b).2.2.2.2≠0):mt m X T R l Q k n b=some (.inl (jT m X.length T.length R l Q k n b).2.2.2.2):=by
 unfold mt;rw[aN9 hl hk];simp only[zG];rw[zB h,zC]
def bH0 (c:Cx)(W:List Int):List Int:=put (put W (c.off 0) c.T) (c.off 1) c.X
def new1 (c:Cx):Dy:=⟨c.len,0,-1,0,0,0,0,0,c.fixed,c.fixed,bH0 c (da c.words.toNat)⟩
def new2 (c:Cx):Dy:=⟨c.len,0,-1,0,0,0,0,0,c.fixed,c.fixed,bH0 c (put (da c.words.toNat) (c.off 8) (da (c.sl*c.ns).toNat))⟩
theorem bl1 :Wd c (da c.words.toNat):=fd _
theorem uq (h:c.Ok):0≤c.fixed∧c.fixed≤c.words∧1≤c.fixed∧c.fixed=(c.off 7:Int):=by
 have n:=h.num;have nR:=n.R;have nQ:=n.Q;have nf:=n.fixed;have nm:=n.mul;have ft:=h.fit;have htp:0≤c.tp:=by rw[n.tp];split<;>omega
 refine⟨by omega,by omega,by omega, ?_⟩;rw[df4,nf];omega
theorem aY1 (h:c.Ok){W:List Int}(hW:Wd c W):Wd c (put W (c.off 0) c.T)∧Wd c (bH0 c W)∧fm c W (bH0 c W):=by
 have h0:=jh (c:=c) (i:=0) (j:=9) (by omega);have h1:=jh (c:=c) (i:=1) (j:=9) (by omega);have z0:c.sz 0=c.T.length:=rfl;have z1:c.sz 1=c.X.length:=rfl;have w1:=hW.put h (w:=c.T) (o:=c.off 0) (by omega);have w2:=w1.put h (w:=c.X) (o:=c.off 1) (by omega);exact⟨w1,w2,fm.put h (fm.put h (fm.refl W) hW (i:=0) (by omega) (Nat.le_of_eq z0.symm)) w1 (i:=1) (by omega) (Nat.le_of_eq z1.symm)⟩
theorem ck3 {o n:Nat}{W:List Int}(h:o+n≤W.length)(hw:W.length≤1048576):gk (n:Int) (o:Int) W=some ((o:Int),0,((o+n:Nat):Int)):=by
 unfold gk qI;rw[zA (by omega),zD];simp only[zG];rw[bk (n:=(W.length:Int)-o) (by omega),zA (by omega),zD,bk (n:=(o:Int)+n) (by omega)]
 congr 2
theorem cy9 (h:c.Ok)(hm:c.mode=3):InvB c (new1 c):=by
 have f:=uq h;have n:=h.num;have nl:=n.len;refine⟨(aY1 h bl1).2.1,rfl,⟨aB _,by show 0≤c.len;omega⟩,⟨by show(-1:Int)≤ -1;omega,by show(-1:Int)≤c.len;omega⟩,fun hq=> ?_, ?_,⟨aB _,f.2.1⟩⟩
 ·have hq:(0:Int)≤ -1:=hq;omega
 ·show c.fixed=c.fixed+c.sl*0;omega
theorem bg7 (h:c.Ok)(hm:c.mode≠3){k:Nat}(hk:k<c.ns.toNat):gc c (new2 c).W k=0:=by
 have h9:=h.off9_le;have nw:=h.num.words;have h89:c.off 9=c.off 8+(c.sl*c.ns).toNat:=bq3;have w0:Wd c (put (da c.words.toNat) (c.off 8) (da (c.sl*c.ns).toNat)):=(bl1 (c:=c)).put h (by rw[fd];omega);obtain⟨w1,w2,w3⟩:=aY1 h w0;show gc c (bH0 c _) k=0;rw[w3.tag];obtain⟨s1,_,_⟩:=vl h hm hk;unfold gc rg;rw[Int.toNat_natCast,List.getD_eq_getElem?_getD,af5 (by rw[fd,fd];omega)];unfold da;split
 ·rw[aD];split<;>rfl
 ·rw[aD];split<;>rfl
theorem cz0 (h:c.Ok)(hm:c.mode≠3):Inv c (new2 c):=by
 have f:=uq h;have n:=h.num;have nl:=n.len;have nw:=n.words;have h9:=h.off9_le;have h89:c.off 9=c.off 8+(c.sl*c.ns).toNat:=bq3;have w0:Wd c (put (da c.words.toNat) (c.off 8) (da (c.sl*c.ns).toNat)):=(bl1 (c:=c)).put h (by rw[fd];omega)
 have hu:jy c (new2 c).W=0:=by
  unfold jy;rw[List.countP_eq_zero];intro k hk;rw[bg7 h hm (List.mem_range.1 hk)];decide
 refine⟨(aY1 h w0).2.1,⟨by show 0≤c.len;omega,by show c.len≤65535;omega⟩,⟨aB _,by show 0≤c.len;omega⟩,⟨by show(-1:Int)≤ -1;omega,by show(-1:Int)≤c.len;omega⟩,fun k hk=> ?_, ?_,⟨aB _,f.2.1⟩⟩
 ·rw[bg7 h hm hk];exact⟨aB _,by show(0:Int)≤c.len+1;omega⟩
 ·rw[hu];show c.fixed=c.fixed+c.sl*0;omega
end
end
section
open Go.IntKind renaming wrap → zH, i64 → zI, u64 → zJ
theorem dne {x:Int}{i:Decidable (x≠x)}: @decide (x≠x) i=false:=zA fun k=>k rfl
section
variable {c:Cx}
def cN4 (c:Cx)(s:Dy):Int×Int×Int×Int×Int×Int×Int×Int×Int×Int×Int×Int×Int×Int×Int×Int:=
 (zH zJ c.mode,zH zJ s.L,zH zJ s.p,zH zJ (zH zI (s.q+1)),zH zJ c.ns,zH zJ s.c0,zH zJ s.c1,zH zJ s.c2,zH zJ s.c3,zH zJ s.lv,zH zJ s.pk,s.z,0,0,0,0)
theorem ct4 (s:Dy):kM c.fixed c.tp c.sl c.ns c.mode c.R c.Q c.len c.words s.L s.p s.q s.c0 s.c1 s.c2 s.c3 s.z c.X c.T c.l c.k c.P c.tk s.lv s.pk c.words s.W=some (cN4 c s):=by
 unfold kM pV pW lb ld;simp only[zG];have key:bt (pM c.ns c.mode s.L s.p s.q s.c0 s.c1 s.c2 s.c3 s.lv s.pk) dy ((0,0,0,0,0,0,0,0,0,0,0,0,0,0,0,0,0))=some (zH zJ c.mode,zH zJ s.L,zH zJ s.p,zH zJ (zH zI (s.q+1)),zH zJ c.ns,zH zJ s.c0,zH zJ s.c1,zH zJ s.c2,zH zJ s.c3,zH zJ s.lv,zH zJ s.pk,0,0,0,0,0):=by kernel_rfl
 rw[key];rfl
theorem ct5 (s:Dy){sb sn sx:Int}:jZ c.fixed c.tp c.sl c.ns c.mode c.R c.Q c.len c.words s.L s.p s.q s.c0 s.c1 s.c2 s.c3 s.z c.X c.T c.l c.k c.P c.tk sb sn sx s.lv s.pk c.words s.W=some (cN4 c s):=by
 unfold jZ oo oq lb ld;simp only[zG];have key:bt (oE c.ns c.mode s.L s.p s.q s.c0 s.c1 s.c2 s.c3 s.lv s.pk) dy ((0,0,0,0,0,0,0,0,0,0,0,0,0,0,0,0,0))=some (zH zJ c.mode,zH zJ s.L,zH zJ s.p,zH zJ (zH zI (s.q+1)),zH zJ c.ns,zH zJ s.c0,zH zJ s.c1,zH zJ s.c2,zH zJ s.c3,zH zJ s.lv,zH zJ s.pk,0,0,0,0,0):=by kernel_rfl
 rw[key];rfl
theorem cs8 {l:List Int}(hl:l.length<1000000):bt (ju l) dy (0,0)=some ((l.countP fun t=>decide (0≤t):Nat):Int):=by
 have h: ∀i,((l.take i).countP fun t=>decide (0≤t))≤l.length:=fun i=>Nat.le_trans List.countP_le_length (by simp;omega)
 have key:bt (ju l) dy (0,(((l.take 0).countP fun t=>decide (0≤t):Nat):Int))=some (((l.take l.length).countP fun t=>decide (0≤t):Nat):Int):=by
  refine ff (n:=l.length) (fun i=>(((l.take i).countP fun t=>decide (0≤t):Nat):Int)) (by omega) (fun i hi=> ?_) ?_
  ·have h1:=h i;unfold ju;simp only;rw[zB (show(i:Int)<(l.length:Int)by omega),zC,cd hi];simp only[zG];rw[List.getElem?_eq_getElem hi];simp only[zG];rw[bk (n:=(i:Int)+1) (by omega),List.take_succ_eq_append_getElem hi,List.countP_append,br];by_cases hp:0≤l[i]
   ·rw[zE hp,bk (by omega)];simp[hp]
   ·rw[zF hp];simp[hp]
  ·unfold ju;simp only;rw[zA (by omega),zD]
 rw[List.take_length]at key;exact key
theorem cs9 (W:List Int):((we c W).countP fun t=>decide (0≤t))=jy c W:=by
 unfold we jy;rw[List.countP_map];apply List.countP_congr;intro k _;simp only[Function.comp,decide_eq_true_eq];omega
theorem bJ2 (h:c.Ok)(hm:c.mode≠3){W:List Int}(hW:Wd c W)(ht: ∀k,k<c.ns.toNat→0≤gc c W k∧gc c W k≤65536):lP (c.off 8:Int) c.ns (c.X.length:Int) c.tk W=some (.inr ((c.off 8:Int),c.ns,(c.X.length:Int))):=by
 have n:=h.num;have nx:=n.x;have nns:=h.ns;have nm:=n.mul;have nw:=n.words;have hsl:=n.sl;rw[zF hm]at hsl;have h9:=h.off9_le;have h89:c.off 9=c.off 8+(c.sl*c.ns).toNat:=bq3;obtain⟨t1,t2⟩:=hW.tk h;unfold lP me gm;rw[zB (show 0≤c.ns by omega),zB (show c.ns≤1048576 by omega),zB (show 1≤(c.X.length:Int)by omega),zB (show(c.X.length:Int)≤64 by omega)];simp only[zC,zD,Bool.not_true,zG];rw[bk (n:=(c.X.length:Int)+1) (by omega),←hsl,Int.mul_comm c.ns,bk (n:=c.sl*c.ns) (by omega)]
 have hrd:ec (c.off 8:Int) (c.sl*c.ns) c.tk W=some (0,seg W (c.off 8) (c.sl*c.ns).toNat):=by
  have:=ae1 (W:=W) (o:=c.off 8) (n:=(c.sl*c.ns).toNat) (tk:=c.off 9) (by omega) t1 t2;rw[Int.toNat_of_nonneg nm]at this;exact this
 rw[hrd];simp only[zG];rw[zA (by simp),zD]
 have key:bt (ic (c.off 8:Int) c.ns (c.X.length:Int) c.tk W) dy 0=some (.inr ()):=by
  refine ru (n:=c.ns.toNat) (by omega) (fun i hi=> ?_) ?_
  ·have hti:=ht i hi;unfold ic;rw[zB (by omega),zC,af4 h hm hi];simp only[zG];rw[aY4 h hm hW hi];simp only[zG];rw[zA (by omega),zD,bk (by omega)];rfl
  ·unfold ic;rw[zA (by omega),zD]
 rw[key];rfl
def cS7 (c:Cx)(s:Dy):Int×Int×Int×Int×Int×Int×Int×Int×Int×Int×Int×Int×Int×Int×Int×Int×Int×(List Int)×(List Int)×(List (Int×Int×Int×Int×Int))×(List (Int×Int×Int×Int×Int))×(List Int)×Int×Int×Int×Int×List Int:=
 (c.fixed,c.tp,c.sl,c.ns,c.mode,c.R,c.Q,c.len,c.words,s.L,s.p,s.q,s.c0,s.c1,s.c2,s.c3,s.z,c.X,c.T,c.l,c.k,c.P,c.tk,s.lv,s.pk,c.words,s.W)
def cS8 (c:Cx)(s:Dy):Int×Int×Int×Int×Int×Int×Int×Int×Int×Int×Int×Int×Int×Int×Int×Int×Int×(List Int)×(List Int)×(List (Int×Int×Int×Int×Int))×(List (Int×Int×Int×Int×Int))×(List Int)×Int×Int×Int×Int×Int×Int×Int×List Int:=
 (c.fixed,c.tp,c.sl,c.ns,c.mode,c.R,c.Q,c.len,c.words,s.L,s.p,s.q,s.c0,s.c1,s.c2,s.c3,s.z,c.X,c.T,c.l,c.k,c.P,c.tk,(c.off 8:Int),c.ns,(c.X.length:Int),s.lv,s.pk,c.words,s.W)
theorem bc1 (h:c.Ok){W:List Int}(hW:Wd c W):vo W=some (.inr W):=by
 have f:=uq h;have nw:=h.num.words;unfold Wd at hW;unfold vo tw;rw[zA (by omega),zD,zA (by omega),zD];simp only[zG];rw[zA (by simp),zD,um (by omega)];rfl
theorem bR1 {b lv pk:Int}(h:0≤lv)(h1:lv≤pk)(h2:pk≤b):kZ b lv pk=some (.inr (lv,pk,b)):=by
 unfold kZ;rw[zA (by omega),zD,zA (by omega),zD,zA (by omega),zD]
def bL6 (c:Cx)(s:Dy):Prop:=c.mode≠2→s.L=c.len
end
end
section
open List renaming length_take → aB
section
variable {c:Cx}
theorem cj1 (h:c.Ok)(hm:c.mode=3){s:Dy}(hi:InvB c s)(a n:Int):InvB c (plF c a n s).2:=by
 have nm:=h.num;have hW:=hi.w;have hL:=hi.L;have hp:=hi.p;have hq:=hi.q;have hpk:=hi.pk;have hqp:=hi.qp;have hns:=h.ns;have nR:=nm.R;have n1:=nm.xtR;have nx:=nm.x;obtain⟨g1,g2,g3,g4,g5,g6,g7⟩:=bf8 h hm hi;have htp:=nm.tp;rw[zE hm]at htp;have l1:(seg s.W (c.off 1) c.X.length).length=c.X.length:=ib (hW.in' h (i:=1) (by omega));have z1:c.sz 1=c.X.length:=rfl;have o1:=jh (c:=c) (i:=1) (j:=9) (by omega);unfold plF;by_cases a8:a=8
 ·rw[zE a8];by_cases hn:n≠0
  ·rw[zE hn];exact hi
  rw[zF hn];by_cases hq0:0≤s.q
  ·rw[zE hq0];exact hi
  rw[zF hq0];by_cases hpl:s.p=s.L
  ·rw[zE hpl];exact hi
  rw[zF hpl];have hheld:kr s=s.p:=by unfold kr;rw[zE (by omega)]
  have hlt:s.p.toNat<c.ns.toNat:=by omega
  obtain⟨s1,s2,s3,s4⟩:=uy h hm hlt;obtain⟨f1,f2,f3⟩:=mp h hW s.p;have w1:=av2 h hW s.p;have hla:((stepR c s.W s.p).2.1++(stepR c s.W s.p).1).length=c.sl.toNat:=by rw[List.length_append];omega
  have w2:=w1.put h (w:=(stepR c s.W s.p).2.1++(stepR c s.W s.p).1) (o:=mJ c s.p.toNat) (by rw[hla];exact s3);have hbd:=g5 (by rw[hheld];omega);refine⟨w2.put h (by rw[aB];omega),hL,⟨by show 0≤s.p+1;omega,by show s.p+1≤s.L;omega⟩,hq,fun hq1=> ?_, ?_, ?_⟩
  ·have hq1:0≤s.q:=hq1;omega
  ·show s.lv+c.sl=c.fixed+c.sl*(if s.q<0 then s.p+1 else s.q);rw[zE (by omega),hi.lv,hheld,Int.mul_add,Int.mul_one];omega
  ·show s.lv+c.sl≤max s.pk (s.lv+c.sl)∧max s.pk (s.lv+c.sl)≤c.words;omega
 rw[zF a8];by_cases a5:a=5
 ·rw[zE a5];by_cases hn:n≠0
  ·rw[zE hn];exact hi
  rw[zF hn];by_cases hq0:0≤s.q
  ·rw[zE hq0];exact hi
  rw[zF hq0];by_cases hpl:s.p≠s.L
  ·rw[zE hpl];exact hi
  rw[zF hpl];refine⟨(aG5 h hW l1).2,hL,hp,⟨by show-1≤s.L;omega,Int.le_refl _⟩,fun _=>by show s.p=s.L;omega, ?_, ?_⟩
  ·show s.lv=c.fixed+c.sl*(if s.L<0 then s.p else s.L);rw[zF (by omega),hi.lv];unfold kr;rw[zE (by omega),show s.p=s.L by omega]
  ·show s.lv≤max s.pk (s.lv+(c.fk.n:Int))∧max s.pk (s.lv+(c.fk.n:Int))≤c.words;omega
 rw[zF a5];by_cases a9:a=9
 ·rw[zE a9];by_cases hn:n≠0
  ·rw[zE hn];exact hi
  rw[zF hn];by_cases hq1:s.q<1
  ·rw[zE hq1];exact hi
  rw[zF hq1];have hlt:(s.q-1).toNat<c.ns.toNat:=by omega
  obtain⟨b1,b2,b3,b4,b5,b6⟩:=aR4 h hm hW hlt;obtain⟨v1,v2,v3⟩:=rl h (a:=(ay6 c s.W (s.q-1).toNat).2.1) hW (by omega) (by omega);refine⟨v3.put h (by rw[aB];omega),hL,⟨by show 0≤s.q-1;omega,by show s.q-1≤s.L;omega⟩,⟨by show-1≤s.q-1;omega,by show s.q-1≤s.L;omega⟩,fun _=>rfl, ?_, ?_⟩
  ·show s.lv-c.sl=c.fixed+c.sl*(if s.q-1<0 then s.q-1 else s.q-1);have hheld:kr s=s.q:=by unfold kr;rw[zF (by omega)]
   rw[zF (by omega),hi.lv,hheld,Int.mul_sub,Int.mul_one];omega
  ·show s.lv-c.sl≤s.pk∧s.pk≤c.words;have:=nm.sl;rw[zE hm]at this;omega
 rw[zF a9];exact hi
theorem cM6 {s:Dy}{B:Int}(hc:Cnt B s)(a n:Int):Cnt (B+65536) (plF c a n s).2:=by
 have key:Cnt (B+65536) s:=by unfold Cnt at hc⊢;omega
 unfold plF
 repeat' split
 all_goals first|exact key|(unfold Cnt at hc⊢;simp only;omega)
def mI (c:Cx)(s:Dy):Int×Dy:=if c.mode≠2 then(19,s)else if 0≤s.q then(19,s)else if s.L=65535 then(14,s)else(0,{s with L:=s.L+1})
theorem bt8 {s:Dy}{B:Int}(hc:Cnt B s):Cnt (B+65536) (mI c s).2:=by
 have key:Cnt (B+65536) s:=by unfold Cnt at hc⊢;omega
 unfold mI
 repeat' split
 all_goals first|exact key|(unfold Cnt at hc⊢;simp only;omega)
theorem cb3 (hm:c.mode=3){s:Dy}(hi:InvB c s):InvB c (mI c s).2:=by
 unfold mI;rw[zE (by omega)];exact hi
theorem cb4 {s:Dy}(hi:Inv c s):Inv c (mI c s).2:=by
 unfold mI;split
 ·exact hi
 split
 ·exact hi
 split
 ·exact hi
 ·have:=hi.L;have:=hi.p;have:=hi.q;exact⟨hi.w,⟨by show 0≤s.L+1;omega,by show s.L+1≤65535;omega⟩,⟨hi.p.1,by show s.p≤s.L+1;omega⟩,⟨hi.q.1,by show s.q≤s.L+1;omega⟩,fun k hk=>by have:=hi.tag k hk;exact⟨this.1,by show gc c s.W k≤s.L+1+1;omega⟩,hi.lv,hi.pk⟩
theorem cp4 {s:Dy}(hl:bL6 c s):bL6 c (mI c s).2:=by
 intro hm;unfold mI;rw[zE hm];exact hl hm
theorem dd4 (a n:Int)(s:Dy):(doF c a n s).2.L=s.L:=by
 unfold doF;by_cases h1:mE a n=false∨7<a
 ·rw[zE h1]
 rw[zF h1];by_cases h4:(2≤a∧a≤4)∧c.ns≤n
 ·rw[zE h4]
 rw[zF h4]
 have two: ∀{P:Prop} [Decidable P] {x y:Int×Dy},x.2.L=s.L→y.2.L=s.L→(if P then x else y).2.L=s.L:=by
  intro P _ x y hx hy;by_cases hP:P
  ·rw[zE hP];exact hx
  ·rw[zF hP];exact hy
 exact two (two rfl rfl) (two (two rfl rfl) (two (two rfl rfl) (two (two rfl rfl) (two (two rfl (two rfl rfl)) (two (two rfl (two rfl rfl)) (two rfl (two rfl rfl)))))))
theorem cH5 {s:Dy}(hl:bL6 c s)(a n:Int):bL6 c (doF c a n s).2:=fun hm=>(dd4 a n s).trans (hl hm)
def bM7 (c:Cx)(x:Int×Int)(s:Dy):Int×Dy:=if x.1=0 then mI c s else plF c x.1 x.2 s
def bM8 (c:Cx)(x:Int×Int)(s:Dy):Int×Dy:=if x.1=0 then mI c s else doF c x.1 x.2 s
theorem bg5 (s:Dy):(mI c s).2={s with L:=(mI c s).2.L}:=by
 unfold mI
 repeat' split
 all_goals rfl
structure Well1 (c:Cx)(i:Nat)(s:Dy):Prop where
 inv:InvB c s
 cnt:Cnt (65536*i) s
structure Well2 (c:Cx)(i:Nat)(s:Dy):Prop where
 inv:Inv c s
 cnt:Cnt (65536*i) s
 len:bL6 c s
theorem Well1.act (h:c.Ok)(hm:c.mode=3){i:Nat}{s:Dy}(w:Well1 c i s)(x:Int×Int):Well1 c (i+1) (bM7 c x s).2:=by
 have e:(65536:Int)*((i+1:Nat):Int)=65536*i+65536:=by omega
 unfold bM7;split
 ·exact⟨cb3 hm w.inv,by rw[e];exact bt8 w.cnt⟩
 ·exact⟨cj1 h hm w.inv _ _,by rw[e];exact cM6 w.cnt _ _⟩
theorem Well2.act (h:c.Ok)(hm:c.mode≠3){i:Nat}{s:Dy}(w:Well2 c i s)(x:Int×Int):Well2 c (i+1) (bM8 c x s).2:=by
 have e:(65536:Int)*((i+1:Nat):Int)=65536*i+65536:=by omega
 unfold bM8;split
 ·exact⟨cb4 w.inv,by rw[e];exact bt8 w.cnt,cp4 w.len⟩
 ·exact⟨cg7 h hm w.inv _ _,by rw[e];exact cH4 w.cnt _ _,cH5 w.len _ _⟩
theorem Well1.L (h:c.Ok){i:Nat}{s:Dy}(w:Well1 c i s):0≤s.L∧s.L≤65535:=by
 have:=w.inv.L;have:=h.num.len;omega
def cZ8 (f:(Int×Int)→Dy→Int×Dy)(l:List (Int×Int))(s:Dy):Nat→Dy
 |0=>s
 |i+1=>(f (l.getD i (0,0)) (cZ8 f l s i)).2
theorem ci4 (s:Dy)(h:s.c0=0∧s.c1=0∧s.c2=0∧s.c3=0):Cnt (65536*(0:Nat)) s:=by
 unfold Cnt;omega
theorem bw1 (h:c.Ok)(hm:c.mode=3)(l:List (Int×Int)): ∀i,Well1 c i (cZ8 (bM7 c) l (new1 c) i)
 |0=>⟨cy9 h hm,ci4 _ ⟨rfl,rfl,rfl,rfl⟩⟩
 |i+1=>(bw1 h hm l i).act h hm _
theorem bw2 (h:c.Ok)(hm:c.mode≠3)(l:List (Int×Int)): ∀i,Well2 c i (cZ8 (bM8 c) l (new2 c) i)
 |0=>⟨cz0 h hm,ci4 _ ⟨rfl,rfl,rfl,rfl⟩,fun _=>rfl⟩
 |i+1=>(bw2 h hm l i).act h hm _
def bT7 (c:Cx)(s:Dy):Int×Int×(List Int)×List Int:=if s.q≠0 then(0,19,[],[])else(s.z,0,seg s.W (c.off 5) c.X.length,seg s.W (c.off 6) c.T.length)
theorem cY0 (h:c.Ok){s:Dy}(hW:Wd c s.W):lQ c.fixed c.tp c.sl c.ns c.mode c.R c.Q c.len c.words s.L s.p s.q s.c0 s.c1 s.c2 s.c3 s.z c.X c.T c.l c.k c.P c.tk s.lv s.pk c.words s.W=some s.W:=by
 unfold lQ kF;rw[um (hW.tk h).2];rfl
theorem cY1 (h:c.Ok){s:Dy}(hW:Wd c s.W):kL c.fixed c.tp c.sl c.ns c.mode c.R c.Q c.len c.words s.L s.p s.q s.c0 s.c1 s.c2 s.c3 s.z c.X c.T c.l c.k c.P c.tk (c.off 8:Int) c.ns (c.X.length:Int) s.lv s.pk c.words s.W=some s.W:=by
 unfold kL kF;rw[um (hW.tk h).2];rfl
theorem cr7 {l:List Int}{f:Int→Option (Int⊕(Bool⊕Unit))}(hl:l.length<1000000000)(hf: ∀s,f s=cond (decide (s<((l.length:Nat):Int))) ((rd l s).bind fun x=>(rd l s).bind fun y=>cond (decide (x≠y)) (some (.inr (.inl false))) (some (.inl (IntKind.i64.wrap (s+1))))) (some (.inr (.inr ())))):bt f dy 0=some (.inr ()):=by
 refine ru (n:=l.length) (by omega) (fun i hi=> ?_) ?_
 ·rw[hf];rw[zB (by omega),zC,ci hi];simp only[zG];rw[dne,zD,bk (by omega)];rfl
 ·rw[hf];rw[zA (by omega),zD]
theorem cC3 {l:List Int}(hl:l.length<1000000000):nC l l=some true:=by
 unfold nC;rw[dne,zD,cr7 (f:=ah0 l l) (l:=l) hl fun s=>rfl];rfl
end
end
section
theorem aB0 :nA=some true:=by kernel_rfl
section
variable {c:Cx}
end
end
section
section
variable {a0:Int} {a1 a2:List Int} {a3:Int} {a4:List cu} {a5:Int} {a6:List cu} {a7 a8:Int}
theorem cN9 (h4: ∀o∈a4,okV o)(h6: ∀o∈a6,okV o):mv a0 a1 a2 a3 a4 a5 a6 a7 a8=some false∨(mv a0 a1 a2 a3 a4 a5 a6 a7 a8=some true∧OpsOk a4∧OpsOk a6∧a1.length≤200∧a2.length≤200):=by
 unfold mv yq;by_cases c1:(a4.length:Int)≤60
 ·by_cases c2:(a6.length:Int)≤60
  ·by_cases c3:(a1.length:Int)≤200
   ·by_cases c4:(a2.length:Int)≤200
    ·have o4:OpsOk a4:=⟨by omega,h4⟩;have o6:OpsOk a6:=⟨by omega,h6⟩;rw[zB c1,zB c2,zB c3,zB c4];simp only[zC,zG,Bool.not_true,zD];rw[aI7 o4 o6];simp only[zG,br]
     have key: ∀b:Bool,(some b=some false)∨(some b=some true∧OpsOk a4∧OpsOk a6∧a1.length≤200∧a2.length≤200):=fun b=>by
      cases b
      ·exact .inl rfl
      ·exact .inr ⟨rfl,o4,o6,by omega,by omega⟩
     repeat' split
     all_goals exact key _
    ·rw[zB c1,zB c2,zB c3,zA c4];exact .inl rfl
   ·rw[zB c1,zB c2,zA c3];exact .inl rfl
  ·rw[zB c1,zA c2];exact .inl rfl
 ·rw[zA c1];exact .inl rfl
end
end
end Go.V
