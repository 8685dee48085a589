/- A part of the proofs of this claim: what functions of the program answer on an abstract machine, and plain laws. No condition. -/
import Derived.Test.YtbocegmeciaanaaGreatL1
set_option linter.unusedVariables false
set_option linter.unusedSimpArgs false
set_option linter.unusedSectionVars false
namespace Go.V
open Go.Ab
open Option renaming some->C,none->O
open Bool renaming true->Za,false->Zb
open Decidable renaming decide->Zc
section
open Go.IntKind renaming wrap -> wB, i64 -> wC, u64 -> wD
open Int renaming toNat_natCast -> aB
open List renaming getElem?_eq_getElem -> aD
set_option maxRecDepth 100000
theorem at1 (f:Nat->Int): ∀{j:Nat},j<8->List.getD [f 0,f 1,f 2,f 3,f 4,f 5,f 6,f 7] j 0=f j
 |0,_=>rfl
 |1,_=>rfl
 |2,_=>rfl
 |3,_=>rfl
 |4,_=>rfl
 |5,_=>rfl
 |6,_=>rfl
 |7,_=>rfl
 |n+8,h=>by omega
def app (o:df)(x y:Int):Int:=
 if o.1=1 then wB wD (x+y)else if o.1=2 then wB wD (x-y)else if o.1=3 then wB wD (x*y)else if o.1=4 then wB wD (0-x)else if o.1=5 then o.2.2.2.2 else if o.1=6 then x else 0
theorem bx3 (o:df)(x y:Int):wJ o.1 o.2.1 o.2.2.1 o.2.2.2.1 o.2.2.2.2 x y=C (app o x y):=by
 unfold wJ app;simp only[cd]
 repeat' split
 all_goals rfl
def inR (R:Nat)(o:df):Prop:=(0<=o.2.1/\o.2.1<R)/\(0<=o.2.2.1/\o.2.2.1<R)/\0<=o.2.2.2.1/\o.2.2.2.1<R
theorem aG2 {R:Nat}{o:df}(h:inR R o): ∃d a b:Nat,o.2.1=d/\o.2.2.1=a/\o.2.2.2.1=b/\d<R/\a<R/\b<R:=by
 unfold inR at h;exact⟨o.2.1.toNat,o.2.2.1.toNat,o.2.2.2.1.toNat,by omega,by omega,by omega,by omega,by omega,by omega⟩
def rg (r:Zd)(k:Int):Int:=r.getD k.toNat 0
theorem gg {r:Zd}{k:Nat}(h:k<r.length):r[k]?=C (rg r (k:Int)):=by
 unfold rg;rw[aB,aD h,List.getD_eq_getElem?_getD,aD h];rfl
abbrev TS :=Zd×Zd×Nat
def yp (o:df)(s:TS):TS:=(s.1.set o.2.1.toNat (app o (rg s.1 o.2.2.1) (rg s.1 o.2.2.2.1)),s.2.1.set s.2.2 (rg s.1 o.2.1),s.2.2+1)
def VdT (R N:Nat)(m:Nat)(s:TS):Prop:=s.1.length=R/\s.2.1.length=N/\s.2.2+m<=N
def stT (p d:Nat)(l:Nat->Int)(s:TS):Int×Int×Int×(Zd)×(Zd)×Int×Int×Int×Int×Int×Int×Int×Int:=
 ((p:Int),(s.2.2:Int),(d:Int),s.1,s.2.1,l 0,l 1,l 2,l 3,l 4,l 5,l 6,l 7)
theorem qz {code:List aq9}{p:Nat}{x:aq9}(hc:code.length<=1000)(h:code[p]?=C x):p<code.length/\ix (p:Int) code.length=C p:=by
 have:=(List.getElem?_eq_some_iff.1 h).1;exact⟨this,cw this⟩
theorem dg8 {code:List aq9}(hc:code.length<=1000){R N:Nat}(hN:N<=1000000):Runs (py code) code stT yp (VdT R N) (inR R)where
 op:=by
  intro p d l s m o to h hg hk hd hv;obtain⟨h1,h2⟩:=qz hc h;obtain⟨kd,ka,kb,e1,e2,e3,g1,g2,g3⟩:=aG2 hg;obtain⟨v1,v2,v3⟩:=hv;refine⟨?_,by unfold yp;exact⟨by simp[v1],by simp[v2],by show s.2.2+1+m<=N;omega⟩⟩;unfold stT yp;simp only[py];rw[zB (by omega),yD,h2];simp only[wA];rw[h];simp only[wA,eg];rw[zB (by omega),yD,zB (by omega),yD];simp only[bx3,wA];rw[e1,e2,e3,cw (show kd<s.1.length by omega)];simp only[wA];rw[gg (show kd<s.1.length by omega)];simp only[wA];rw[cw (show s.2.2<s.2.1.length by omega)];simp only[wA];rw[gg (show s.2.2<s.2.1.length by omega)];simp only[wA];rw[cw (show ka<s.1.length by omega)];simp only[wA];rw[gg (show ka<s.1.length by omega)];simp only[wA];rw[cw (show kb<s.1.length by omega)];simp only[wA];rw[gg (show kb<s.1.length by omega)]
  simp only[wA];rw[bg (n:=(p:Int)+1) (by omega),bg (n:=(s.2.2:Int)+1) (by omega)];rfl
 rep:=by
  intro p d l s m o to h hk hd hv;obtain⟨h1,h2⟩:=qz hc h;unfold stT;simp only[py];rw[zB (by omega),yD,h2];simp only[wA];rw[h];simp only[wA,eg];rw[zD hk,yB,cw hd];simp only[wA];rw[bg (n:=(p:Int)+1) (by omega),bg (n:=(d:Int)+1) (by omega)];rfl
 nxt:=by
  intro p d l s m e to h hk hd hl hl2 hv;obtain⟨h1,h2⟩:=qz hc h;have h8:=at1 (upd l d (l d-1)) hd;rw[vq]at h8;unfold upd at h8;unfold stT;simp only[py];rw[zB (by omega),yD,h2];simp only[wA];rw[h];simp only[wA,eg];rw[zB (by omega),yD,zD hk,yB,bg (n:=((d+1:Nat):Int)-1) (by omega),show((d+1:Nat):Int)-1=(d:Int)by omega,cw hd];simp only[wA];rw[at1 l hd,gq (by omega),h8,zD (by omega),yB];rfl
 out:=by
  intro p d l s m e to h hk hd hl hv;obtain⟨h1,h2⟩:=qz hc h;have h8:=at1 (upd l d (l d-1)) hd;rw[vq]at h8;unfold upd at h8;unfold stT;simp only[py];rw[zB (by omega),yD,h2];simp only[wA];rw[h];simp only[wA,eg];rw[zB (by omega),yD,zD hk,yB,bg (n:=((d+1:Nat):Int)-1) (by omega),show((d+1:Nat):Int)-1=(d:Int)by omega,cw hd];simp only[wA];rw[at1 l hd,gq (by omega),h8,zB (by omega),yD,bg (n:=(p:Int)+1) (by omega)];rfl
abbrev FS :=Zd×Nat
def bf5 (o:df)(s:FS):FS:=(s.1.set o.2.1.toNat (app o (rg s.1 o.2.2.1) (rg s.1 o.2.2.2.1)),s.2+1)
def VdF (R M:Nat)(m:Nat)(s:FS):Prop:=s.1.length=R/\s.2+m<=M
def stF (p d:Nat)(l:Nat->Int)(s:FS):Int×Int×Int×(Zd)×Int×Int×Int×Int×Int×Int×Int×Int:=
 ((p:Int),(s.2:Int),(d:Int),s.1,l 0,l 1,l 2,l 3,l 4,l 5,l 6,l 7)
theorem dr7 {code:List aq9}(hc:code.length<=1000){R M:Nat}(hM:M<=1000000):Runs (ll (-1) code) code stF bf5 (VdF R M) (inR R)where
 op:=by
  intro p d l s m o to h hg hk hd hv;obtain⟨h1,h2⟩:=qz hc h;obtain⟨kd,ka,kb,e1,e2,e3,g1,g2,g3⟩:=aG2 hg;obtain⟨v1,v2⟩:=hv;refine⟨?_,by unfold bf5;exact⟨by simp[v1],by show s.2+1+m<=M;omega⟩⟩;unfold stF bf5;simp only[ll];rw[zB (show¬((p:Int)=(code.length:Int))by omega),yD,zB (show¬((s.2:Int)= -1)by omega),yD,h2];simp only[wA];rw[h];simp only[wA,eg];rw[zB (by omega),yD,zB (by omega),yD];simp only[bx3,aq3,wA];rw[e1,e2,e3,cw (show ka<s.1.length by omega)];simp only[wA];rw[gg (show ka<s.1.length by omega)];simp only[wA];rw[cw (show kb<s.1.length by omega)];simp only[wA];rw[gg (show kb<s.1.length by omega)];simp only[wA];rw[cw (show kd<s.1.length by omega)];simp only[wA];rw[gg (show kd<s.1.length by omega)];simp only[wA]
  rw[bg (n:=(p:Int)+1) (by omega),bg (n:=(s.2:Int)+1) (by omega)];rfl
 rep:=by
  intro p d l s m o to h hk hd hv;obtain⟨h1,h2⟩:=qz hc h;unfold stF;simp only[ll];rw[zB (show¬((p:Int)=(code.length:Int))by omega),yD,zB (show¬((s.2:Int)= -1)by omega),yD,h2];simp only[wA];rw[h];simp only[wA,eg];rw[zD hk,yB,cw hd];simp only[wA];rw[bg (n:=(p:Int)+1) (by omega),bg (n:=(d:Int)+1) (by omega)];rfl
 nxt:=by
  intro p d l s m e to h hk hd hl hl2 hv;obtain⟨h1,h2⟩:=qz hc h;have h8:=at1 (upd l d (l d-1)) hd;rw[vq]at h8;unfold upd at h8;unfold stF;simp only[ll];rw[zB (show¬((p:Int)=(code.length:Int))by omega),yD,zB (show¬((s.2:Int)= -1)by omega),yD,h2];simp only[wA];rw[h];simp only[wA,eg];rw[zB (by omega),yD,zD hk,yB,bg (n:=((d+1:Nat):Int)-1) (by omega),show((d+1:Nat):Int)-1=(d:Int)by omega,cw hd];simp only[wA];rw[at1 l hd,gq (by omega),h8,zD (by omega),yB];rfl
 out:=by
  intro p d l s m e to h hk hd hl hv;obtain⟨h1,h2⟩:=qz hc h;have h8:=at1 (upd l d (l d-1)) hd;rw[vq]at h8;unfold upd at h8;unfold stF;simp only[ll];rw[zB (show¬((p:Int)=(code.length:Int))by omega),yD,zB (show¬((s.2:Int)= -1)by omega),yD,h2];simp only[wA];rw[h];simp only[wA,eg];rw[zB (by omega),yD,zD hk,yB,bg (n:=((d+1:Nat):Int)-1) (by omega),show((d+1:Nat):Int)-1=(d:Int)by omega,cw hd];simp only[wA];rw[at1 l hd,gq (by omega),h8,zB (by omega),yD,bg (n:=(p:Int)+1) (by omega)];rfl
def par (o:df)(x y:Int):Int×Int:=
 if o.1=1 then(1,1)else if o.1=2 then(1,18446744073709551615)else if o.1=3 then(y,x)else if o.1=4 then(18446744073709551615,0)else if o.1=6 then(1,0)else(0,0)
theorem aW1 (o:df)(x y:Int):sa o.1 o.2.1 o.2.2.1 o.2.2.2.1 o.2.2.2.2 x y=C (par o x y):=by
 unfold sa par;simp only[cd]
 repeat' split
 all_goals rfl
def bx7 (o:df)(r a:Zd)(t:Int):Zd×Zd:=
 let g:=rg a o.2.1
 let r1:=r.set o.2.1.toNat t
 let a1:=a.set o.2.1.toNat 0
 let q:=par o (rg r1 o.2.2.1) (rg r1 o.2.2.2.1)
 let a2:=a1.set o.2.2.1.toNat (wB wD (rg a1 o.2.2.1+wB wD (q.1*g)))
 (r1,a2.set o.2.2.2.1.toNat (wB wD (rg a2 o.2.2.2.1+wB wD (q.2*g))))
theorem cU5 {o:df}{r a t:Zd}{n:Nat}(hg:inR r.length o)(ha:a.length=r.length)(hn:n<t.length):
  uV o.1 o.2.1 o.2.2.1 o.2.2.2.1 o.2.2.2.2 (n:Int) r a t=C (bx7 o r a (rg t (n:Int))):=by
 obtain⟨kd,ka,kb,e1,e2,e3,g1,g2,g3⟩:=aG2 hg;unfold uV;simp only[aW1,wA];unfold bx7;simp only[e1,e2,e3,aB];rw[cw (show kd<a.length by omega)];simp only[wA];rw[gg (show kd<a.length by omega)];simp only[wA];rw[cw hn];simp only[wA];rw[gg hn];simp only[wA];rw[cw g1];simp only[wA];rw[gg g1];simp only[wA];have hr1: ∀x:Int,(r.set kd x).length=r.length:=by simp
 have ha1:(a.set kd 0).length=a.length:=by simp
 rw[cw (show ka<(r.set kd (rg t (n:Int))).length by rw[hr1];omega)];simp only[wA];rw[gg (show ka<(r.set kd (rg t (n:Int))).length by rw[hr1];omega)];simp only[wA];rw[cw (show kb<(r.set kd (rg t (n:Int))).length by rw[hr1];omega)];simp only[wA];rw[gg (show kb<(r.set kd (rg t (n:Int))).length by rw[hr1];omega)];simp only[wA];rw[cw (show ka<(a.set kd 0).length by omega)];simp only[wA];rw[gg (show ka<(a.set kd 0).length by omega)];simp only[wA];generalize hP:par o _ _=P;generalize hA:(a.set kd 0).set ka _=A2;have hA2:A2.length=a.length:=by rw[<-hA];simp
 rw[cw (show kb<A2.length by omega)];simp only[wA];rw[gg (show kb<A2.length by omega)];simp only[wA]
abbrev BS :=Zd×Zd×Nat
def vg (t:Zd)(o:df)(s:BS):BS:=((bx7 o s.1 s.2.1 (rg t ((s.2.2-1:Nat):Int))).1,(bx7 o s.1 s.2.1 (rg t ((s.2.2-1:Nat):Int))).2,s.2.2-1)
def VdB (R N:Nat)(m:Nat)(s:BS):Prop:=s.1.length=R/\s.2.1.length=R/\m<=s.2.2/\s.2.2<=N
def stB (p d:Nat)(l:Nat->Int)(s:BS):Int×Int×Int×(Zd)×(Zd)×Int×Int×Int×Int×Int×Int×Int×Int:=
 ((p:Int)-1,(d:Int),(s.2.2:Int),s.1,s.2.1,l 0,l 1,l 2,l 3,l 4,l 5,l 6,l 7)
theorem bW6 (o:df)(r a:Zd)(t:Int):(bx7 o r a t).1.length=r.length/\(bx7 o r a t).2.length=a.length:=by
 unfold bx7;simp
theorem dQ0 {code:List aq9}(hc:code.length<=1000){R:Nat}{t:Zd}(hN:t.length<=1000000):Backs (iv t code) code stB (vg t) (VdB R t.length) (inR R)where
 op:=by
  intro p d l s m o to h hg hk hd hv;obtain⟨h1,h2⟩:=qz hc h;obtain⟨v1,v2,v3,v4⟩:=hv;obtain⟨q1,q2⟩:=bW6 o s.1 s.2.1 (rg t ((s.2.2-1:Nat):Int));refine⟨?_,by unfold vg;exact⟨by simp[v1,q1],by simp[v2,q2],by show m<=s.2.2-1;omega,by show s.2.2-1<=_;omega⟩⟩;unfold stB vg;simp only[iv];rw[show((p+1:Nat):Int)-1=(p:Int)by omega,zB (by omega),yD,h2];simp only[wA];rw[h];simp only[wA,eg];rw[zB (by omega),yD,zB (by omega),yD,bg (n:=(s.2.2:Int)-1) (by omega),show(s.2.2:Int)-1=((s.2.2-1:Nat):Int)by omega,cU5 (by rw[v1];exact hg) (by omega) (by omega)];simp only[wA];rw[bg (n:=(p:Int)-1) (by omega)]
 rep:=by
  intro p q d l s m o e to h hk h' hd hv;obtain⟨h1,h2⟩:=qz hc h;obtain⟨h3,h4⟩:=qz hc h';unfold stB;simp only[iv];rw[show((p+1:Nat):Int)-1=(p:Int)by omega,zB (by omega),yD,h2];simp only[wA];rw[h];simp only[wA,eg];rw[zD hk,yB,bg (n:=((q+1:Nat):Int)-1) (by omega),show((q+1:Nat):Int)-1=(q:Int)by omega,h4];simp only[wA];rw[h'];simp only[wA,eg];rw[cw hd];simp only[wA];rw[bg (n:=(p:Int)-1) (by omega),bg (n:=(d:Int)+1) (by omega)];rfl
 nxt:=by
  intro p d l s m o to h hto hk hd hl hl2 hv;obtain⟨h1,h2⟩:=qz hc h;have h8:=at1 (upd l d (l d-1)) hd;rw[vq]at h8;unfold upd at h8;unfold stB;simp only[iv];rw[show((p+1:Nat):Int)-1=(p:Int)by omega,zB (by omega),yD,h2];simp only[wA];rw[h];simp only[wA,eg];rw[zB (by omega),yD,zD hk,yB,bg (n:=((d+1:Nat):Int)-1) (by omega),show((d+1:Nat):Int)-1=(d:Int)by omega,cw hd];simp only[wA];rw[at1 l hd,gq (by omega),h8,zD (by omega),yB];rw[bg (n:=((to+1:Nat):Int)-2) (by omega),show((to+1:Nat):Int)-2=(to:Int)-1 by omega];rfl
 out:=by
  intro p d l s m o to h hk hd hl hv;obtain⟨h1,h2⟩:=qz hc h;have h8:=at1 (upd l d (l d-1)) hd;rw[vq]at h8;unfold upd at h8;unfold stB;simp only[iv];rw[show((p+1:Nat):Int)-1=(p:Int)by omega,zB (by omega),yD,h2];simp only[wA];rw[h];simp only[wA,eg];rw[zB (by omega),yD,zD hk,yB,bg (n:=((d+1:Nat):Int)-1) (by omega),show((d+1:Nat):Int)-1=(d:Int)by omega,cw hd];simp only[wA];rw[at1 l hd,gq (by omega),h8,zB (by omega),yD,bg (n:=(p:Int)-1) (by omega)];rfl
end
section
open Bool renaming and_eq_true -> cB, not_eq_true' -> cD
open List renaming getElem?_append_right -> bB, append_assoc -> bD, length_append -> dB
open Nat renaming le_refl -> aB, sub_self -> aD
theorem dQ1 {w v c:Int}{n:Nat}(h:aE5 w v=C c)(hv:0<=v)(hw:w=(n:Int)):c=((n*v.toNat:Nat):Int):=by
 have hvv:((v.toNat:Nat):Int)=v:=Int.toNat_of_nonneg hv;rw[Int.natCast_mul,hvv,<-hw];unfold aE5 at h;split at h
 .rename_i hz;injection h with h
  rw[hz,Int.zero_mul,h]
 split at h
 .cases h
 split at h
 .cases h
 .injection h with h
  exact h.symm
def cV3 (l:List df)(m S:Zd):Prop:=m.length=l.length/\S.length=l.length/\∀(A B:List df) (o e:df) (b:Fo),l=A++o::(b.src++e::B)->b.Ok->o.1=7->e.1=0->
 m[A.length]?=C ((A.length+1+b.len:Nat):Int)/\S[A.length]?=C ((b.n*wG o:Nat):Int)
theorem dH8 {l:List df}{m S R:Zd}(hm:MOK l m)(hS:S.length=l.length)(hv: ∀o∈l,okV o)(h: ∀j,j<l.length->∃a b,S[j]?=C a/\R[j]?=C b/\dJ2 l j a b):cV3 l m S:=by
 refine⟨hm.len,hS,λA B o e b hl hb ho he=> ?_⟩;have hlen:l.length=A.length+1+(b.len+(B.length+1)):=by rw[hl];simp[Fo.src_len];omega
 have hlt:A.length<l.length:=by omega
 have hget:l[A.length]=o:=by
  have:l[A.length]?=C o:=by rw[hl,bB (aB _),aD];rfl
  rw[List.getElem?_eq_getElem hlt]at this;injection this
 have hd:l.drop (A.length+1)=b.src++e::B:=by rw[hl,List.drop_append,List.drop_of_length_le (by omega),show A.length+1-A.length=1 by omega];rfl
 refine⟨?_, ?_⟩
 .have:=hm.at' A.length hlt (by rw[hget];exact ho) b.src e B hd he (Fo.scan0 hb);rw[Fo.src_len]at this;exact this
 .obtain⟨a,c,h1,h2,h3⟩:=h A.length hlt;obtain⟨h4,h5⟩:=(h3 hlt).1 (by rw[hget];exact ho) b.src e B hd he (Fo.scan0 hb);have hmem: ∀x∈b.src,0<=x.2.2.2.2:=λx hx=>(hv x (by rw[hl];simp[hx])).1
  have e1:=Fo.Q9_n b hb hmem h4;rw[hget]at h5;rw[h1,dQ1 h5 (hv o (by rw[hl];simp)).1 e1];rfl
section
variable {l:List df} {m S:Zd} {em es:Int}
theorem dR5 {i:Nat}{op:Zd}{out:List aq9}(hl:l.length<=1000)(ho:out.length<=1000){x:df}(hx:l[i]?=C x)(hk:0<x.1/\x.1<7):
  ip l (em,m) (es,S) ((i:Int),op,out)=C (.inl (((i+1:Nat):Int),op,out++[eg x 0])):=by
 obtain⟨hi,hg⟩:=List.getElem?_eq_some_iff.1 hx;simp only[ip];rw[zD (show(i:Int)<(l.length:Int)by omega),yB,dh hi,hg];simp only[wA];rw[zB (show¬x.1=7 by omega),zB (show¬x.1=0 by omega)];simp only[yD,wA,cq];rw[ej (by omega) (by omega),bg (by omega)];rfl
theorem dw9 {i j:Nat}{op:Zd}{out:List aq9}(hl:l.length<=1000){x:df}(hx:l[i]?=C x)(hk:x.1=7)(hs:S[i]?=C 0)(hm:m[i]?=C (j:Int))(hj:j<=1000):
  ip l (em,m) (es,S) ((i:Int),op,out)=C (.inl (((j+1:Nat):Int),op,out)):=by
 obtain⟨hi,hg⟩:=List.getElem?_eq_some_iff.1 hx;obtain⟨hi2,_⟩:=List.getElem?_eq_some_iff.1 hs;obtain⟨hi3,_⟩:=List.getElem?_eq_some_iff.1 hm;simp only[ip];rw[zD (show(i:Int)<(l.length:Int)by omega),yB,dh hi,hg];simp only[wA];rw[zD hk];simp only[yB];rw[cw hi2];simp only[wA];rw[hs];simp only[wA,dg];rw[decide_true,yB,cw hi3];simp only[wA];rw[hm];simp only[wA,dg];rw[bg (by omega)];rfl
theorem dw8 {i:Nat}{n:Int}{op:Zd}{out:List aq9}(hl:l.length<=1000)(ho:out.length<=1000)(hp:op.length<=1000){x:df}(hx:l[i]?=C x)(hk:x.1=7)(hs:S[i]?=C n)(hn:n≠0):
  ip l (em,m) (es,S) ((i:Int),op,out)=C (.inl (((i+1:Nat):Int),op++[(out.length:Int)],out++[eg x 0])):=by
 obtain⟨hi,hg⟩:=List.getElem?_eq_some_iff.1 hx;obtain⟨hi2,_⟩:=List.getElem?_eq_some_iff.1 hs;simp only[ip];rw[zD (show(i:Int)<(l.length:Int)by omega),yB,dh hi,hg];simp only[wA];rw[zD hk];simp only[yB];rw[cw hi2];simp only[wA];rw[hs];simp only[wA,dg];rw[zB hn,yD,ej (by omega) (by omega)];simp only[wA,dg,cq];rw[ej (by omega) (by omega),bg (by omega)];rfl
theorem dl4 {i q:Nat}{op:Zd}{out:List aq9}{o:df}{t:Nat}(hl:l.length<=1000)(ho:out.length<=1000)(hp:op.length<=1000){x:df}(hx:l[i]?=C x)(hk:x.1=0)(hq:out[q]?=C (eg o t)):
  ip l (em,m) (es,S) ((i:Int),op++[(q:Int)],out)=C (.inl (((i+1:Nat):Int),op,out.set q (eg o (out.length+1))++[eg x (q+1)])):=by
 obtain⟨hi,hg⟩:=List.getElem?_eq_some_iff.1 hx;obtain⟨hq1,_⟩:=List.getElem?_eq_some_iff.1 hq;have hlen:(op++[(q:Int)]).length=op.length+1:=by simp
 simp only[ip];rw[zD (show(i:Int)<(l.length:Int)by omega),yB,dh hi,hg];simp only[wA];rw[zB (show¬x.1=7 by omega),zD hk];simp only[yD,yB,wA,cq];rw[bg (n:=((op++[(q:Int)]).length:Int)-1) (by omega),show((op++[(q:Int)]).length:Int)-1=(op.length:Int)by omega,cw (show op.length<(op++[(q:Int)]).length by omega)];simp only[wA];rw[bB (aB _),aD];simp only[List.getElem?_cons_zero,wA];rw[i7 (by omega),fg,cw hq1];simp only[wA];rw[hq];simp only[wA];rw[ej (by simp;omega) (by omega)];simp only[wA,dg,cq]
 have htk:(op++[(q:Int)]).take ((op.length:Int).toNat-0)=op:=by
  rw[show(op.length:Int).toNat-0=op.length by omega,List.take_left'];rfl
 rw[htk,bg (n:=(i:Int)+1) (by omega),bg (n:=(out.length:Int)+1) (by omega),bg (n:=(q:Int)+1) (by omega)];rfl
theorem bT9 (hl:l.length<=1000)(hK:cV3 l m S): ∀(f:Fo) (A B:List df) (op:Zd) (out:List aq9),l=A++f.src++B->f.Ok->op.length<=A.length->out.length<=A.length->
  ∃k,k<=f.len/\Reach (ip l (em,m) (es,S)) k ((A.length:Int),op,out) (((A.length+f.len:Nat):Int),op,out++f.bare.code out.length)
 | .nil,A,B,op,out,hs,_,_,_=>by
  refine⟨0,aB _, ?_⟩;simp only[Fo.bare,Fo.code,Fo.len,List.append_nil,Nat.add_zero];exact Reach.refl
 | .op o r,A,B,op,out,hs,hk,hp,ho=>by
  have hA:(A++[o]).length=A.length+1:=by simp
  have hll:l.length=A.length+(r.len+1)+B.length:=by rw[hs];simp[Fo.src,Fo.src_len];omega
  have hx:l[A.length]?=C o:=by rw[hs,bD,bB (aB _),aD];rfl
  obtain⟨k,k1,k2⟩:=bT9 hl hK r (A++[o]) B op (out++[eg o 0]) (by rw[hs];simp[Fo.src]) hk.2 (by omega) (by simp;omega);refine⟨1+k,by simp only[Fo.len];omega, ?_⟩;have h1:=(Reach.one (dR5 (em:=em) (es:=es) (op:=op) (out:=out) hl (by omega) hx hk.1)).trans (show Reach _ k _ _ from by rw[hA]at k2;exact k2);simp only[Fo.bare,Fo.code,Fo.len];rw[show A.length+(r.len+1)=A.length+1+r.len by omega];rw[bD,dB]at h1;exact h1
 | .rep o b e r,A,B,op,out,hs,hk,hp,ho=>by
  obtain⟨⟨k1,k2⟩,k3,k4⟩:=hk;have hll:l.length=A.length+(b.len+r.len+2)+B.length:=by rw[hs];simp[Fo.src,Fo.src_len];omega
  have hx:l[A.length]?=C o:=by rw[hs,bD,bB (aB _),aD];rfl
  obtain⟨hm,hS⟩:=hK.2.2 A (r.src++B) o e b (by rw[hs];simp[Fo.src]) k3 k1 k2;have hAe:(A++o::b.src).length=A.length+1+b.len:=by simp[Fo.src_len];omega
  have hxe:l[A.length+1+b.len]?=C e:=by
   rw[show l=(A++o::b.src)++(e::(r.src++B))by rw[hs];simp[Fo.src],<-hAe,bB (aB _),aD];rfl
  have hAr:(A++o::(b.src++[e])).length=A.length+1+b.len+1:=by simp[Fo.src_len];omega
  simp only[Fo.bare,Fo.len];by_cases hz:b.n*wG o=0
  .rw[xB hz];rw[hz]at hS;obtain⟨k,g1,g2⟩:=bT9 hl hK r (A++o::(b.src++[e])) B op out (by rw[hs];simp[Fo.src]) k4 (by omega) (by omega);refine⟨1+k,by omega, ?_⟩;have h1:=(Reach.one (dw9 (em:=em) (es:=es) (op:=op) (out:=out) hl hx k1 hS hm (by omega))).trans (show Reach _ k _ _ from by rw[hAr]at g2;exact g2);rw[show A.length+(b.len+r.len+2)=A.length+1+b.len+1+r.len by omega];exact h1
  .rw[xD hz];have hA:(A++[o]).length=A.length+1:=by simp
   obtain⟨kb,b1,b2⟩:=bT9 hl hK b (A++[o]) (e::(r.src++B)) (op++[(out.length:Int)]) (out++[eg o 0]) (by rw[hs];simp[Fo.src]) k3 (by simp;omega) (by simp;omega);rw[hA]at b2;have hbl:=b.bare_len;have hrl:=r.bare_len;have holen:(out++[eg o 0]++b.bare.code (out++[eg o 0]).length).length=out.length+1+b.bare.len:=by simp[Fo.code_len];omega
   have hq:(out++[eg o 0]++b.bare.code (out++[eg o 0]).length)[out.length]?=C (eg o 0):=by
    rw[bD,bB (aB _),aD];rfl
   have h2:=dl4 (em:=em) (es:=es) (m:=m) (S:=S) (op:=op) hl (by omega) (by omega) hxe k2 hq;rw[holen]at h2
   have hset:(out++[eg o 0]++b.bare.code (out++[eg o 0]).length).set out.length (eg o (out.length+1+b.bare.len+1))=out++eg o (out.length+1+b.bare.len+1)::b.bare.code (out.length+1):=by
    rw[bD,List.set_append_right _ _ (aB _),aD,dB];rfl
   rw[hset]at h2;obtain⟨k,g1,g2⟩:=bT9 hl hK r (A++o::(b.src++[e])) B op (out++eg o (out.length+1+b.bare.len+1)::b.bare.code (out.length+1)++[eg e (out.length+1)]) (by rw[hs];simp[Fo.src]) k4 (by omega) (by rw[hAr];simp[Fo.code_len];omega);rw[hAr]at g2;refine⟨1+kb+1+k,by omega, ?_⟩;have h1:=(((Reach.one (dw8 (em:=em) (es:=es) (m:=m) (op:=op) (out:=out) hl (by omega) (by omega) hx k1 hS (by omega))).trans b2).trans (Reach.one h2)).trans g2;rw[show A.length+(b.len+r.len+2)=A.length+1+b.len+1+r.len by omega]
   have e1:out++eg o (out.length+1+b.bare.len+1)::b.bare.code (out.length+1)++[eg e (out.length+1)]++r.bare.code (out++eg o (out.length+1+b.bare.len+1)::b.bare.code (out.length+1)++[eg e (out.length+1)]).length=out++(Fo.rep o b.bare e r.bare).code out.length:=by
    have hl3:(out++eg o (out.length+1+b.bare.len+1)::b.bare.code (out.length+1)++[eg e (out.length+1)]).length=out.length+b.bare.len+2:=by simp[Fo.code_len];omega
    rw[hl3];simp only[Fo.code];rw[show out.length+1+b.bare.len+1=out.length+b.bare.len+2 by omega];simp
   rw[e1]at h1;exact h1
end
theorem cf8 {l:List df}:aO0 l=(pw l).bind λr=>C (r.2.1,r.2.2.1):=rfl
theorem dd3 {R:Int}{l:List df}(h:aC1 R l=0):lk0 l=0/\lk1 R l=0/\lk2 l=0/\lk3 l=0:=by
 unfold aC1 at h;split at h
 .omega
 split at h
 .omega
 split at h
 .omega
 .omega
structure Prg (R:Int)(l:List df)(f:Fo):Prop where
 ops:OpsOk l
 ok:f.Ok
 src:f.src=l
 z:aC1 R l=0
 R1:1<=R/\R<=64
 deep:f.hi<=8
 n:f.n<=65536
 w:gb l=((f.n:Int),0)
 regs: ∀o∈l,0<o.1/\o.1<7->inR R.toNat o
theorem dq5 {R:Int}{l:List df}(h:OpsOk l)(hp:aC1 R l=0): ∃f,Prg R l f:=by
 obtain⟨h0,h1,h2,h3⟩:=dd3 hp
 have hform:bH8 l=Za:=by
  unfold lk0 at h0;split at h0
  .assumption
  .omega
 have hregs:by1 R l=Za:=by
  unfold lk1 at h1;split at h1
  .assumption
  .omega
 unfold bH8 at hform;rw[cB,decide_eq_true_eq,cD]at hform;obtain⟨hs,hr⟩:=hform;unfold by1 at hregs;rw[cB,decide_eq_true_eq,cD]at hregs;obtain⟨hR,ho⟩:=hregs;obtain⟨f,f1,f2⟩:=Fo.parse _ l (aB _) hs
 have hq: ∃t,Q9 l=C t/\t<=65536:=by
  unfold lk3 gb at h3;rw[xB hs]at h3;cases hq:Q9 l with
  |none=>rw[hq]at h3;cases h3
  |some t=>
   rw[hq]at h3;refine⟨t,rfl, ?_⟩;by_cases c:65536<t
   .simp only[xB c]at h3;cases h3
   .omega
 obtain⟨t,ht,hle⟩:=hq;have hn:t=(f.n:Int):=Fo.Q9_n f f1 (λx hx=>(h.v x (f2▸hx)).1) (by rw[f2];exact ht);refine⟨f,h,f1,f2,hp,hR, ?_,by omega, ?_,λo hm hk=> ?_⟩
 .have h4:=Fo.hi_le f1;rw[f2]at h4;unfold lk2 bT2 at h2;rw[xB hs]at h2;by_cases c:(8:Int)<((hmax l 0 0:Nat):Int)
  .simp only[xB c]at h2;cases h2
  .omega
 .unfold gb;rw[xB hs,ht];show(if 65536<t then((0:Int),(9:Int))else(t,0))=_;rw[xD (by omega),hn]
 .have h5:=List.any_eq_false.1 hr o hm;have h6:=List.any_eq_false.1 ho o hm;have h5:ak6 o=Za:=by simpa using h5
  have h6:cx2 R o=Zb:=by simpa using h6
  obtain⟨k,d,a,b,v⟩:=o;have hk:k=1∨k=2∨k=3∨k=4∨k=5∨k=6:=by simp only at hk;omega
  unfold inR
  rcases hk with rfl|rfl|rfl|rfl|rfl|rfl<;>
   .simp[ak6,aZ5,dx]at h5;simp[cx2,dx]at h6;simp only;omega
theorem bh4 {R:Int}{l:List df}{f:Fo}(hP:Prg R l f):wH R l=C (0,f.bare.code 0):=by
 unfold wH;rw[ce6 hP.ops];simp only[wA];rw[hP.z,zB (by simp),yD];have hl:=hP.ops.len;have hs:dj l 0=C 0:=by rw[<-hP.src];exact Fo.scan0 hP.ok
 obtain⟨m,hm,hM⟩:=bL4 (l:=l) (by omega) hs;obtain⟨r,hr,r1,r2,r3⟩:=by7 (l:=l) (by omega) hP.ops.v;rw[hm,cf8,hr];simp only[wA];have hw:=hP.w;rcases r3 with⟨r3,_⟩|⟨_,_,r4,r5,r6⟩
 .rw[hw]at r3;exact(r3 rfl).elim
 have hK:=dH8 hM r4 (λo ho=>hP.ops.v o ho) r6;obtain⟨k,k1,k2⟩:=bT9 (em:=0) (es:=r.2.1) (by omega) hK f [] [] [] [] (by simp[hP.src]) hP.ok (by simp) (by simp);have hfl:f.len=l.length:=by rw[<-Fo.src_len,hP.src]
 have h1:=k2 (18446744073709551616-k);rw[show 18446744073709551616-k+k=gi by unfold gi;omega,show 18446744073709551616-k=(18446744073709551615-k)+1 by omega]at h1
 have hloop:cj (ip l (0,m) (r.2.1,r.2.2.1)) gi ((0:Int),([]:Zd),([]:List aq9))=C (f.bare.code 0):=by
  refine h1.trans ?_;rw[eo];simp only[ip];rw[zB (by rw[hfl];simp),yD];rfl
 rw[hloop];rfl
end
section
open List renaming replicate -> aB, length_replicate -> aD
theorem iu {α γ:Type}{g:α->Option (α⊕γ)}{k:Nat}{s s':α}{c:γ}(h:Reach g k s s')(hk:k<=1000000000)(he:g s'=C (.inr c)):cj g gi s=C c:=by
 have h1:=h (18446744073709551616-k);rw[show 18446744073709551616-k+k=gi by unfold gi;omega,show 18446744073709551616-k=(18446744073709551615-k)+1 by omega]at h1;refine h1.trans ?_;rw[eo,he];rfl
section
variable {R:Int} {l:List df} {f:Fo}
theorem Prg.len (h:Prg R l f):f.len<=100:=by
 have:=h.ops.len;rw[<-Fo.src_len,h.src];exact this
theorem Prg.clen (h:Prg R l f):(f.bare.code 0).length<=1000:=by
 have h1:=h.len;have h2:=f.bare_len;rw[Fo.code_len];omega
theorem Prg.steps (h:Prg R l f):f.bare.steps<=1000000000:=by
 have h1:=Fo.steps_le f.bare f.bare_pos;rw[Fo.bare_n]at h1;have h2:=h.len;have h3:=f.bare_len;have h4:=h.n;have h5:(2*f.bare.len+1)*f.n<=201*65536:=Nat.mul_le_mul (by omega) h4;omega
theorem Prg.good (h:Prg R l f): ∀o∈f.bare.src,(0<o.1/\o.1<7->inR R.toNat o)/\okV o:=λo ho=>by
 have:=Fo.bare_mem f ho;rw[h.src]at this;exact⟨h.regs o this,h.ops.v o this⟩
theorem Prg.hi (h:Prg R l f):0+f.bare.hi<=8:=by
 have h1:=h.deep;have h2:=f.bare_hi;omega
theorem Prg.writes (h:Prg R l f):kc l=C ((f.n:Int),0):=by
 rw[ap8 (by have:=h.ops.len;omega) h.ops.v,h.w]
def dH6 (R:Nat)(o:df):Prop:=0<o.1/\o.1<7->inR R o
theorem ck8 {Y γ S:Type}{g:Y->Option (Y⊕γ)}{code:List aq9}{st:Nat->Nat->(Nat->Int)->S->Y}{stp:df->S->S}{Vd:Nat->S->Prop}{R:Nat}(h:Runs g code st stp Vd (inR R)):Runs g code st stp Vd (dH6 R):=
 ⟨λh1 h2 h3 h4 h5=>h.op h1 (h2 h3) h3 h4 h5,h.rep,h.nxt,h.out⟩
theorem bR8 {Y γ S:Type}{g:Y->Option (Y⊕γ)}{code:List aq9}{st:Nat->Nat->(Nat->Int)->S->Y}{stp:df->S->S}{Vd:Nat->S->Prop}{R:Nat}(h:Backs g code st stp Vd (inR R)):Backs g code st stp Vd (dH6 R):=
 ⟨λh1 h2 h3 h4 h5=>h.op h1 (h2 h3) h3 h4 h5,h.rep,h.nxt,h.out⟩
def yo (f:Fo)(r t:Zd):TS:=fwd yp f.unroll (r,t,0)
theorem dh6 (h:Prg R l f){r t:Zd}(hr:r.length=R.toNat)(ht:f.n<=t.length)(ht2:t.length<=1000000):
  aF3 (f.bare.code 0) r t=C (((yo f r t).2.2:Int),(yo f r t).1,(yo f r t).2.1)/\(yo f r t).1.length=R.toNat/\(yo f r t).2.1.length=t.length:=by
 obtain⟨l',_,h2,h3⟩:=bY5 (m:=0) (l:=λ_=>0) (s:=((r,t,0):TS)) (d:=0) (p:=0) (A:=[]) (B:=[]) (ck8 (dg8 (R:=R.toNat) (N:=t.length) h.clen ht2)) f.bare (by simp) rfl (Fo.bare_ok f h.ok) f.bare_pos h.hi h.good ⟨hr,rfl,by rw[Fo.bare_n];show 0+(f.n+0)<=_;omega⟩;rw[Fo.bare_unroll]at h2 h3;refine⟨?_,h3.1,h3.2.1⟩;unfold aF3
 have:=iu h2 h.steps (c:=(((yo f r t).2.2:Int),(yo f r t).1,(yo f r t).2.1,l' 0,l' 1,l' 2,l' 3,l' 4,l' 5,l' 6,l' 7)) (by
  unfold stT;simp only[py];rw[zD (by rw[Fo.code_len];omega),yB]
  rfl)
 have e:stT 0 0 (λ_=>0) ((r,t,0):TS)=(0,0,0,r,t,0,0,0,0,0,0,0,0):=rfl;rw[e]at this;rw[this];rfl
theorem ad5 (h:Prg R l f){r t:Zd}(hr:r.length=R.toNat)(ht:f.n<=t.length)(ht2:t.length<=1000000):
  tg R l r t=C (((yo f r t).2.2:Int),0,(yo f r t).1,(yo f r t).2.1)/\(yo f r t).1.length=R.toNat/\(yo f r t).2.1.length=t.length:=by
 obtain⟨h1,h2,h3⟩:=dh6 h hr ht ht2;refine⟨?_,h2,h3⟩;unfold tg aO1;rw[bh4 h,h.writes];have hR:=h.R1;simp only[wA];rw[zB (show¬((0:Int)≠0)by simp),yD,zB (show¬((r.length:Int)≠R)by omega),yD,zB (show¬((t.length:Int)<(f.n:Int))by omega),yD];simp only[wA];rw[zB (show¬((0:Int)≠0)by simp),yD,h1];rfl
def by5 (f:Fo)(r:Zd):Zd:=(fwd bf5 f.unroll (r,0)).1
theorem cw1 (h:Prg R l f){r:Zd}(hr:r.length=R.toNat):ae8 (-1) (f.bare.code 0) r=C (by5 f r)/\(by5 f r).length=R.toNat:=by
 obtain⟨l',_,h2,h3⟩:=bY5 (m:=0) (l:=λ_=>0) (s:=((r,0):FS)) (d:=0) (p:=0) (A:=[]) (B:=[]) (ck8 (dr7 (R:=R.toNat) (M:=65536) h.clen (by omega))) f.bare (by simp) rfl (Fo.bare_ok f h.ok) f.bare_pos h.hi h.good ⟨hr,by rw[Fo.bare_n];show 0+(f.n+0)<=_;have:=h.n;omega⟩;rw[Fo.bare_unroll]at h2 h3;refine⟨?_,h3.1⟩;unfold ae8
 have:=iu h2 h.steps (c:=(by5 f r,l' 0,l' 1,l' 2,l' 3,l' 4,l' 5,l' 6,l' 7)) (by
  unfold stF;simp only[ll];rw[zD (by rw[Fo.code_len];omega),yB]
  rfl)
 have e:stF 0 0 (λ_=>0) ((r,0):FS)=(0,0,0,r,0,0,0,0,0,0,0,0):=rfl;rw[e]at this;rw[this];rfl
def fill (R:Int)(r:Zd):Zd:=r++aB (R.toNat-r.length) 0
theorem jb {R:Int}{r:Zd}(h:r.length<=R.toNat):(fill R r).length=R.toNat:=by
 unfold fill;rw[List.length_append,aD];omega
theorem dc1 {R:Int}{r:Zd}(h:r.length<=R.toNat):aL9 (aB R.toNat (0:Int)) 0 (aB R.toNat (0:Int)).length r=fill R r:=by
 unfold aL9 fill;rw[aD,List.take_zero,List.nil_append,Nat.zero_add,Nat.min_eq_right h,List.take_of_length_le h,List.drop_replicate]
theorem cF2 (h:Prg R l f){r:Zd}(hr:r.length<=R.toNat):yu R l r=C (0,by5 f (fill R r))/\(by5 f (fill R r)).length=R.toNat:=by
 obtain⟨h1,h2⟩:=cw1 h (jb hr);refine⟨?_,h2⟩;have hR:=h.R1;unfold yu aq4;rw[bh4 h];simp only[wA];rw[zB (show¬((0:Int)≠0)by simp),yD,zB (show¬(R<(r.length:Int))by omega),yD,zD (show 0<=R by omega),zD (show R<=R by omega),zD (show 8*R<=140737488355328 by omega),dc1 hr];show((gd Za _).bind _)=_;rw[fg];simp only[wA];rw[zB (show¬((0:Int)≠0)by simp),yD,h1];rfl
def mg (f:Fo)(r a t:Zd):BS:=bwd (vg t) f.unroll (r,a,f.n)
theorem cU4 (h:Prg R l f){r a t:Zd}(hr:r.length=R.toNat)(ha:a.length=R.toNat)(ht:f.n<=t.length)(ht2:t.length<=1000000):
  uT (f.n:Int) r a t (f.bare.code 0)=C ((mg f r a t).1,(mg f r a t).2.1)/\(mg f r a t).1.length=R.toNat/\(mg f r a t).2.1.length=R.toNat:=by
 obtain⟨l',_,h2,h3⟩:=bv0 (m:=0) (l:=λ_=>0) (s:=((r,a,f.n):BS)) (d:=0) (p:=0) (A:=[]) (B:=[]) (bR8 (dQ0 (R:=R.toNat) (t:=t) h.clen ht2)) f.bare (by simp) rfl (Fo.bare_ok f h.ok) f.bare_pos h.hi h.good ⟨hr,ha,by rw[Fo.bare_n];exact Nat.le_refl _,ht⟩;rw[Fo.bare_unroll]at h2 h3;refine⟨?_,h3.1,h3.2.1⟩;unfold uT;have hl:=h.clen;rw[Fo.code_len]at hl
 have:=iu h2 h.steps (c:=((mg f r a t).1,(mg f r a t).2.1,l' 0,l' 1,l' 2,l' 3,l' 4,l' 5,l' 6,l' 7)) (by
  unfold stB;simp only[iv];rw[zD (by omega),yB]
  rfl)
 have e:stB (0+f.bare.len) 0 (λ_=>0) ((r,a,f.n):BS)=(IntKind.i64.wrap (((f.bare.code 0).length:Int)-1),0,(f.n:Int),r,a,0,0,0,0,0,0,0,0):=by
  unfold stB;rw[Fo.code_len,bg (by omega),Nat.zero_add];rfl
 rw[e]at this;rw[this];rfl
theorem xd (h:Prg R l f){r a t:Zd}(hr:r.length=R.toNat)(ha:a.length=R.toNat)(ht:f.n<=t.length)(ht2:t.length<=1000000):
  xu R l r a t=C (0,(mg f r a t).1,(mg f r a t).2.1)/\(mg f r a t).1.length=R.toNat/\(mg f r a t).2.1.length=R.toNat:=by
 obtain⟨h1,h2,h3⟩:=cU4 h hr ha ht ht2;refine⟨?_,h2,h3⟩;have hR:=h.R1;unfold xu;rw[bh4 h,h.writes];simp only[wA];rw[zB (show¬((0:Int)≠0)by simp),yD,zB (show¬((r.length:Int)≠R)by omega),yD,zB (show¬((a.length:Int)≠R)by omega),yD,zB (show¬((t.length:Int)<(f.n:Int))by omega),yD,h1];rfl
end
end
section
open List renaming length_take -> aB, take_length -> aD, getElem?_take -> bB, length_append -> bD, ext_getElem? -> cB, getElem?_drop -> cD, getElem?_append_left -> dB, getElem?_append_right -> dD, getElem_mem -> eD, length_drop -> fB
def seg (W:Zd)(o n:Nat):Zd:=(W.drop o).take n
def put (W:Zd)(o:Nat)(w:Zd):Zd:=W.take o++(w++W.drop (o+w.length))
theorem aw9 (W:Zd)(o n i:Nat):(seg W o n)[i]?=if i<n then W[o+i]? else O:=by
 unfold seg;rw[bB];split
 .rw[cD]
 .rfl
theorem aT8 {W:Zd}{o:Nat}{w:Zd}(h:o+w.length<=W.length)(i:Nat):(put W o w)[i]?=if o<=i/\i<o+w.length then w[i-o]? else W[i]?:=by
 unfold put;have hl:(W.take o).length=o:=by rw[aB];omega
 by_cases h1:i<o
 .rw[dB (by omega),bB,xB h1,xD (by omega)]
 .rw[dD (by omega),hl];by_cases h2:i<o+w.length
  .rw[dB (by omega),xB ⟨by omega,h2⟩]
  .rw[dD (by omega),cD,xD (by omega)]
   congr 1
   omega
theorem gy {W:Zd}{o n:Nat}(h:o+n<=W.length):(seg W o n).length=n:=by
 unfold seg;rw[aB,fB];omega
theorem dB7 {W:Zd}{o:Nat}{w:Zd}(h:o+w.length<=W.length):(put W o w).length=W.length:=by
 unfold put;rw[bD,bD,aB,fB];omega
theorem cT3 {W:Zd}{o:Nat}{w:Zd}{n:Nat}(h:o+w.length<=W.length)(hn:n<=w.length):seg (put W o w) o n=w.take n:=by
 apply cB;intro i;rw[aw9,bB,aT8 h];split
 .rw[xB (by omega)]
  congr 1
  omega
 .rfl
theorem ah9 {W:Zd}{o:Nat}{w:Zd}(h:o+w.length<=W.length):seg (put W o w) o w.length=w:=by
 rw[cT3 h (Nat.le_refl _),aD]
theorem aC6 {W:Zd}{o:Nat}{w:Zd}{o' n:Nat}(h:o+w.length<=W.length)(hd:o'+n<=o∨o+w.length<=o'):seg (put W o w) o' n=seg W o' n:=by
 apply cB;intro i;rw[aw9,aw9];split
 .rw[aT8 h,xD (by omega)]
 .rfl
theorem cx8 {W:Zd}{o:Nat}{w:Zd}{i:Nat}(h:o+w.length<=W.length)(hd:i<o∨o+w.length<=i):(put W o w)[i]?=W[i]?:=by
 rw[aT8 h,xD (by omega)]
theorem dk0 {W w:Zd}{o:Nat}(h:o+w.length<=W.length):aL9 W o w.length w=put W o w:=by
 unfold aL9 put;rw[aD,Nat.min_self]
theorem aj8 {W:Zd}{o n tk:Nat}(h:o+n<=tk)(ht:tk<=W.length)(hw:W.length<=1048576):fq (o:Int) (n:Int) (tk:Int) W=C (0,seg W o n):=by
 unfold fq;rw[zB (by omega),yD,zB (by omega),yD,zB (by omega),yD,bg (n:=(tk:Int)-o) (by omega),zB (by omega),yD,bg (n:=(o:Int)+n) (by omega),i7 (by omega),fg];unfold cm;rw[show((o:Int)+n).toNat-(o:Int).toNat=n by omega,show(o:Int).toNat=o by omega,ej (by rw[aB];omega) (by omega)];rfl
theorem db4 {W:Zd}{o tk:Nat}(h:o<tk)(ht:tk<=W.length)(hw:W.length<=1048576):iy (o:Int) (tk:Int) W=C (rg W (o:Int),0):=by
 unfold iy;rw[zB (by omega),yD,zB (by omega),yD,bg (n:=(tk:Int)-o) (by omega),zB (by omega),yD,bg (n:=(o:Int)+1) (by omega),i7 (by omega),fg];unfold cm;rw[show((o:Int)+1).toNat-(o:Int).toNat=1 by omega,show(o:Int).toNat=o by omega,ej (by rw[aB];omega) (by omega)]
 have hs:(W.drop o).take 1=[rg W (o:Int)]:=by
  apply cB;intro i;rw[bB,cD];rcases Nat.eq_zero_or_pos i with rfl|hi
  .rw[xB (by omega),Nat.add_zero,gg (by omega)];rfl
  .rw[xD (by omega),List.getElem?_eq_none (by simp;omega)]
 rw[hs];rfl
theorem ac5 {W w:Zd}{o tk:Nat}(h:o+w.length<=tk)(ht:tk<=W.length)(hw:W.length<=1048576):gx (o:Int) w (tk:Int) W=C (0,put W o w):=by
 unfold gx;rw[zB (by omega),yD,zB (by omega),yD,zB (by omega),yD,bg (n:=(tk:Int)-o) (by omega),zB (by omega),yD,bg (n:=(o:Int)+w.length) (by omega),i7 (by omega),fg,show((o:Int)+w.length).toNat-(o:Int).toNat=w.length by omega,show(o:Int).toNat=o by omega,dk0 (by omega)]
theorem w7 {n lv pk bd:Int}(h:0<=n)(hl:0<=lv)(hb:lv+n<=bd)(hbd:bd<=1048576):gr n lv pk bd=C (0,lv+n,max pk (lv+n),bd):=by
 unfold gr uO ou;rw[zB (by omega),yD];simp only[wA];rw[bg (n:=bd-lv) (by omega),zD (by omega),bg (n:=lv+n) (by omega)];rfl
theorem ak3 {n lv pk bd:Int}(h:0<=n)(hl:n<=lv)(hp:lv<=pk)(hb:lv<=1048576):fc n lv pk bd=C (0,lv-n,pk,bd):=by
 unfold fc ou;rw[zB (by omega),yD,zB (by omega),yD];simp only[wA];rw[bg (n:=0-n) (by omega),bg (by omega),show lv+(0-n)=lv-n by omega,Int.max_eq_left (by omega)]
theorem dd4 (ls:List (Zd))(h: ∀l∈ls,l.length<=100000):ls.flatten.length<=100000*ls.length:=by
 induction ls with
 |nil=>simp
 |cons a r ih=>
  have h1:=h a (by simp);have h2:=ih λl hl=>h l (by simp[hl])
  rw[List.flatten_cons,bD,List.length_cons];omega
theorem cl1 {ls:List (Zd)}{i:Nat}(h:i<ls.length):(ls.take (i+1)).flatten=(ls.take i).flatten++ls[i]:=by
 rw[List.take_succ_eq_append_getElem h,List.flatten_append];simp
theorem dh5 (ls:List (Zd))(h: ∀l∈ls,l.length<=100000)(hl:ls.length<=1000)(i:Nat):(ls.take i).flatten.length<=100000000:=by
 have h1:=dd4 (ls.take i) λl hl=>h l (List.mem_of_mem_take hl)
 rw[aB]at h1;omega
theorem ch2 {ls:List (Zd)}(h: ∀l∈ls,l.length<=100000)(hl:ls.length<=1000):ic ls=C ls.flatten:=by
 have hlen:=dh5 ls h hl
 have k0:cj (i4 ls) gi (0,0)=C (((ls.take ls.length).flatten.length:Nat):Int):=by
  refine gl (n:=ls.length) (λi=>(((ls.take i).flatten.length:Nat):Int)) (by omega) (λi hi=> ?_) ?_
  .unfold i4;have h1:=hlen i;have h2:=h ls[i] (eD hi);simp only;rw[zD (show(i:Int)<(ls.length:Int)by omega),yB,dh hi];simp only[wA];rw[bg (n:=(((ls.take i).flatten.length:Nat):Int)+((ls[i].length:Nat):Int)) (by omega),zB (by omega),yD,bg (n:=(i:Int)+1) (by omega),cl1 hi,bD];rfl
  .unfold i4;simp only;rw[zB (by omega),yD]
 have k1: ∀(f:Int×Zd->Option ((Int×Zd)⊕Zd)),(∀s,f s=cond (Zc (s.1<((ls.length:Nat):Int))) ((rd ls s.1).bind λx=>gd (jq (s.2.length+x.length) 8) (C (.inl (IntKind.i64.wrap (s.1+1),s.2++x)))) (C (.inr s.2)))->
   cj f gi (0,[])=C (ls.take ls.length).flatten:=by
  intro f hf;refine gl (n:=ls.length) (λi=>(ls.take i).flatten) (by omega) (λi hi=> ?_) ?_
  .rw[hf];have h1:=hlen i;have h2:=h ls[i] (eD hi);rw[zD (show(i:Int)<(ls.length:Int)by omega),yB,dh hi];simp only[wA];rw[ej (by omega) (by omega),bg (n:=(i:Int)+1) (by omega),cl1 hi];rfl
  .rw[hf];rw[zB (by omega),yD]
 unfold ic;rw[k0];rw[aD];simp only[wA];have h1:=hlen ls.length;rw[aD]at h1;rw[zB (by omega),yD,bg (n:=((ls.flatten.length:Nat):Int)-0) (by omega),cd];split
 .rw[Int.sub_zero]
  have hz:tb 8 ((ls.flatten.length:Nat):Int)=Za:=by
   generalize ls.flatten.length=N at h1⊢;unfold tb;rw[zD (by omega),zD (by omega),zD (by omega)];rfl
  rw[hz,fg,ej (by rw[List.length_replicate];omega) (by omega),i7 (by omega),fg,List.take_zero,k1 (sm ls) λs=>rfl,aD];rfl
 .rw[k1 (sq ls) λs=>rfl,aD];rfl
end
section
open List renaming length_append -> aB, length_replicate -> aD, not_mem_nil -> bB
structure Cx where
 mode:Int
 R:Int
 Q:Int
 len:Int
 words:Int
 X:Zd
 T:Zd
 l:List df
 k:List df
 fl:Fo
 fk:Fo
 fixed:Int
 tp:Int
 sl:Int
 ns:Int
namespace Cx
def sz (c:Cx):Nat->Nat
 |0=>c.T.length
 |1=>c.X.length
 |2=>c.R.toNat
 |3=>c.Q.toNat
 |4=>max c.R.toNat c.Q.toNat
 |5=>c.X.length
 |6=>c.T.length
 |7=>c.tp.toNat
 |8=>(c.sl*c.ns).toNat
 |_=>0
def off (c:Cx):Nat->Nat
 |0=>0
 |i+1=>c.off i+c.sz i
def P (c:Cx):Zd:=(List.range 10).map λi=>(c.off i:Int)
def tk (c:Cx):Int:=(c.off 9:Int)
structure Ok (c:Cx):Prop where
 hl:OpsOk c.l
 hk:OpsOk c.k
 hc:aw2 c.mode c.X.length c.T.length c.R c.l c.Q c.k c.len c.words=0
 pl:Prg c.R c.l c.fl
 pk:Prg c.Q c.k c.fk
 fixed:c.fixed=wE c.X.length c.T.length c.R c.Q
 tp:c.tp=vp c.mode c.l c.k
 sl:c.sl=wz c.mode c.X.length c.R c.l
 ns:0<=c.ns/\c.ns<=1048576
 fit:c.fixed+c.tp+c.sl*c.ns<=c.words
 base:c.mode=3->c.ns=c.len
end Cx
structure Num (c:Cx):Prop where
 mode:1<=c.mode/\c.mode<=3
 R:1<=c.R/\c.R<=64
 Q:1<=c.Q/\c.Q<=64
 x:1<=c.X.length/\c.X.length<=64
 t:c.T.length<=64
 xtR:(c.X.length:Int)+c.T.length+1<=c.R
 xtQ:(c.X.length:Int)+c.T.length<=c.Q
 len:0<=c.len/\c.len<=65535
 words:0<=c.words/\c.words<=1048576
 n:c.fl.n<=65536
 m:c.fk.n<=65536
 tp:c.tp=(if c.mode=3 then(c.fk.n:Int)else c.fl.n+c.fk.n)
 sl:c.sl=(if c.mode=3 then(c.fl.n:Int)+c.R else c.X.length+1)
 fixed:c.fixed=2*c.T.length+2*c.X.length+c.R+c.Q+max c.R c.Q
 mul:0<=c.sl*c.ns
theorem bC5 {m:Int}{x t:Nat}{R:Int}{l:List df}{Q:Int}{k:List df}{n b:Int}(h:aw2 m x t R l Q k n b=0):yn R l Q k=0/\aG1 R Q x t=0:=by
 unfold aw2 at h;split at h
 .rename_i c;exact(c h).elim
 split at h
 .rename_i c;exact(c h).elim
 split at h
 .rename_i c;exact(c h).elim
 rename_i c1 c2 c3;exact⟨by omega,by omega⟩
theorem df8 {R Q:Int}{l k:List df}(h:yn R l Q k=0):aC1 R l=0/\aC1 Q k=0:=by
 unfold yn at h
 repeat' split at h
 all_goals first|(exact absurd h (by assumption))|skip
 unfold aC1;constructor
 .repeat' split
  all_goals first|(rename_i c;exact(by omega))|omega
 .repeat' split
  all_goals first|(rename_i c;exact(by omega))|omega
theorem ch6 {R Q:Int}{x t:Nat}(hx:x<=64)(ht:t<=64)(h:aG1 R Q x t=0):(x:Int)+t+1<=R/\(x:Int)+t<=Q:=by
 unfold aG1 at h;rw[bg (n:=(x:Int)+t) (by omega),bg (n:=(x:Int)+t+1) (by omega)]at h
 repeat' split at h
 all_goals omega
theorem Cx.Ok.num {c:Cx}(h:c.Ok):Num c:=by
 have f:=aT2 h.hl h.hk h.hc;obtain⟨h1,h2⟩:=bC5 h.hc;obtain⟨h3,h4⟩:=ch6 f.xs.2 f.ts h2;have w1:=h.pl.w;have w2:=h.pk.w;have s:=bE6 h.hl h.hk h.hc;refine⟨f.mode,f.regs,f.regs',f.xs,f.ts,h3,h4,f.len,f.bud,h.pl.n,h.pk.n, ?_, ?_, ?_, ?_⟩
 .rw[h.tp];unfold vp;rw[w1,w2]
 .rw[h.sl];unfold wz;rw[w1]
 .rw[h.fixed];unfold wE;rfl
 .rw[h.sl];exact(bV8 (by have:=s.sl;omega) h.ns).1
section
variable {c:Cx}
theorem dZ1 :c.off 1=c.T.length:=Nat.zero_add _
theorem dZ2 :c.off 2=c.T.length+c.X.length:=by show c.off 1+_=_;rw[dZ1];rfl
theorem dZ3 :c.off 3=c.T.length+c.X.length+c.R.toNat:=by show c.off 2+_=_;rw[dZ2];rfl
theorem dZ4 :c.off 4=c.T.length+c.X.length+c.R.toNat+c.Q.toNat:=by show c.off 3+_=_;rw[dZ3];rfl
theorem dZ5 :c.off 5=c.T.length+c.X.length+c.R.toNat+c.Q.toNat+max c.R.toNat c.Q.toNat:=by show c.off 4+_=_;rw[dZ4];rfl
theorem dZ6 :c.off 6=c.T.length+c.X.length+c.R.toNat+c.Q.toNat+max c.R.toNat c.Q.toNat+c.X.length:=by show c.off 5+_=_;rw[dZ5];rfl
theorem dT6 :c.off 7=c.T.length+c.X.length+c.R.toNat+c.Q.toNat+max c.R.toNat c.Q.toNat+c.X.length+c.T.length:=by show c.off 6+_=_;rw[dZ6];rfl
theorem dZ7 :c.off 8=c.off 7+c.tp.toNat:=rfl
theorem bx2 :c.off 9=c.off 8+(c.sl*c.ns).toNat:=rfl
theorem dM5 {i j:Nat}(h:i<=j):c.off i<=c.off j:=by
 induction j with
 |zero=>rw[Nat.le_zero.1 h];exact Nat.le_refl _
 |succ j ih=>
  rcases Nat.lt_or_ge i (j+1)with h1|h1
  .exact Nat.le_trans (ih (by omega)) (Nat.le_add_right _ _)
  .rw[Nat.le_antisymm h h1];exact Nat.le_refl _
theorem ko {i j:Nat}(h:i<j):c.off i+c.sz i<=c.off j:=dM5 (c:=c) (i:=i+1) h
theorem Cx.Ok.off9_le (h:c.Ok):(c.off 9:Int)<=c.words:=by
 have n:=h.num;have g1:=n.R;have g2:=n.Q;have g3:=n.fixed;have g4:=n.tp;have g5:=n.mul;have g6:=h.fit;have htp:0<=c.tp:=by rw[g4];split<;>omega
 rw[bx2,dZ7,dT6];omega
theorem Cx.P_get {i:Nat}(h:i<10):c.P[i]?=C (c.off i:Int):=by
 unfold Cx.P;rw[List.getElem?_map,List.getElem?_range h];rfl
theorem Cx.P_len :c.P.length=10:=by unfold Cx.P;simp
def Wd (c:Cx)(W:Zd):Prop:=W.length=c.words.toNat
theorem Wd.tk {W:Zd}(h:c.Ok)(hW:Wd c W):c.off 9<=W.length/\W.length<=1048576:=by
 have:=h.off9_le;have:=h.num.words;unfold Wd at hW;omega
theorem Wd.put {W w:Zd}{o:Nat}(h:c.Ok)(hW:Wd c W)(ho:o+w.length<=c.off 9):Wd c (put W o w):=by
 have:=hW.tk h;unfold Wd at hW⊢;rw[dB7 (by omega),hW]
theorem dd7 {i:Nat}{ii a0 a1 a2 a3 a4 a5 a6 a7 a8 a9 a10 a11 a12 a13 a14 a15 a16:Int}{X T:Zd}{l k:List df}{lv pk bd:Int}{W:Zd}(h:c.Ok)(hW:Wd c W)(hi:ii=(i:Int))(hi9:i<9):
  fa ii a0 a1 a2 a3 a4 a5 a6 a7 a8 a9 a10 a11 a12 a13 a14 a15 a16 X T l k c.P c.tk lv pk bd W=C (seg W (c.off i) (c.sz i)):=by
 subst hi;have hk:=hW.tk h;have h9:=ko (c:=c) (i:=i) (j:=9) hi9;unfold fa;rw[cw (show i<c.P.length by rw[Cx.P_len];omega)];simp only[wA];rw[Cx.P_get (show i<10 by omega)];simp only[wA];rw[bg (n:=(i:Int)+1) (by omega),show(i:Int)+1=((i+1:Nat):Int)by omega,cw (show i+1<c.P.length by rw[Cx.P_len];omega)];simp only[wA];rw[Cx.P_get (show i+1<10 by omega)];simp only[wA]
 have e:IntKind.i64.wrap ((c.off (i+1):Int)-(c.off i:Int))=(c.sz i:Int):=by
  have:c.off (i+1)=c.off i+c.sz i:=rfl;rw[bg (by omega)];omega
 rw[e];unfold Cx.tk;rw[aj8 h9 hk.1 hk.2];rfl
theorem put1 {i:Nat}{ii a0 a1 a2 a3 a4 a5 a6 a7 a8 a9 a10 a11 a12 a13 a14 a15 a16:Int}{X T:Zd}{l k:List df}{lv pk bd:Int}{W w:Zd}(h:c.Ok)(hW:Wd c W)(hi:ii=(i:Int))(hi9:i<9)(hw:w.length<=c.sz i):
  ck ii w a0 a1 a2 a3 a4 a5 a6 a7 a8 a9 a10 a11 a12 a13 a14 a15 a16 X T l k c.P c.tk lv pk bd W=C (put W (c.off i) w):=by
 subst hi;have hk:=hW.tk h;have h9:=ko (c:=c) (i:=i) (j:=9) hi9;unfold ck;rw[cw (show i<c.P.length by rw[Cx.P_len];omega)];simp only[wA];rw[Cx.P_get (show i<10 by omega)];simp only[wA];unfold Cx.tk;rw[ac5 (by omega) hk.1 hk.2];rfl
theorem cF6 {i:Nat}{ii a0 a1 a2 a3 a4 a5 a6 a7 a8 a9 a10 a11 a12 a13 a14 a15 a16:Int}{X T:Zd}{l k:List df}{sb sn sx:Int}{lv pk bd:Int}{W:Zd}(h:c.Ok)(hW:Wd c W)(hi:ii=(i:Int))(hi9:i<9):
  fe ii a0 a1 a2 a3 a4 a5 a6 a7 a8 a9 a10 a11 a12 a13 a14 a15 a16 X T l k c.P c.tk sb sn sx lv pk bd W=C (seg W (c.off i) (c.sz i)):=by
 subst hi;have hk:=hW.tk h;have h9:=ko (c:=c) (i:=i) (j:=9) hi9;unfold fe;rw[cw (show i<c.P.length by rw[Cx.P_len];omega)];simp only[wA];rw[Cx.P_get (show i<10 by omega)];simp only[wA];rw[bg (n:=(i:Int)+1) (by omega),show(i:Int)+1=((i+1:Nat):Int)by omega,cw (show i+1<c.P.length by rw[Cx.P_len];omega)];simp only[wA];rw[Cx.P_get (show i+1<10 by omega)];simp only[wA]
 have e:IntKind.i64.wrap ((c.off (i+1):Int)-(c.off i:Int))=(c.sz i:Int):=by
  have:c.off (i+1)=c.off i+c.sz i:=rfl;rw[bg (by omega)];omega
 rw[e];unfold Cx.tk;rw[aj8 h9 hk.1 hk.2];rfl
theorem bD8 {i:Nat}{ii a0 a1 a2 a3 a4 a5 a6 a7 a8 a9 a10 a11 a12 a13 a14 a15 a16:Int}{X T:Zd}{l k:List df}{sb sn sx:Int}{lv pk bd:Int}{W w:Zd}(h:c.Ok)(hW:Wd c W)(hi:ii=(i:Int))(hi9:i<9)(hw:w.length<=c.sz i):
  cx ii w a0 a1 a2 a3 a4 a5 a6 a7 a8 a9 a10 a11 a12 a13 a14 a15 a16 X T l k c.P c.tk sb sn sx lv pk bd W=C (put W (c.off i) w):=by
 subst hi;have hk:=hW.tk h;have h9:=ko (c:=c) (i:=i) (j:=9) hi9;unfold cx;rw[cw (show i<c.P.length by rw[Cx.P_len];omega)];simp only[wA];rw[Cx.P_get (show i<10 by omega)];simp only[wA];unfold Cx.tk;rw[ac5 (by omega) hk.1 hk.2];rfl
theorem bN3 {R:Int}{l:List df}{a:Zd}(hR:1<=R/\R<=64)(ha:(a.length:Int)<=R):uK R l a=C (fill R a):=by
 unfold uK cm;rw[ej (by omega) (by omega)];simp only[wA];rw[bg (n:=R-(a.length:Int)) (by omega)]
 have hz:tb 8 (R-(a.length:Int))=Za:=by
  unfold tb;rw[zD (by omega),zD (by omega),zD (by omega)];rfl
 rw[hz,fg,ej (by rw[aD];omega) (by omega),show(R-(a.length:Int)).toNat=R.toNat-a.length by omega];rfl
theorem dj8 {R:Int}{ops:List df}{x more:Zd}{a0 a1 a2 a3 a4 a5 a6 a7 a8 a9 a10 a11 a12 a13 a14 a15 a16:Int}{X T:Zd}{l k:List df}{lv pk bd:Int}{W:Zd}(h:c.Ok)(hW:Wd c W)(hR:1<=R/\R<=64)(hx:(x.length:Int)+c.T.length+more.length<=R):
  nj R ops x more a0 a1 a2 a3 a4 a5 a6 a7 a8 a9 a10 a11 a12 a13 a14 a15 a16 X T l k c.P c.tk lv pk bd W=C (fill R (x++(seg W 0 c.T.length++more))):=by
 have hk:=hW.tk h;have h1:=ko (c:=c) (i:=0) (j:=9) (by omega);have hs:(seg W 0 c.T.length).length=c.T.length:=gy (by have:c.off 0+c.sz 0=0+c.T.length:=rfl;omega);unfold nj;rw[dd7 (ii:=0) (i:=0) h hW rfl (by omega)];simp only[wA];have hseg:seg W (c.off 0) (c.sz 0)=seg W 0 c.T.length:=rfl
 rw[hseg,ch2 (λa ha=>by
  simp only[List.mem_cons,bB,or_false]at ha
  rcases ha with rfl|rfl|rfl<;>omega) (by simp)]
 simp only[wA];have e:[x,seg W 0 c.T.length,more].flatten=x++(seg W 0 c.T.length++more):=by simp
 have hl:(x++(seg W 0 c.T.length++more)).length=x.length+c.T.length+more.length:=by rw[aB,aB,hs];omega
 rw[e];generalize x++(seg W 0 c.T.length++more)=a at*;rw[bg (n:=R-(a.length:Int)) (by omega)]
 have hz:tb 8 (R-(a.length:Int))=Za:=by
  unfold tb;rw[zD (by omega),zD (by omega),zD (by omega)];rfl
 rw[hz,fg,ej (by rw[aD];omega) (by omega),show(R-(a.length:Int)).toNat=R.toNat-a.length by omega];rfl
theorem cO5 {R:Int}{ops:List df}{x more:Zd}{a0 a1 a2 a3 a4 a5 a6 a7 a8 a9 a10 a11 a12 a13 a14 a15 a16:Int}{X T:Zd}{l k:List df}{sb sn sx:Int}{lv pk bd:Int}{W:Zd}(h:c.Ok)(hW:Wd c W)(hR:1<=R/\R<=64)(hx:(x.length:Int)+c.T.length+more.length<=R):
  jh R ops x more a0 a1 a2 a3 a4 a5 a6 a7 a8 a9 a10 a11 a12 a13 a14 a15 a16 X T l k c.P c.tk sb sn sx lv pk bd W=C (fill R (x++(seg W 0 c.T.length++more))):=by
 have hk:=hW.tk h;have h1:=ko (c:=c) (i:=0) (j:=9) (by omega);have hs:(seg W 0 c.T.length).length=c.T.length:=gy (by have:c.off 0+c.sz 0=0+c.T.length:=rfl;omega);unfold jh;rw[cF6 (ii:=0) (i:=0) h hW rfl (by omega)];simp only[wA];have hseg:seg W (c.off 0) (c.sz 0)=seg W 0 c.T.length:=rfl
 rw[hseg,ch2 (λa ha=>by
  simp only[List.mem_cons,bB,or_false]at ha
  rcases ha with rfl|rfl|rfl<;>omega) (by simp)]
 simp only[wA];have e:[x,seg W 0 c.T.length,more].flatten=x++(seg W 0 c.T.length++more):=by simp
 have hl:(x++(seg W 0 c.T.length++more)).length=x.length+c.T.length+more.length:=by rw[aB,aB,hs];omega
 rw[e];generalize x++(seg W 0 c.T.length++more)=a at*;rw[bg (n:=R-(a.length:Int)) (by omega)]
 have hz:tb 8 (R-(a.length:Int))=Za:=by
  unfold tb;rw[zD (by omega),zD (by omega),zD (by omega)];rfl
 rw[hz,fg,ej (by rw[aD];omega) (by omega),show(R-(a.length:Int)).toNat=R.toNat-a.length by omega];rfl
end
end
section
open Go.IntKind renaming wrap -> wB, i64 -> wC, u64 -> wD
open List renaming range -> bB, replicate -> bD, getElem?_eq_none -> cB, length_append -> cD, length_take -> dB, drop_zero -> dD, ext_getElem? -> eD
open Nat renaming le_refl -> aB, le_of_eq -> aD
theorem gdz {β:Type}{n:Int}{y:Option β}(h:0<=n/\n<=1048576):gd (Nat.beq 1 (Sh.w (.int .u64))&&Zc (0<=n)&&Zc (n<=n)&&Zc ((8:Int)*n<=140737488355328)&&Nat.ble 1 8) y=y:=by
 rw[zD h.1,zD (Int.le_refl n),zD (by omega)];rfl
section
variable {c:Cx}
theorem Cx.Ok.of (h:c.Ok):pn c.mode c.X c.T c.R c.l c.Q c.k c.len c.words=C ((c.fl.n:Int),(c.fk.n:Int)):=by
 rw[cZ1 h.hl h.hk,xD (λk=>k h.hc),h.pl.w,h.pk.w]
def du (n:Nat):Zd:=bD n 0
def stepR (c:Cx)(W:Zd)(p:Int):TS:=yo c.fl (fill c.R (seg W (c.off 1) c.X.length++(seg W 0 c.T.length++[wB wD p]))) (du c.fl.n)
def lossR (c:Cx)(W x:Zd):TS:=yo c.fk (fill c.Q (x++(seg W 0 c.T.length++[]))) (du c.fk.n)
def ao5 (x:Nat)(g a:Zd):Zd:=(bB g.length).map λ(i:Nat)=>IntKind.u64.wrap (rg g (i:Int)+rg a ((x+i:Nat):Int))
def aL8 (c:Cx)(W a:Zd):Zd:=
 put (put (put W (c.off 4) a) (c.off 5) (a.take c.X.length)) (c.off 6) (ao5 c.X.length (seg (put (put W (c.off 4) a) (c.off 5) (a.take c.X.length)) (c.off 6) c.T.length) a)
theorem zj (x:Nat)(g a:Zd):(ao5 x g a).length=g.length:=by unfold ao5;simp
theorem Wd.in' {W:Zd}(h:c.Ok)(hW:Wd c W){i:Nat}(hi:i<9):c.off i+c.sz i<=W.length:=by
 have:=hW.tk h;have:=ko (c:=c) (i:=i) (j:=9) hi;omega
theorem bu8 {X:Zd}{a g:Zd}{f:Int×Zd->Option ((Int×Zd)⊕Zd)}(hg:g.length<=64)(hX:X.length<=64)(ha:X.length+g.length<=a.length)(hf: ∀s,f s=cond (Zc (s.1<(((g.length:Nat):Int))))
   ((ix s.1 (s.2.length)).bind λj=>(s.2[j]?).bind λy=>(ix (wB wC (((X.length:Nat):Int)+s.1)) a.length).bind λj'=>(a[j']?).bind λy'=>(ix s.1 (s.2.length)).bind λj''=>(s.2[j'']?).bind λy''=>C (.inl (wB wC (s.1+1),s.2.set j'' (wB wD (y+y')))))
   (C (.inr s.2))):cj f gi (0,g)=C (ao5 X.length g a):=by
 have hF: ∀i,((bB g.length).map λ(j:Nat)=>if j<i then wB wD (rg g (j:Int)+rg a ((X.length+j:Nat):Int))else rg g (j:Int)).length=g.length:=λi=>by simp
 have hget: ∀i j,j<g.length->((bB g.length).map λ(j:Nat)=>if j<i then wB wD (rg g (j:Int)+rg a ((X.length+j:Nat):Int))else rg g (j:Int))[j]?=C (if j<i then wB wD (rg g (j:Int)+rg a ((X.length+j:Nat):Int))else rg g (j:Int)):=λi j hj=>by
  rw[List.getElem?_map,List.getElem?_range hj];rfl
 have e0:g=(bB g.length).map λ(j:Nat)=>if j<0 then wB wD (rg g (j:Int)+rg a ((X.length+j:Nat):Int))else rg g (j:Int):=by
  apply eD;intro j;by_cases hj:j<g.length
  .rw[hget 0 j hj,xD (by omega),gg hj]
  .rw[cB (by omega),cB (by simp;omega)]
 have e1:ao5 X.length g a=(bB g.length).map λ(j:Nat)=>if j<g.length then wB wD (rg g (j:Int)+rg a ((X.length+j:Nat):Int))else rg g (j:Int):=by
  unfold ao5;apply List.map_congr_left;intro j hj;rw[xB (List.mem_range.1 hj)]
 rw[e1];refine Eq.trans (congrArg (λy=>cj f gi (0,y)) e0) ?_;refine gl (n:=g.length) (λi=>(bB g.length).map λ(j:Nat)=>if j<i then wB wD (rg g (j:Int)+rg a ((X.length+j:Nat):Int))else rg g (j:Int)) (by omega) (λi hi=> ?_) ?_
 .rw[hf];rw[zD (show(i:Int)<((g.length:Nat):Int)by omega),yB,cw (by rw[hF];exact hi)];simp only[wA];rw[hget i i hi];simp only[wA];rw[xD (Nat.lt_irrefl i),bg (n:=((X.length:Nat):Int)+(i:Int)) (by omega),show((X.length:Nat):Int)+(i:Int)=((X.length+i:Nat):Int)by omega,cw (show X.length+i<a.length by omega)];simp only[wA];rw[gg (show X.length+i<a.length by omega)];simp only[wA];rw[bg (n:=(i:Int)+1) (by omega)]
  congr 3
  apply eD;intro j;by_cases hj:j<g.length
  .rw[hget (i+1) j hj];by_cases hij:i=j
   .subst hij;rw[List.getElem?_set_self (by rw[hF];exact hi),xB (Nat.lt_succ_self i)]
   .rw[List.getElem?_set_ne hij,hget i j hj]
    congr 1
    by_cases h3:j<i
    .rw[xB h3,xB (by omega)]
    .rw[xD h3,xD (by omega)]
  .rw[cB (by simp;omega),cB (by simp;omega)]
 .rw[hf];rw[zB (by omega),yD]
theorem er (n:Nat):(du n).length=n:=List.length_replicate
theorem mj (h:c.Ok){W:Zd}(hW:Wd c W)(p:Int):(fill c.R (seg W (c.off 1) c.X.length++(seg W 0 c.T.length++[wB wD p]))).length=c.R.toNat/\(stepR c W p).1.length=c.R.toNat/\(stepR c W p).2.1.length=c.fl.n:=by
 have n:=h.num;have h1:=hW.in' h (i:=1) (by omega);have h0:=hW.in' h (i:=0) (by omega);have l1:(seg W (c.off 1) c.X.length).length=c.X.length:=gy h1;have l0:(seg W 0 c.T.length).length=c.T.length:=gy h0
 have hf:(fill c.R (seg W (c.off 1) c.X.length++(seg W 0 c.T.length++[wB wD p]))).length=c.R.toNat:=by
  apply jb;rw[cD,cD,l1,l0];have:=n.xtR;simp;omega
 obtain⟨_,h2,h3⟩:=ad5 h.pl hf (t:=du c.fl.n) (by rw[er];exact aB _) (by rw[er];have:=n.n;omega);rw[er]at h3;exact⟨hf,h2,h3⟩
theorem aG5 (h:c.Ok){W x:Zd}(hW:Wd c W)(hx:x.length=c.X.length):(fill c.Q (x++(seg W 0 c.T.length++[]))).length=c.Q.toNat/\(lossR c W x).1.length=c.Q.toNat/\(lossR c W x).2.1.length=c.fk.n:=by
 have n:=h.num;have h0:=hW.in' h (i:=0) (by omega);have l0:(seg W 0 c.T.length).length=c.T.length:=gy h0
 have hf:(fill c.Q (x++(seg W 0 c.T.length++[]))).length=c.Q.toNat:=by
  apply jb;rw[cD,cD,l0,hx];have:=n.xtQ;simp;omega
 obtain⟨_,h2,h3⟩:=ad5 h.pk hf (t:=du c.fk.n) (by rw[er];exact aB _) (by rw[er];have:=n.m;omega);rw[er]at h3;exact⟨hf,h2,h3⟩
theorem uF (h:c.Ok){W a:Zd}(hW:Wd c W)(ha:c.X.length+c.T.length<=a.length)(ha2:a.length<=max c.R.toNat c.Q.toNat):
  Wd c (put W (c.off 4) a)/\Wd c (put (put W (c.off 4) a) (c.off 5) (a.take c.X.length))/\Wd c (aL8 c W a):=by
 have h4:=ko (c:=c) (i:=4) (j:=9) (by omega);have h5:=ko (c:=c) (i:=5) (j:=9) (by omega);have h6:=ko (c:=c) (i:=6) (j:=9) (by omega);have s4:c.sz 4=max c.R.toNat c.Q.toNat:=rfl;have s5:c.sz 5=c.X.length:=rfl;have s6:c.sz 6=c.T.length:=rfl;have w1:=hW.put h (w:=a) (o:=c.off 4) (by omega);have w2:=w1.put h (w:=a.take c.X.length) (o:=c.off 5) (by rw[dB];omega);refine⟨w1,w2, ?_⟩;unfold aL8;refine w2.put h ?_;rw[zj,gy (n:=c.T.length) (w2.in' h (i:=6) (by omega))];omega
theorem dO2 (h:c.Ok){W:Zd}(hW:Wd c W){L p q c0 c1 c2 c3 z lv pk bd:Int}:
  ru c.fixed c.tp c.sl c.ns c.mode c.R c.Q c.len c.words L p q c0 c1 c2 c3 z c.X c.T c.l c.k c.P c.tk lv pk bd W=C (c.fixed,c.tp,c.sl,c.ns,c.mode,c.R,c.Q,c.len,c.words,L,p,q,c0,wB wC (c1+1),c2,c3,z,put W (c.off 2) (stepR c W p).1,(stepR c W p).1,(stepR c W p).2.1):=by
 have n:=h.num;obtain⟨f1,f2,f3⟩:=mj h hW p;have h1:=hW.in' h (i:=1) (by omega);have l1:(seg W (c.off 1) c.X.length).length=c.X.length:=gy h1;unfold ru;rw[h.of];simp only[wA];have gn:=n.n;rw[gdz (by omega),dd7 (ii:=1) (i:=1) h hW rfl (by omega)];simp only[wA];rw[gdz (by omega),dj8 h hW n.R (by rw[show c.sz 1=c.X.length from rfl,l1];have:=n.xtR;simp;omega)];simp only[wA];rw[gdz (by omega),show c.sz 1=c.X.length from rfl,show bD ((c.fl.n:Int)).toNat (0:Int)=du c.fl.n from rfl];obtain⟨r1,r2,r3⟩:=ad5 h.pl f1 (t:=du c.fl.n) (by rw[er];exact aB _) (by rw[er];omega);rw[r1];simp only[wA];rw[put1 (ii:=2) (i:=2) h hW rfl (by omega) (by rw[show c.sz 2=c.R.toNat from rfl];exact aD r2)];rfl
theorem dt5 (h:c.Ok){W:Zd}(hW:Wd c W){L p q c0 c1 c2 c3 z sb sn sx lv pk bd:Int}:
  lj c.fixed c.tp c.sl c.ns c.mode c.R c.Q c.len c.words L p q c0 c1 c2 c3 z c.X c.T c.l c.k c.P c.tk sb sn sx lv pk bd W=C (c.fixed,c.tp,c.sl,c.ns,c.mode,c.R,c.Q,c.len,c.words,L,p,q,c0,wB wC (c1+1),c2,c3,z,put W (c.off 2) (stepR c W p).1,(stepR c W p).1,(stepR c W p).2.1):=by
 have n:=h.num;obtain⟨f1,f2,f3⟩:=mj h hW p;have h1:=hW.in' h (i:=1) (by omega);have l1:(seg W (c.off 1) c.X.length).length=c.X.length:=gy h1;unfold lj;rw[h.of];simp only[wA];have gn:=n.n;rw[gdz (by omega),cF6 (ii:=1) (i:=1) h hW rfl (by omega)];simp only[wA];rw[gdz (by omega),cO5 h hW n.R (by rw[show c.sz 1=c.X.length from rfl,l1];have:=n.xtR;simp;omega)];simp only[wA];rw[gdz (by omega),show c.sz 1=c.X.length from rfl,show bD ((c.fl.n:Int)).toNat (0:Int)=du c.fl.n from rfl];obtain⟨r1,r2,r3⟩:=ad5 h.pl f1 (t:=du c.fl.n) (by rw[er];exact aB _) (by rw[er];omega);rw[r1];simp only[wA];rw[bD8 (ii:=2) (i:=2) h hW rfl (by omega) (by rw[show c.sz 2=c.R.toNat from rfl];exact aD r2)];rfl
theorem dJ9 (h:c.Ok){W r a t:Zd}(hW:Wd c W)(hr:r.length=c.Q.toNat)(ha:a.length=c.Q.toNat)(ht:t.length=c.fk.n){L p q c0 c1 c2 c3 z lv pk bd:Int}:
  ub c.Q c.fixed c.tp c.sl c.ns c.mode c.R c.Q c.len c.words L p q c0 c1 c2 c3 z c.k r a t c.X c.T c.l c.P c.tk lv pk bd W=C (c.fixed,c.tp,c.sl,c.ns,c.mode,c.R,c.Q,c.len,c.words,L,p,q,c0,c1,c2,wB wC (c3+1),z,(mg c.fk r a t).1,(mg c.fk r a t).2.1,aL8 c W (mg c.fk r a t).2.1):=by
 have n:=h.num;obtain⟨r1,r2,r3⟩:=xd h.pk hr ha (aD ht.symm) (by have:=n.n;have:=n.m;omega);have nR:=n.R;have nQ:=n.Q;have n1:=n.xtR;have n2:=n.xtQ;have nx:=n.x;have nt:=n.t;unfold ub;rw[r1];simp only[wA];generalize mg c.fk r a t=q1 at*;have b:=uF h (a:=q1.2.1) hW (by omega) (by omega);obtain⟨b1,b2,b3⟩:=b;rw[put1 (ii:=4) (i:=4) h hW rfl (by omega) (by rw[show c.sz 4=max c.R.toNat c.Q.toNat from rfl];omega)];simp only[wA];rw[i7 (by omega),fg,show((c.X.length:Int)).toNat-0=c.X.length by omega,dD,put1 (ii:=5) (i:=5) h b1 rfl (by omega) (by rw[dB,show c.sz 5=c.X.length from rfl];omega)];simp only[wA];rw[dd7 (ii:=6) (i:=6) h b2 rfl (by omega)];simp only[wA];rw[show c.sz 6=c.T.length from rfl];have hg:(seg (put (put W (c.off 4) q1.2.1) (c.off 5) (q1.2.1.take c.X.length)) (c.off 6) c.T.length).length=c.T.length:=gy (b2.in' h (i:=6) (by omega));rw[bu8 (f:=ae4 c.X (0,q1.1,q1.2.1) _) (X:=c.X) (a:=q1.2.1) (g:=seg (put (put W (c.off 4) q1.2.1) (c.off 5) (q1.2.1.take c.X.length)) (c.off 6) c.T.length) (by omega) (by omega) (by omega) (λs=>rfl)]
 simp only[wA];rw[put1 (ii:=6) (i:=6) h b2 rfl (by omega) (by rw[zj,hg];exact aB _)];rfl
theorem dK0 (h:c.Ok){W r a t:Zd}(hW:Wd c W)(hr:r.length=c.Q.toNat)(ha:a.length=c.Q.toNat)(ht:t.length=c.fk.n){L p q c0 c1 c2 c3 z sb sn sx lv pk bd:Int}:
  qs c.Q c.fixed c.tp c.sl c.ns c.mode c.R c.Q c.len c.words L p q c0 c1 c2 c3 z c.k r a t c.X c.T c.l c.P c.tk sb sn sx lv pk bd W=C (c.fixed,c.tp,c.sl,c.ns,c.mode,c.R,c.Q,c.len,c.words,L,p,q,c0,c1,c2,wB wC (c3+1),z,(mg c.fk r a t).1,(mg c.fk r a t).2.1,aL8 c W (mg c.fk r a t).2.1):=by
 have n:=h.num;obtain⟨r1,r2,r3⟩:=xd h.pk hr ha (aD ht.symm) (by have:=n.n;have:=n.m;omega);have nR:=n.R;have nQ:=n.Q;have n1:=n.xtR;have n2:=n.xtQ;have nx:=n.x;have nt:=n.t;unfold qs;rw[r1];simp only[wA];generalize mg c.fk r a t=q1 at*;have b:=uF h (a:=q1.2.1) hW (by omega) (by omega);obtain⟨b1,b2,b3⟩:=b;rw[bD8 (ii:=4) (i:=4) h hW rfl (by omega) (by rw[show c.sz 4=max c.R.toNat c.Q.toNat from rfl];omega)];simp only[wA];rw[i7 (by omega),fg,show((c.X.length:Int)).toNat-0=c.X.length by omega,dD,bD8 (ii:=5) (i:=5) h b1 rfl (by omega) (by rw[dB,show c.sz 5=c.X.length from rfl];omega)];simp only[wA];rw[cF6 (ii:=6) (i:=6) h b2 rfl (by omega)];simp only[wA];rw[show c.sz 6=c.T.length from rfl];have hg:(seg (put (put W (c.off 4) q1.2.1) (c.off 5) (q1.2.1.take c.X.length)) (c.off 6) c.T.length).length=c.T.length:=gy (b2.in' h (i:=6) (by omega));rw[bu8 (f:=yr c.X (0,q1.1,q1.2.1) _) (X:=c.X) (a:=q1.2.1) (g:=seg (put (put W (c.off 4) q1.2.1) (c.off 5) (q1.2.1.take c.X.length)) (c.off 6) c.T.length) (by omega) (by omega) (by omega) (λs=>rfl)]
 simp only[wA];rw[bD8 (ii:=6) (i:=6) h b2 rfl (by omega) (by rw[zj,hg];exact aB _)];rfl
theorem dK1 (h:c.Ok){W r a t:Zd}(hW:Wd c W)(hr:r.length=c.R.toNat)(ha:a.length=c.R.toNat)(ht:t.length=c.fl.n){L p q c0 c1 c2 c3 z sb sn sx lv pk bd:Int}:
  qt c.R c.fixed c.tp c.sl c.ns c.mode c.R c.Q c.len c.words L p q c0 c1 c2 c3 z c.l r a t c.X c.T c.k c.P c.tk sb sn sx lv pk bd W=C (c.fixed,c.tp,c.sl,c.ns,c.mode,c.R,c.Q,c.len,c.words,L,p,q,c0,c1,c2,wB wC (c3+1),z,(mg c.fl r a t).1,(mg c.fl r a t).2.1,aL8 c W (mg c.fl r a t).2.1):=by
 have n:=h.num;obtain⟨r1,r2,r3⟩:=xd h.pl hr ha (aD ht.symm) (by have:=n.n;have:=n.m;omega);have nR:=n.R;have nQ:=n.Q;have n1:=n.xtR;have n2:=n.xtQ;have nx:=n.x;have nt:=n.t;unfold qt;rw[r1];simp only[wA];generalize mg c.fl r a t=q1 at*;have b:=uF h (a:=q1.2.1) hW (by omega) (by omega);obtain⟨b1,b2,b3⟩:=b;rw[bD8 (ii:=4) (i:=4) h hW rfl (by omega) (by rw[show c.sz 4=max c.R.toNat c.Q.toNat from rfl];omega)];simp only[wA];rw[i7 (by omega),fg,show((c.X.length:Int)).toNat-0=c.X.length by omega,dD,bD8 (ii:=5) (i:=5) h b1 rfl (by omega) (by rw[dB,show c.sz 5=c.X.length from rfl];omega)];simp only[wA];rw[cF6 (ii:=6) (i:=6) h b2 rfl (by omega)];simp only[wA];rw[show c.sz 6=c.T.length from rfl];have hg:(seg (put (put W (c.off 4) q1.2.1) (c.off 5) (q1.2.1.take c.X.length)) (c.off 6) c.T.length).length=c.T.length:=gy (b2.in' h (i:=6) (by omega));rw[bu8 (f:=yt c.X (0,q1.1,q1.2.1) _) (X:=c.X) (a:=q1.2.1) (g:=seg (put (put W (c.off 4) q1.2.1) (c.off 5) (q1.2.1.take c.X.length)) (c.off 6) c.T.length) (by omega) (by omega) (by omega) (λs=>rfl)]
 simp only[wA];rw[bD8 (ii:=6) (i:=6) h b2 rfl (by omega) (by rw[zj,hg];exact aB _)];rfl
def bT5 (c:Cx)(W x:Zd):Zd:=aL8 c (put W (c.off 3) (lossR c W x).1) (mg c.fk (lossR c W x).1 (fill c.Q [1]) (lossR c W x).2.1).2.1
theorem aS9 (h:c.Ok){W x:Zd}(hW:Wd c W)(hx:x.length=c.X.length):Wd c (put W (c.off 3) (lossR c W x).1)/\Wd c (bT5 c W x):=by
 have n:=h.num;obtain⟨f1,f2,f3⟩:=aG5 h hW hx;have nR:=n.R;have nQ:=n.Q;have n2:=n.xtQ;have nx:=n.x;have nm:=n.m;have h3:=ko (c:=c) (i:=3) (j:=9) (by omega);have s3:c.sz 3=c.Q.toNat:=rfl;have w1:=hW.put h (w:=(lossR c W x).1) (o:=c.off 3) (by omega);obtain⟨_,r2,r3⟩:=xd h.pk f2 (a:=fill c.Q [1]) (t:=(lossR c W x).2.1) (jb (by simp;omega)) (aD f3.symm) (by omega);exact⟨w1,(uF h w1 (by omega) (by omega)).2.2⟩
theorem dY7 (h:c.Ok){W x:Zd}(hW:Wd c W)(hx:x.length=c.X.length){L p q c0 c1 c2 c3 z lv pk bd:Int}:
  uI x c.fixed c.tp c.sl c.ns c.mode c.R c.Q c.len c.words L p q c0 c1 c2 c3 z c.X c.T c.l c.k c.P c.tk lv pk bd W=C (c.fixed,c.tp,c.sl,c.ns,c.mode,c.R,c.Q,c.len,c.words,L,p,q,c0,c1,wB wC (c2+1),wB wC (c3+1),rg (lossR c W x).1 0,bT5 c W x):=by
 have n:=h.num;obtain⟨f1,f2,f3⟩:=aG5 h hW hx;obtain⟨w1,w2⟩:=aS9 h hW hx;have nR:=n.R;have nQ:=n.Q;have n2:=n.xtQ;have nx:=n.x;have nm:=n.m;unfold uI;rw[h.of];simp only[wA];rw[gdz (by omega),dj8 h hW n.Q (by simp;omega)];simp only[wA];rw[gdz (by omega),show bD ((c.fk.n:Int)).toNat (0:Int)=du c.fk.n from rfl];obtain⟨r1,r2,r3⟩:=ad5 h.pk f1 (t:=du c.fk.n) (by rw[er];exact aB _) (by rw[er];omega);rw[r1];simp only[wA];have e:yo c.fk (fill c.Q (x++(seg W 0 c.T.length++[]))) (du c.fk.n)=lossR c W x:=rfl;rw[e];have i0:ix 0 (lossR c W x).1.length=C 0:=cw (k:=0) (by omega);have g0:(lossR c W x).1[0]?=C (rg (lossR c W x).1 0):=gg (k:=0) (by omega);rw[i0];simp only[wA];rw[g0];simp only[wA];rw[put1 (ii:=3) (i:=3) h hW rfl (by omega) (by rw[show c.sz 3=c.Q.toNat from rfl];exact aD f2)];simp only[wA];rw[bN3 n.Q (by simp;omega)]
 simp only[wA];rw[dJ9 h w1 f2 (jb (by simp;omega)) f3];rfl
theorem dV5 (h:c.Ok){W:Zd}(hW:Wd c W){i0 L p q c0 c1 c2 c3 z lv pk bd:Int}(hl:0<=lv)(hp:lv<=pk)(hb:lv+c.fk.n<=bd)(hbd:bd<=1048576):
  ot i0 c.fixed c.tp c.sl c.ns c.mode c.R c.Q c.len c.words L p q c0 c1 c2 c3 z c.X c.T c.l c.k c.P c.tk lv pk bd W=C (c.fixed,c.tp,c.sl,c.ns,c.mode,c.R,c.Q,c.len,c.words,L,p,q,c0,c1,wB wC (c2+1),wB wC (c3+1),rg (lossR c W (seg W (c.off 1) c.X.length)).1 0,lv,max pk (lv+c.fk.n),bd,bT5 c W (seg W (c.off 1) c.X.length)):=by
 have n:=h.num;have h1:=hW.in' h (i:=1) (by omega);have l1:(seg W (c.off 1) c.X.length).length=c.X.length:=gy h1;unfold ot;rw[h.of];simp only[wA];rw[w7 (by omega) hl hb hbd];simp only[wA];rw[dd7 (ii:=1) (i:=1) h hW rfl (by omega)];simp only[wA];rw[show c.sz 1=c.X.length from rfl,dY7 h hW l1];simp only[wA];rw[ak3 (by omega) (by omega) (by omega) (by omega)];simp only[wA];rw[show lv+(c.fk.n:Int)-c.fk.n=lv by omega]
theorem dR3 (h:c.Ok){W x:Zd}(hW:Wd c W)(hx:x.length=c.X.length){L p q c0 c1 c2 c3 z sb sn sx lv pk bd:Int}:
  nk x c.fixed c.tp c.sl c.ns c.mode c.R c.Q c.len c.words L p q c0 c1 c2 c3 z c.X c.T c.l c.k c.P c.tk sb sn sx lv pk bd W=C (c.fixed,c.tp,c.sl,c.ns,c.mode,c.R,c.Q,c.len,c.words,L,p,q,c0,c1,wB wC (c2+1),wB wC (c3+1),rg (lossR c W x).1 0,bT5 c W x):=by
 have n:=h.num;obtain⟨f1,f2,f3⟩:=aG5 h hW hx;obtain⟨w1,w2⟩:=aS9 h hW hx;have nR:=n.R;have nQ:=n.Q;have n2:=n.xtQ;have nx:=n.x;have nm:=n.m;unfold nk;rw[h.of];simp only[wA];rw[gdz (by omega),cO5 h hW n.Q (by simp;omega)];simp only[wA];rw[gdz (by omega),show bD ((c.fk.n:Int)).toNat (0:Int)=du c.fk.n from rfl];obtain⟨r1,r2,r3⟩:=ad5 h.pk f1 (t:=du c.fk.n) (by rw[er];exact aB _) (by rw[er];omega);rw[r1];simp only[wA];have e:yo c.fk (fill c.Q (x++(seg W 0 c.T.length++[]))) (du c.fk.n)=lossR c W x:=rfl;rw[e];have i0:ix 0 (lossR c W x).1.length=C 0:=cw (k:=0) (by omega);have g0:(lossR c W x).1[0]?=C (rg (lossR c W x).1 0):=gg (k:=0) (by omega);rw[i0];simp only[wA];rw[g0];simp only[wA];rw[bD8 (ii:=3) (i:=3) h hW rfl (by omega) (by rw[show c.sz 3=c.Q.toNat from rfl];exact aD f2)];simp only[wA];rw[bN3 n.Q (by simp;omega)]
 simp only[wA];rw[dK0 h w1 f2 (jb (by simp;omega)) f3];rfl
theorem dV6 (h:c.Ok){W:Zd}(hW:Wd c W){i0 L p q c0 c1 c2 c3 z sb sn sx lv pk bd:Int}(hl:0<=lv)(hp:lv<=pk)(hb:lv+c.fk.n<=bd)(hbd:bd<=1048576):
  qy i0 c.fixed c.tp c.sl c.ns c.mode c.R c.Q c.len c.words L p q c0 c1 c2 c3 z c.X c.T c.l c.k c.P c.tk sb sn sx lv pk bd W=C (c.fixed,c.tp,c.sl,c.ns,c.mode,c.R,c.Q,c.len,c.words,L,p,q,c0,c1,wB wC (c2+1),wB wC (c3+1),rg (lossR c W (seg W (c.off 1) c.X.length)).1 0,lv,max pk (lv+c.fk.n),bd,bT5 c W (seg W (c.off 1) c.X.length)):=by
 have n:=h.num;have h1:=hW.in' h (i:=1) (by omega);have l1:(seg W (c.off 1) c.X.length).length=c.X.length:=gy h1;unfold qy;rw[h.of];simp only[wA];rw[w7 (by omega) hl hb hbd];simp only[wA];rw[cF6 (ii:=1) (i:=1) h hW rfl (by omega)];simp only[wA];rw[show c.sz 1=c.X.length from rfl,dR3 h hW l1];simp only[wA];rw[ak3 (by omega) (by omega) (by omega) (by omega)];simp only[wA];rw[show lv+(c.fk.n:Int)-c.fk.n=lv by omega]
end
end
section
open Go.IntKind renaming wrap -> wB, i64 -> wC, u64 -> wD
open List renaming length_take -> aB
open Nat renaming le_of_eq -> aD
section
variable {c:Cx}
def ca1 (c:Cx)(W r t:Zd):Zd:=aL8 c W (mg c.fl r (fill c.R (seg W (c.off 5) c.X.length)) t).2.1
theorem bz5 (h:c.Ok){W r t:Zd}(hW:Wd c W)(hr:r.length=c.R.toNat)(ht:t.length=c.fl.n):(fill c.R (seg W (c.off 5) c.X.length)).length=c.R.toNat/\Wd c (ca1 c W r t):=by
 have n:=h.num;have nR:=n.R;have n1:=n.xtR;have nx:=n.x;have nn:=n.n;have h5:=hW.in' h (i:=5) (by omega);have l5:(seg W (c.off 5) c.X.length).length=c.X.length:=gy h5;have hf:(fill c.R (seg W (c.off 5) c.X.length)).length=c.R.toNat:=jb (by omega);obtain⟨_,r2,r3⟩:=xd h.pl hr hf (aD ht.symm) (by omega);exact⟨hf,(uF h hW (by omega) (by omega)).2.2⟩
theorem dI7 (h:c.Ok){W r t:Zd}(hW:Wd c W)(hr:r.length=c.R.toNat)(ht:t.length=c.fl.n){L p q c0 c1 c2 c3 z sb sn sx lv pk bd:Int}:
  mn c.fixed c.tp c.sl c.ns c.mode c.R c.Q c.len c.words L p q c0 c1 c2 c3 z r t c.X c.T c.l c.k c.P c.tk sb sn sx lv pk bd W=C (c.fixed,c.tp,c.sl,c.ns,c.mode,c.R,c.Q,c.len,c.words,L,p,q,c0,c1,c2,wB wC (c3+1),z,(mg c.fl r (fill c.R (seg W (c.off 5) c.X.length)) t).1,ca1 c W r t):=by
 have n:=h.num;have nR:=n.R;have n1:=n.xtR;obtain⟨f1,f2⟩:=bz5 h hW hr ht;have h5:=hW.in' h (i:=5) (by omega);have l5:(seg W (c.off 5) c.X.length).length=c.X.length:=gy h5;unfold mn;rw[cF6 (ii:=5) (i:=5) h hW rfl (by omega)];simp only[wA];rw[show c.sz 5=c.X.length from rfl,bN3 nR (by omega)];simp only[wA];rw[dK1 h hW hr f1 ht];rfl
def dg5 (c:Cx)(W:Zd)(p:Int):Zd:=ca1 c (put W (c.off 2) (stepR c W p).1) (stepR c W p).1 (stepR c W p).2.1
theorem ay1 (h:c.Ok){W:Zd}(hW:Wd c W)(p:Int):Wd c (put W (c.off 2) (stepR c W p).1):=by
 obtain⟨_,f2,_⟩:=mj h hW p;have h2:=ko (c:=c) (i:=2) (j:=9) (by omega);have s2:c.sz 2=c.R.toNat:=rfl;exact hW.put h (by omega)
theorem dZ9 (h:c.Ok){W:Zd}(hW:Wd c W){i0 L p q c0 c1 c2 c3 z sb sn sx lv pk bd:Int}(hl:0<=lv)(hp:lv<=pk)(hb:lv+c.fl.n<=bd)(hbd:bd<=1048576):
  nc i0 c.fixed c.tp c.sl c.ns c.mode c.R c.Q c.len c.words L p q c0 c1 c2 c3 z c.X c.T c.l c.k c.P c.tk sb sn sx lv pk bd W=C (c.fixed,c.tp,c.sl,c.ns,c.mode,c.R,c.Q,c.len,c.words,L,p,q,c0,wB wC (c1+1),c2,wB wC (c3+1),z,lv,max pk (lv+c.fl.n),bd,dg5 c W p):=by
 obtain⟨f1,f2,f3⟩:=mj h hW p;unfold nc;rw[h.of];simp only[wA];rw[w7 (by omega) hl hb hbd];simp only[wA];rw[dt5 h hW];simp only[wA];rw[dI7 h (ay1 h hW p) f2 f3];simp only[wA];rw[ak3 (by omega) (by omega) (by omega) (by omega)];simp only[wA];rw[show lv+(c.fl.n:Int)-c.fl.n=lv by omega];rfl
def cg8 (c:Cx)(W:Zd)(p:Int):Zd:=ca1 c (bT5 c (put W (c.off 2) (stepR c W p).1) ((stepR c W p).1.take c.X.length)) (stepR c W p).1 (stepR c W p).2.1
theorem dQ2 (h:c.Ok){W:Zd}(hW:Wd c W){i0 L p q c0 c1 c2 c3 z sb sn sx lv pk bd:Int}(hl:0<=lv)(hp:lv<=pk)(hb:lv+(c.fl.n+c.fk.n)<=bd)(hbd:bd<=1048576):
  qu i0 c.fixed c.tp c.sl c.ns c.mode c.R c.Q c.len c.words L p q c0 c1 c2 c3 z c.X c.T c.l c.k c.P c.tk sb sn sx lv pk bd W=C (c.fixed,c.tp,c.sl,c.ns,c.mode,c.R,c.Q,c.len,c.words,L,p,q,c0,wB wC (c1+1),wB wC (c2+1),wB wC (wB wC (c3+1)+1),rg (lossR c (put W (c.off 2) (stepR c W p).1) ((stepR c W p).1.take c.X.length)).1 0,lv,max pk (lv+(c.fl.n+c.fk.n)),bd,cg8 c W p):=by
 have n:=h.num;have nR:=n.R;have n1:=n.xtR;have nn:=n.n;have nm:=n.m;obtain⟨f1,f2,f3⟩:=mj h hW p;have w1:=ay1 h hW p;have hx:((stepR c W p).1.take c.X.length).length=c.X.length:=by rw[aB];omega
 unfold qu;rw[h.of];simp only[wA];rw[bg (n:=(c.fl.n:Int)+(c.fk.n:Int)) (by omega),w7 (by omega) hl hb hbd];simp only[wA];rw[dt5 h hW];simp only[wA];rw[i7 (by omega),fg,show((c.X.length:Int)).toNat-0=c.X.length by omega,List.drop_zero,dR3 h w1 hx];simp only[wA];rw[dI7 h (aS9 h w1 hx).2 f2 f3];simp only[wA];rw[ak3 (by omega) (by omega) (by omega) (by omega)];simp only[wA];rw[show lv+((c.fl.n:Int)+c.fk.n)-(c.fl.n+c.fk.n)=lv by omega];rfl
def bI9 (c:Cx)(W:Zd)(p:Int):Zd:=by5 c.fl (fill c.R (seg W (c.off 1) c.X.length++(seg W 0 c.T.length++[wB wD p])))
def adv1 (c:Cx)(W:Zd)(p:Int):Zd:=put (put W (c.off 2) (bI9 c W p)) (c.off 1) ((bI9 c W p).take c.X.length)
def advW (c:Cx)(W:Zd)(p:Int):Nat->Zd
 |0=>W
 |i+1=>adv1 c (advW c W p i) (p+i)
theorem dd2 {R:Int}{r:Zd}(h:r.length=R.toNat):fill R r=r:=by
 unfold fill;rw[h,Nat.sub_self];simp
theorem bf4 (h:c.Ok){W:Zd}(hW:Wd c W)(p:Int):yu c.R c.l (fill c.R (seg W (c.off 1) c.X.length++(seg W 0 c.T.length++[wB wD p])))=C (0,bI9 c W p)/\(bI9 c W p).length=c.R.toNat:=by
 obtain⟨f1,_,_⟩:=mj h hW p;have:=cF2 h.pl (r:=fill c.R (seg W (c.off 1) c.X.length++(seg W 0 c.T.length++[wB wD p]))) (aD f1);rw[dd2 f1]at this;exact this
theorem cu0 (h:c.Ok){W:Zd}(hW:Wd c W)(p:Int):Wd c (put W (c.off 2) (bI9 c W p))/\Wd c (adv1 c W p):=by
 have n:=h.num;have nR:=n.R;have n1:=n.xtR;obtain⟨_,f2⟩:=bf4 h hW p;have h1:=ko (c:=c) (i:=1) (j:=9) (by omega);have h2:=ko (c:=c) (i:=2) (j:=9) (by omega);have s1:c.sz 1=c.X.length:=rfl;have s2:c.sz 2=c.R.toNat:=rfl;have w1:=hW.put h (w:=bI9 c W p) (o:=c.off 2) (by omega);exact⟨w1,w1.put h (by rw[aB];omega)⟩
theorem bM3 (h:c.Ok){W:Zd}(hW:Wd c W)(p:Int): ∀i,Wd c (advW c W p i)
 |0=>hW
 |i+1=>(cu0 h (bM3 h hW p i) _).2
theorem dj0 (h:c.Ok){W:Zd}(hW:Wd c W){m:Nat}{L p q c0 c1 c2 c3 z sb sn sx lv pk bd:Int}(hm:m<=65536)(hp:0<=p/\p<=65536)(hc:0<=c0/\c0<=4611686018427387904):
  mz (m:Int) c.fixed c.tp c.sl c.ns c.mode c.R c.Q c.len c.words L p q c0 c1 c2 c3 z c.X c.T c.l c.k c.P c.tk sb sn sx lv pk bd W=C (c.fixed,c.tp,c.sl,c.ns,c.mode,c.R,c.Q,c.len,c.words,L,p,q,c0+m,c1,c2,c3,z,advW c W p m):=by
 have n:=h.num;have nR:=n.R;have n1:=n.xtR;have nx:=n.x;unfold mz
 have key:cj (ld (m:Int) c.X c.T c.l c.k c.P c.tk sb sn sx lv pk bd) gi (0,c.fixed,c.tp,c.sl,c.ns,c.mode,c.R,c.Q,c.len,c.words,L,p,q,c0+((0:Nat):Int),c1,c2,c3,z,advW c W p 0)=C (c.fixed,c.tp,c.sl,c.ns,c.mode,c.R,c.Q,c.len,c.words,L,p,q,c0+m,c1,c2,c3,z,advW c W p m):=by
  refine gl (n:=m) (λi=>(c.fixed,c.tp,c.sl,c.ns,c.mode,c.R,c.Q,c.len,c.words,L,p,q,c0+(i:Int),c1,c2,c3,z,advW c W p i)) (by omega) (λi hi=> ?_) ?_
  .have hWi:=bM3 h hW p i;obtain⟨g1,g2⟩:=bf4 h hWi (p+i);obtain⟨w1,w2⟩:=cu0 h hWi (p+i);have l1:(seg (advW c W p i) (c.off 1) c.X.length).length=c.X.length:=gy (hWi.in' h (i:=1) (by omega));simp only[ld];rw[zD (show(i:Int)<(m:Int)by omega),yB,cF6 (ii:=1) (i:=1) h hWi rfl (by omega)];simp only[wA];rw[show c.sz 1=c.X.length from rfl,bg (n:=p+(i:Int)) (by omega),cO5 h hWi nR (by rw[l1];simp;omega)];simp only[wA];rw[g1];simp only[wA];rw[bD8 (ii:=2) (i:=2) h hWi rfl (by omega) (by rw[show c.sz 2=c.R.toNat from rfl];exact aD g2)];simp only[wA];rw[i7 (by omega),fg,show((c.X.length:Int)).toNat-0=c.X.length by omega,List.drop_zero,bD8 (ii:=1) (i:=1) h w1 rfl (by omega) (by rw[aB,show c.sz 1=c.X.length from rfl];omega)];simp only[wA];rw[bg (n:=(i:Int)+1) (by omega),bg (n:=c0+(i:Int)+1) (by omega),show c0+(i:Int)+1=c0+((i+1:Nat):Int)by omega]
   rfl
  .simp only[ld];rw[zB (by omega),yD]
 rw[show c0+((0:Nat):Int)=c0 by omega,show advW c W p 0=W from rfl]at key;rw[key];rfl
end
end
section
open List renaming range -> aB
def my (a n:Int):Bool:=if a<1 then Zb else if 9<a then Zb else if a=1 then Zc (1<=n/\n<65536)else if a<=4 then Zc (0<=n/\n<1048576)else Zc (n=0)
theorem ct8 (a n:Int):ae0 a n=C (my a n):=by
 unfold ae0 my ae1;by_cases h1:a<1
 .rw[zD h1,xB h1];rfl
 rw[zB h1,xD h1];by_cases h2:9<a
 .rw[zD h2,xB h2];rfl
 rw[zB h2,xD h2];show cond (Zc (a=1)) _ _=_;by_cases h3:a=1
 .rw[zD h3,xB h3];by_cases h4:1<=n
  .rw[zD h4];simp[h4]
  .rw[zB h4];simp[h4]
 rw[zB h3,xD h3,zD (show 1<=a by omega)];by_cases h4:a<=4
 .rw[zD h4,xB h4];by_cases h5:0<=n
  .rw[zD h5];simp[h5]
  .rw[zB h5];simp[h5]
 .rw[zB h4,xD h4];rfl
section
variable {c:Cx}
def sp (c:Cx)(k:Nat):Nat:=c.off 8+k*(c.X.length+1)
def gm (c:Cx)(W:Zd)(k:Nat):Int:=rg W (sp c k:Int)
def ai6 (c:Cx)(W:Zd):Zd:=(aB c.ns.toNat).map λ(k:Nat)=>gm c W k-1
structure Dy where
 L:Int
 p:Int
 q:Int
 c0:Int
 c1:Int
 c2:Int
 c3:Int
 z:Int
 lv:Int
 pk:Int
 W:Zd
def jf (c:Cx)(W:Zd):Nat:=(aB c.ns.toNat).countP λ(k:Nat)=>Zc (0<gm c W k)
structure Inv (c:Cx)(s:Dy):Prop where
 w:Wd c s.W
 L:0<=s.L/\s.L<=65535
 p:0<=s.p/\s.p<=s.L
 q: -1<=s.q/\s.q<=s.L
 tag: ∀k,k<c.ns.toNat->0<=gm c s.W k/\gm c s.W k<=s.L+1
 lv:s.lv=c.fixed+c.sl*jf c s.W
 pk:s.lv<=s.pk/\s.pk<=c.words
theorem ai0 (h:c.Ok)(hm:c.mode≠3){k:Nat}(hk:k<c.ns.toNat):sp c k+(c.X.length+1)<=c.off 9/\c.ns.toNat*(c.X.length+1)+c.off 8=c.off 9/\c.ns.toNat<=524288:=by
 have n:=h.num;have hsl:=n.sl;rw[xD hm]at hsl;have hns:=h.ns
 have e:(c.sl*c.ns).toNat=c.ns.toNat*(c.X.length+1):=by
  have:c.sl*c.ns=((c.ns.toNat*(c.X.length+1):Nat):Int):=by
   rw[Int.natCast_mul,hsl,Int.toNat_of_nonneg hns.1,Int.mul_comm]
   congr 1
  rw[this];rfl
 have h9:c.off 9=c.off 8+c.ns.toNat*(c.X.length+1):=by rw[bx2,e]
 have h1:(k+1)*(c.X.length+1)<=c.ns.toNat*(c.X.length+1):=Nat.mul_le_mul_right _ hk;rw[Nat.succ_mul]at h1;have h2:=h.off9_le;have h3:=n.words;have h4:c.ns.toNat*2<=c.ns.toNat*(c.X.length+1):=Nat.mul_le_mul_left _ (by have:=n.x;omega);unfold sp;omega
theorem ab2 (h:c.Ok)(hm:c.mode≠3){k:Nat}(hk:k<c.ns.toNat):ga (c.off 8:Int) c.ns (c.X.length:Int) (k:Int)=C (sp c k:Int):=by
 obtain⟨h1,h2,h3⟩:=ai0 h hm hk;have h4:=h.off9_le;have h5:=h.num.words;have h6:=h.num.x;unfold sp at h1;unfold ga fy;simp only[wA];have e:(k:Int)*((c.X.length:Int)+1)=((k*(c.X.length+1):Nat):Int):=by rw[Int.natCast_mul];congr 1
 rw[bg (n:=(c.X.length:Int)+1) (by omega),e,bg (n:=((k*(c.X.length+1):Nat):Int)) (by omega),bg (by omega)];unfold sp
 congr 1
theorem aU7 (h:c.Ok)(hm:c.mode≠3){W:Zd}(hW:Wd c W){k:Nat}(hk:k<c.ns.toNat):iy (sp c k:Int) c.tk W=C (gm c W k,0):=by
 obtain⟨h1,_,_⟩:=ai0 h hm hk;obtain⟨h2,h3⟩:=hW.tk h;exact db4 (by omega) h2 h3
theorem bz2 (h:c.Ok)(hm:c.mode≠3){W:Zd}(hW:Wd c W)(ht: ∀k,k<c.ns.toNat->0<=gm c W k/\gm c W k<=65536):ku (c.off 8:Int) c.ns (c.X.length:Int) c.tk W=C (ai6 c W):=by
 unfold ku;have hns:=h.ns
 have key:cj (kv (c.off 8:Int) c.ns (c.X.length:Int) c.tk W) gi (0,(aB 0).map λ(k:Nat)=>gm c W k-1)=C (ai6 c W):=by
  refine gl (n:=c.ns.toNat) (λi=>(aB i).map λ(k:Nat)=>gm c W k-1) (by omega) (λi hi=> ?_) ?_
  .have hti:=ht i hi;unfold kv;simp only;rw[zD (by omega),yB,ab2 h hm hi];simp only[wA];rw[aU7 h hm hW hi];simp only[wA];rw[ej (by simp;omega) (by omega),bg (n:=(i:Int)+1) (by omega),bg (n:=gm c W i) (by omega),bg (n:=gm c W i-1) (by omega),List.range_succ,List.map_append];rfl
  .unfold kv;simp only;rw[zB (by omega),yD];rfl
 have key:cj (kv (c.off 8:Int) c.ns (c.X.length:Int) c.tk W) gi (0,[])=_:=key;rw[key];rfl
theorem bZ5 {W:Zd}{k:Nat}(hk:k<c.ns.toNat):(ai6 c W)[k]?=C (gm c W k-1):=by
 unfold ai6;rw[List.getElem?_map,List.getElem?_range hk];rfl
theorem ai1 {W:Zd}:(ai6 c W).length=c.ns.toNat:=by unfold ai6;simp
theorem ce7 {l:Zd}{L:Int}(hl:l.length<1000000)(h: ∀t∈l,-1<=t/\t<=L):fm l L=C Zb:=by
 unfold fm kj
 have key:cj (dv l L) gi 0=C (.inr ()):=by
  refine ad1 (n:=l.length) (by omega) (λi hi=> ?_) ?_
  .have:=h l[i] (List.getElem_mem hi);unfold dv nu;rw[zD (by omega),yB,dh hi];simp only[wA];rw[zB (by omega),yD];simp only[wA];rw[zB (by omega),yD,bg (by omega)];rfl
  .unfold dv;rw[zB (by omega),yD]
 rw[key];rfl
theorem bp6 {L p q:Int}{l:Zd}(hL:0<=L/\L<=65535)(hp:0<=p/\p<=L)(hq: -1<=q/\q<=L)(hl:l.length<1000000)(h: ∀t∈l,-1<=t/\t<=L):pe L p q l=C (.inr (p,q,L,l)):=by
 unfold pe ae9 nu;rw[zD (show 0<=L by omega),zD (show L<65536 by omega)];simp only[yB,wA,Bool.not_true,yD];rw[zB (show¬(1048576<(l.length:Int))by omega),zB (show¬p= -1 by omega),zB (show¬p< -1 by omega),zB (show¬L<p by omega),zB (show¬q< -1 by omega),zB (show¬L<q by omega)];simp only[yD,wA];rw[ce7 hl h];simp only[wA,yD];unfold lx;rw[ej (by omega) (by omega)];rfl
end
end
section
open Bool renaming not_true -> aB
open Int renaming mul_le_mul_of_nonneg_left -> aD
open List renaming countP_le_length -> bB
section
variable {c:Cx}
def doF (c:Cx)(a n:Int)(s:Dy):Int×Dy:=
 if my a n=Zb∨7<a then(2,s)
 else if(2<=a/\a<=4)/\c.ns<=n then(2,s)
 else if a=1 then(if s.L-s.p<n then(17,s)else(0,{s with p:=s.p+n,c0:=s.c0+n,W:=advW c s.W s.p n.toNat}))
 else if a=2 then(if 0<=gm c s.W n.toNat-1 then(15,s)else(0,{s with lv:=s.lv+c.sl,pk:=max s.pk (s.lv+c.sl),W:=put s.W (sp c n.toNat) (IntKind.u64.wrap (IntKind.i64.wrap (s.p+1))::seg s.W (c.off 1) c.X.length)}))
 else if a=3 then(if gm c s.W n.toNat-1<0 then(16,s)else(0,{s with p:=gm c s.W n.toNat-1,W:=put s.W (c.off 1) (seg s.W (sp c n.toNat+1) c.X.length)}))
 else if a=4 then(if gm c s.W n.toNat-1<0 then(16,s)else(0,{s with lv:=s.lv-c.sl,W:=put s.W (sp c n.toNat) (du (c.X.length+1))}))
 else if a=5 then(if s.q≠ -1 then(18,s)else if s.p≠s.L then(17,s)else(0,{s with q:=s.p,c2:=s.c2+1,c3:=s.c3+1,z:=rg (lossR c s.W (seg s.W (c.off 1) c.X.length)).1 0,pk:=max s.pk (s.lv+c.fk.n),W:=bT5 c s.W (seg s.W (c.off 1) c.X.length)}))
 else if a=6 then(if s.q≠ -1 then(18,s)else if s.p≠s.L-1 then(17,s)else(0,{s with q:=s.p,c1:=s.c1+1,c2:=s.c2+1,c3:=s.c3+1+1,z:=rg (lossR c (put s.W (c.off 2) (stepR c s.W s.p).1) ((stepR c s.W s.p).1.take c.X.length)).1 0,pk:=max s.pk (s.lv+(c.fl.n+c.fk.n)),W:=cg8 c s.W s.p}))
 else(if s.q<=0 then(18,s)else if s.p≠s.q-1 then(17,s)else(0,{s with q:=s.p,c1:=s.c1+1,c3:=s.c3+1,pk:=max s.pk (s.lv+c.fl.n),W:=dg5 c s.W s.p}))
def dl3 (c:Cx)(r:Int×Dy):Int×Int×Int×Int×Int×Int×Int×Int×Int×Int×Int×Int×Int×Int×Int×Int×Int×Int×Int×Int×Int×Zd:=
 (r.1,c.fixed,c.tp,c.sl,c.ns,c.mode,c.R,c.Q,c.len,c.words,r.2.L,r.2.p,r.2.q,r.2.c0,r.2.c1,r.2.c2,r.2.c3,r.2.z,r.2.lv,r.2.pk,c.words,r.2.W)
def Cnt (B:Int)(s:Dy):Prop:=(0<=s.c0/\s.c0<=B)/\(0<=s.c1/\s.c1<=B)/\(0<=s.c2/\s.c2<=B)/\(0<=s.c3/\s.c3<=B)
theorem cz8 (c:Cx)(W:Zd):jf c W<=c.ns.toNat:=by
 unfold jf;exact Nat.le_trans bB (by simp)
theorem aG4 (h:c.Ok){s:Dy}(hi:Inv c s):0<=s.lv/\s.lv+c.tp<=c.words/\c.words<=1048576/\0<=c.tp:=by
 have n:=h.num;have h1:=hi.lv;have h2:=cz8 c s.W;have h3:=h.fit;have h4:=n.fixed;have h5:=h.ns;have h6:=n.sl;have h7:1<=c.sl:=by rw[h6];have:=n.R;split<;>omega
 have h8:c.sl*(jf c s.W:Int)<=c.sl*c.ns:=aD (by omega) (by omega);have h9:0<=c.sl*(jf c s.W:Int):=Int.mul_nonneg (by omega) (by omega);have h10:0<=c.tp:=by rw[n.tp];split<;>omega
 have:=n.R;have:=n.Q;have:=n.words;refine⟨by omega,by omega,by omega,h10⟩
theorem cj1 (h:c.Ok){s:Dy}(hi:Inv c s)(hu:jf c s.W<c.ns.toNat):s.lv+c.sl<=c.words:=by
 have n:=h.num;have h1:=hi.lv;have h3:=h.fit;have h5:=h.ns;have h6:=n.sl;have h7:1<=c.sl:=by rw[h6];have:=n.R;split<;>omega
 have h8:c.sl*((jf c s.W:Int)+1)<=c.sl*c.ns:=aD (by omega) (by omega);have h10:0<=c.tp:=by rw[n.tp];split<;>omega
 rw[Int.mul_add,Int.mul_one]at h8;omega
theorem dc5 {l:List Nat}{P:Nat->Bool}{k:Nat}(hk:k∈l)(hP:P k=Zb):l.countP P<l.length:=by
 rcases Nat.lt_or_ge (l.countP P) l.length with h|h
 .exact h
 .have:=List.countP_eq_length.1 (Nat.le_antisymm bB h) k hk;rw[hP]at this;cases this
theorem ci3 {W:Zd}{k:Nat}(hk:k<c.ns.toNat)(ht:gm c W k<=0):jf c W<c.ns.toNat:=by
 have:=dc5 (l:=List.range c.ns.toNat) (P:=λ(k:Nat)=>Zc (0<gm c W k)) (k:=k) (List.mem_range.2 hk) (zB (by omega));rw[List.length_range]at this;exact this
theorem cQ3 {k:Nat}{sb sx:Int}(hk:k<c.ns.toNat):od sb c.ns sx (k:Int)=C Za:=by
 unfold od;rw[zD (by omega),yB,zD (by omega)]
theorem dN9 (h:c.Ok)(hm:c.mode≠3){s:Dy}(hi:Inv c s){k:Nat}(hk:k<c.ns.toNat)(ht:gm c s.W k<=0):
  pc (k:Int) c.fixed c.tp c.sl c.ns c.mode c.R c.Q c.len c.words s.L s.p s.q s.c0 s.c1 s.c2 s.c3 s.z c.X c.T c.l c.k c.P c.tk (c.off 8:Int) c.ns (c.X.length:Int) s.lv s.pk c.words s.W=C (s.lv+c.sl,max s.pk (s.lv+c.sl),c.words,put s.W (sp c k) (IntKind.u64.wrap (IntKind.i64.wrap (s.p+1))::seg s.W (c.off 1) c.X.length)):=by
 have n:=h.num;have hW:=hi.w;obtain⟨g1,g2,g3⟩:=aG4 h hi;have g4:=cj1 h hi (ci3 hk ht);have hsl:=n.sl;rw[xD hm]at hsl;have hx:=n.x;have hp:=hi.p;have hL:=hi.L;have ht0:=(hi.tag k hk).1;obtain⟨s1,s2,s3⟩:=ai0 h hm hk;obtain⟨t1,t2⟩:=hW.tk h;have l1:(seg s.W (c.off 1) c.X.length).length=c.X.length:=gy (hW.in' h (i:=1) (by omega));unfold pc;rw[w7 (by omega) g1 g4 (by omega)];simp only[wA];rw[cF6 (ii:=1) (i:=1) h hW rfl (by omega)];simp only[wA];rw[show c.sz 1=c.X.length from rfl];unfold vD;rw[cQ3 hk];simp only[wA,aB,yD];rw[ab2 h hm hk];simp only[wA];rw[aU7 h hm hW hk];simp only[wA];rw[zB (show¬s.p<0 by omega),yD,zB (show¬65536<=s.p by omega)];simp only[wA,yD];rw[l1,zB (λk=>k rfl),yD,zB (show¬(gm c s.W k≠0)by omega),yD,ej (by omega) (by omega)]
 unfold Cx.tk;rw[ac5 (by simp[l1];omega) t1 t2];rfl
theorem dr1 (h:c.Ok)(hm:c.mode≠3){s:Dy}(hi:Inv c s){k:Nat}(hk:k<c.ns.toNat)(ht:0<gm c s.W k):
  na (k:Int) c.fixed c.tp c.sl c.ns c.mode c.R c.Q c.len c.words s.L s.p s.q s.c0 s.c1 s.c2 s.c3 s.z c.X c.T c.l c.k c.P c.tk (c.off 8:Int) c.ns (c.X.length:Int) s.lv s.pk c.words s.W=C (put s.W (c.off 1) (seg s.W (sp c k+1) c.X.length)):=by
 have n:=h.num;have hW:=hi.w;have hL:=hi.L;have ht1:=(hi.tag k hk).2;obtain⟨s1,s2,s3⟩:=ai0 h hm hk;obtain⟨t1,t2⟩:=hW.tk h;have l1:(seg s.W (sp c k+1) c.X.length).length=c.X.length:=gy (by omega);unfold na uo;rw[cQ3 hk];simp only[wA,aB,yD];rw[ab2 h hm hk];simp only[wA];rw[aU7 h hm hW hk];simp only[wA];rw[zB (show¬gm c s.W k=0 by omega),yD,bg (n:=(sp c k:Int)+1) (by omega),show(sp c k:Int)+1=((sp c k+1:Nat):Int)by omega];unfold Cx.tk;rw[aj8 (by omega) t1 t2];simp only[wA];rw[show((c.off 9:Nat):Int)=c.tk from rfl,bD8 (ii:=1) (i:=1) h hW rfl (by omega) (by rw[l1];exact Nat.le_refl _)];rfl
theorem dR6 (h:c.Ok)(hm:c.mode≠3){s:Dy}(hi:Inv c s){k:Nat}(hk:k<c.ns.toNat)(ht:0<gm c s.W k)(hlv:c.sl<=s.lv):
  qv (k:Int) c.fixed c.tp c.sl c.ns c.mode c.R c.Q c.len c.words s.L s.p s.q s.c0 s.c1 s.c2 s.c3 s.z c.X c.T c.l c.k c.P c.tk (c.off 8:Int) c.ns (c.X.length:Int) s.lv s.pk c.words s.W=C (s.lv-c.sl,s.pk,c.words,put s.W (sp c k) (du (c.X.length+1))):=by
 have n:=h.num;have hW:=hi.w;have hx:=n.x;have hsl:=n.sl;rw[xD hm]at hsl;obtain⟨g1,g2,g3⟩:=aG4 h hi;have hpk:=hi.pk;obtain⟨s1,s2,s3⟩:=ai0 h hm hk;obtain⟨t1,t2⟩:=hW.tk h;unfold qv wM;rw[cQ3 hk];simp only[wA,aB,yD];rw[ab2 h hm hk];simp only[wA];rw[aU7 h hm hW hk];simp only[wA];rw[zB (show¬gm c s.W k=0 by omega),yD];unfold fy;simp only[wA];rw[bg (n:=(c.X.length:Int)+1) (by omega),gdz (by omega),show List.replicate (((c.X.length:Int)+1).toNat) (0:Int)=du (c.X.length+1)from rfl];unfold Cx.tk;rw[ac5 (by rw[er];omega) t1 t2];simp only[wA];rw[ak3 (by omega) hlv hpk.1 (by omega)];rfl
end
end
section
open Int renaming reduceEq -> aD, toNat_of_nonneg -> bB
open Nat renaming reduceSub -> aB
def cf2 (a n p q L tot:Int)(l:Zd):Int×Int×Int×Int×Int×Zd:=
 if my a n=Zb∨7<a then(2,p,q,L,tot,l)
 else if(2<=a/\a<=4)/\(l.length:Int)<=n then(2,p,q,L,tot,l)
 else if a=1 then(if L-p<n then(17,p,q,L,tot,l)else(0,p+n,q,L,tot+n,l))
 else if a=2 then(if 0<=rg l n then(15,p,q,L,tot,l)else(0,p,q,L,tot,l.set n.toNat p))
 else if a=3 then(if rg l n<0 then(16,p,q,L,tot,l)else(0,rg l n,q,L,tot,l))
 else if a=4 then(if rg l n<0 then(16,p,q,L,tot,l)else(0,p,q,L,tot,l.set n.toNat (-1)))
 else if a=5 then(if q≠ -1 then(18,p,q,L,tot,l)else if p≠L then(17,p,q,L,tot,l)else(0,p,p,L,tot,l))
 else if a=6 then(if q≠ -1 then(18,p,q,L,tot,l)else if p≠L-1 then(17,p,q,L,tot,l)else(0,p,p,L,tot,l))
 else(if q<=0 then(18,p,q,L,tot,l)else if p≠q-1 then(17,p,q,L,tot,l)else(0,p,p,L,tot,l))
theorem nbz :Nat.beq 0 0=Za:=rfl
theorem nbs (n:Nat):Nat.beq (n+1) 0=Zb:=rfl
theorem ak7 {a n:Int}(h: ¬(my a n=Zb∨7<a)):my a n=Za/\(a=1∨a=2∨a=3∨a=4∨a=5∨a=6∨a=7):=by
 have h1:my a n=Za:=by
  cases hr:my a n with
  |true=>rfl
  |false=>exact(h (.inl hr)).elim
 refine⟨h1, ?_⟩;have h2: ¬a<1:=λh3=>by unfold my at h1;rw[xB h3]at h1;cases h1
 omega
theorem yd {a n:Int}(h:my a n=Za)(ha:1<=a/\a<=4):0<=n/\n<1048576/\(a=1->1<=n/\n<65536):=by
 unfold my at h;rw[xD (by omega),xD (by omega)]at h;by_cases h1:a=1
 .rw[xB h1]at h;have:=of_decide_eq_true h;omega
 .rw[xD h1,xB (by omega)]at h;have:=of_decide_eq_true h;omega
theorem cQ8 {a n p q L tot:Int}{l:Zd}(hL:0<=L/\L<=65535)(hp:0<=p/\p<=L)(hq: -1<=q/\q<=L)(ht:0<=tot/\tot<=1000000000000):nv a n p q L tot l=C (cf2 a n p q L tot l):=by
 unfold nv cf2;rw[ct8];simp only[wA];by_cases h1:my a n=Zb∨7<a
 .rw[xB h1]
  have e:(cond (!my a n) (C Za) (C (Zc (7<a))))=C Za:=by
   rcases h1 with h1|h1
   .rw[h1];rfl
   .rw[zD h1];cases my a n<;>rfl
  rw[e];rfl
 rw[xD h1];obtain⟨h2,hk⟩:=ak7 h1;have h3: ¬7<a:=λh=>h1 (.inr h)
 rw[h2,zB h3];simp only[Bool.not_true,yD,wA];by_cases h4:(2<=a/\a<=4)/\(l.length:Int)<=n
 .rw[xB h4,zD h4.1.1,zD h4.1.2,zD h4.2];rfl
 rw[xD h4]
 have e:(cond (Zc (2<=a)) (cond (Zc (a<=4)) (cond (Zc ((l.length:Int)<=n)) (C (Sum.inl ())) (C (Sum.inr ()))) (C (Sum.inr ()))) (C (Sum.inr ())):Option (Unit⊕Unit))=C (.inr ()):=by
  by_cases h5:2<=a
  .rw[zD h5];by_cases h6:a<=4
   .rw[zD h6,zB (λh7=>h4 ⟨⟨h5,h6⟩,h7⟩)];rfl
   .rw[zB h6];rfl
  .rw[zB h5];rfl
 rw[e];simp only[wA,cq,uf]
 have slot:(2<=a/\a<=4)->0<=n/\n.toNat<l.length/\ix n l.length=C n.toNat/\l[n.toNat]?=C (rg l n):=λhs=>by
  have hn:=yd h2 ⟨by omega,hs.2⟩
  have hlt:n.toNat<l.length:=by
   have: ¬(l.length:Int)<=n:=λh7=>h4 ⟨hs,h7⟩
   omega
  have en:n=((n.toNat:Nat):Int):=by omega
  refine⟨hn.1,hlt, ?_, ?_⟩
  .conv=>lhs;rw[en]
   exact cw hlt
  .have:=gg hlt;rw[<-en]at this;exact this
 rcases hk with rfl|rfl|rfl|rfl|rfl|rfl|rfl
 .have hn:=yd h2 (by omega);rw[show ix 1 8=C 1 from rfl];simp only[wA,aB,nbz,nbs,yB,yD];rw[xB trivial];unfold rf;rw[bg (n:=L-p) (by omega),cd];by_cases h5:L-p<n
  .rw[xB h5,xB h5];rfl
  .rw[xD h5,xD h5,bg (n:=p+n) (by omega),bg (n:=tot+n) (by omega)];rfl
 .obtain⟨s1,s2,s3,s4⟩:=slot (by omega);rw[show ix 2 8=C 2 from rfl];simp only[wA,aB,nbz,nbs,yB,yD];rw[xD (by decide),xB trivial];unfold ug;rw[s3];simp only[wA];rw[s4];simp only[wA,cd];by_cases h5:0<=rg l n
  .rw[xB h5,xB h5];rfl
  .rw[xD h5,xD h5];rfl
 .obtain⟨s1,s2,s3,s4⟩:=slot (by omega);rw[show ix 3 8=C 3 from rfl];simp only[wA,aB,nbz,nbs,yB,yD];rw[xD (by decide),xD (by decide),xB trivial];unfold rh;rw[s3];simp only[wA];rw[s4];simp only[wA,cd];by_cases h5:rg l n<0
  .rw[xB h5,xB h5];rfl
  .rw[xD h5,xD h5];rfl
 .obtain⟨s1,s2,s3,s4⟩:=slot (by omega);rw[show ix 4 8=C 4 from rfl];simp only[wA,aB,nbz,nbs,yB,yD];rw[xD (by decide),xD (by decide),xD (by decide),xB trivial];unfold uM;rw[s3];simp only[wA];rw[s4];simp only[wA,cd];by_cases h5:rg l n<0
  .rw[xB h5,xB h5];rfl
  .rw[xD h5,xD h5];rfl
 .rw[show ix 5 8=C 5 from rfl];simp only[wA,aB,nbz,nbs,yB,yD];rw[xD (by decide),xD (by decide),xD (by decide),xD (by decide),xB trivial];unfold uN kt;rw[bg (n:=L-0) (by omega),cd];by_cases h5:q≠ -1
  .rw[xB h5,xB h5];rfl
  .rw[xD h5,xD h5,zD (show q= -1 by omega),Bool.and_true,Int.sub_zero];by_cases h6:p=L
   .rw[zD h6,xD (λk=>k h6)];rfl
   .rw[zB h6,xB h6];rfl
 .rw[show ix 6 8=C 6 from rfl];simp only[wA,aB,nbz,nbs,yB,yD];rw[xD (by decide),xD (by decide),xD (by decide),xD (by decide),xD (by decide),xB trivial];unfold uL kt;rw[bg (n:=L-1) (by omega),cd];by_cases h5:q≠ -1
  .rw[xB h5,xB h5];rfl
  .rw[xD h5,xD h5,zD (show q= -1 by omega),Bool.and_true];by_cases h6:p=L-1
   .rw[zD h6,xD (λk=>k h6)];rfl
   .rw[zB h6,xB h6];rfl
 .rw[show ix 7 8=C 7 from rfl];simp only[wA,aB,nbz,nbs,yB,yD];rw[xD (by decide),xD (by decide),xD (by decide),xD (by decide),xD (by decide),xD (by decide)];unfold ri;rw[cd];by_cases h5:q<=0
  .rw[xB h5,xB h5];rfl
  .rw[xD h5,xD h5,bg (n:=q-1) (by omega),cd];by_cases h6:p≠q-1
   .rw[xB h6,xB h6];rfl
   .rw[xD h6,xD h6];rfl
section
variable {c:Cx}
theorem bz3 {W:Zd}{L:Int}(ht: ∀k,k<c.ns.toNat->0<=gm c W k/\gm c W k<=L+1): ∀t∈ai6 c W,-1<=t/\t<=L:=λt hm=>by
 unfold ai6 at hm;obtain⟨k,hk,rfl⟩:=List.mem_map.1 hm;have:=ht k (List.mem_range.1 hk);omega
theorem cZ4 {W:Zd}{n:Int}(h:0<=n)(hn:n.toNat<c.ns.toNat):rg (ai6 c W) n=gm c W n.toNat-1:=by
 have h1:=bZ5 (c:=c) (W:=W) hn;have h2:=gg (r:=ai6 c W) (k:=n.toNat) (by rw[ai1];exact hn);rw[h1,bB h]at h2;injection h2 with h2
 exact h2.symm
theorem Cnt.in' {B:Int}{s:Dy}(h:Cnt B s)(hB:B<=2305843009213693952):(0<=s.c0/\s.c0<=2305843009213693952)/\(0<=s.c1/\s.c1<=2305843009213693952)/\(0<=s.c2/\s.c2<=2305843009213693952)/\(0<=s.c3/\s.c3<=2305843009213693952):=by
 unfold Cnt at h;omega
theorem cM0 {W:Zd}{k:Nat}(hk:k<c.ns.toNat)(ht:0<gm c W k):0<jf c W:=by
 unfold jf;exact List.countP_pos_iff.2 ⟨k,List.mem_range.2 hk,zD ht⟩
theorem cG4 (h:c.Ok){s:Dy}(hi:Inv c s)(hu:0<jf c s.W):c.sl<=s.lv:=by
 have n:=h.num;have h1:=hi.lv;have h4:=n.fixed;have h6:=n.sl;have h7:1<=c.sl:=by rw[h6];have:=n.R;split<;>omega
 have h8:c.sl*1<=c.sl*(jf c s.W:Int):=Int.mul_le_mul_of_nonneg_left (by omega) (by omega);have:=n.R;have:=n.Q;omega
theorem do2 (h:c.Ok)(hm:c.mode≠3){s:Dy}(hi:Inv c s){B:Int}(hc:Cnt B s)(hB:B<=2305843009213693952){a n:Int}:
  tz a n c.fixed c.tp c.sl c.ns c.mode c.R c.Q c.len c.words s.L s.p s.q s.c0 s.c1 s.c2 s.c3 s.z c.X c.T c.l c.k c.P c.tk (c.off 8:Int) c.ns (c.X.length:Int) s.lv s.pk c.words s.W=C (dl3 c (doF c a n s)):=by
 have nm:=h.num;have hW:=hi.w;have hL:=hi.L;have hp:=hi.p;have hq:=hi.q;have hpk:=hi.pk;have hns:=h.ns;obtain⟨k0,k1,k2,k3⟩:=hc.in' hB;obtain⟨g1,g2,g3,g4⟩:=aG4 h hi;have htp:=nm.tp;rw[xD hm]at htp
 have hlen:(ai6 c s.W).length<1000000:=by
  rw[ai1];rcases Nat.eq_zero_or_pos c.ns.toNat with h0|h0
  .omega
  .have:=(ai0 h hm h0).2.2;omega
 unfold tz rb;simp only[wA];rw[zB hm,yD];unfold vB;rw[bz2 h hm hW (λk hk=>by have:=hi.tag k hk;omega)];simp only[wA];rw[bp6 hL hp hq hlen (bz3 hi.tag)];simp only[wA,cq];rw[cQ8 hL hp hq (by omega)];simp only[wA];unfold cf2 doF;by_cases h1:my a n=Zb∨7<a
 .rw[xB h1,xB h1,zD (by simp),yB];rfl
 rw[xD h1,xD h1];obtain⟨h2,hk⟩:=ak7 h1;rw[ai1,bB hns.1];by_cases h4:(2<=a/\a<=4)/\c.ns<=n
 .rw[xB h4,xB h4,zD (by simp),yB];rfl
 rw[xD h4,xD h4]
 have slot:(2<=a/\a<=4)->n=((n.toNat:Nat):Int)/\n.toNat<c.ns.toNat/\rg (ai6 c s.W) n=gm c s.W n.toNat-1:=λhs=>by
  have hn:=yd h2 ⟨by omega,hs.2⟩
  have hlt:n.toNat<c.ns.toNat:=by
   have: ¬c.ns<=n:=λh7=>h4 ⟨hs,h7⟩
   omega
  exact⟨by omega,hlt,cZ4 hn.1 hlt⟩
 simp only[uJ,cv,lx,wA];have fitT: ∀l:Zd,l.length<1000000->gd (jq (0+l.length) 8) (C l)=C l:=λl hl=>ej (by omega) (by omega)
 have hset: ∀(i:Nat) (x:Int),((ai6 c s.W).set i x).length<1000000:=λi x=>by simp only[List.length_set];exact hlen
 rcases hk with rfl|rfl|rfl|rfl|rfl|rfl|rfl
 .have hn:=yd h2 (by omega);simp only[aD,reduceIte];by_cases h5:s.L-s.p<n
  .rw[xB h5,xB h5,zD (by simp),yB];rfl
  rw[xD h5,xD h5,zB (by simp),yD,show ix 1 8=C 1 from rfl];simp only[wA,aB,nbz,nbs,yB,yD];have en:n=((n.toNat:Nat):Int):=by omega
  have ha:=dj0 h hW (m:=n.toNat) (L:=s.L) (p:=s.p) (q:=s.q) (c0:=s.c0) (c1:=s.c1) (c2:=s.c2) (c3:=s.c3) (z:=s.z) (sb:=(c.off 8:Int)) (sn:=c.ns) (sx:=(c.X.length:Int)) (lv:=s.lv) (pk:=s.pk) (bd:=c.words) (by omega) (by omega) (by omega);rw[<-en]at ha;rw[ha];simp only[wA];rw[fitT _ hlen];rfl
 .obtain⟨en,hlt,ht⟩:=slot (by omega);simp only[aD,reduceIte];rw[ht];by_cases h5:0<=gm c s.W n.toNat-1
  .rw[xB h5,xB h5,zD (by simp),yB];rfl
  rw[xD h5,xD h5,zB (by simp),yD,show ix 2 8=C 2 from rfl];simp only[wA,aB,nbz,nbs,yB,yD];have ha:=dN9 h hm hi hlt (by omega);rw[<-en]at ha;rw[ha];simp only[wA];rw[fitT _ (hset _ _)];rfl
 .obtain⟨en,hlt,ht⟩:=slot (by omega);simp only[aD,reduceIte];rw[ht];by_cases h5:gm c s.W n.toNat-1<0
  .rw[xB h5,xB h5,zD (by simp),yB];rfl
  rw[xD h5,xD h5,zB (by simp),yD,show ix 3 8=C 3 from rfl];simp only[wA,aB,nbz,nbs,yB,yD];have ha:=dr1 h hm hi hlt (by omega);rw[<-en]at ha;rw[ha];simp only[wA];rw[fitT _ hlen];rfl
 .obtain⟨en,hlt,ht⟩:=slot (by omega);simp only[aD,reduceIte];rw[ht];by_cases h5:gm c s.W n.toNat-1<0
  .rw[xB h5,xB h5,zD (by simp),yB];rfl
  rw[xD h5,xD h5,zB (by simp),yD,show ix 4 8=C 4 from rfl];simp only[wA,aB,nbz,nbs,yB,yD];have ha:=dR6 h hm hi hlt (by omega) (cG4 h hi (cM0 hlt (by omega)));rw[<-en]at ha;rw[ha];simp only[wA];rw[fitT _ (hset _ _)];rfl
 .simp only[aD,reduceIte];by_cases h5:s.q≠ -1
  .rw[xB h5,xB h5,zD (by simp),yB];rfl
  rw[xD h5,xD h5];by_cases h6:s.p≠s.L
  .rw[xB h6,xB h6,zD (by simp),yB];rfl
  rw[xD h6,xD h6,zB (by simp),yD,show ix 5 8=C 5 from rfl];simp only[wA,aB,nbz,nbs,yB,yD];rw[dV6 h hW g1 hpk.1 (by omega) g3];simp only[wA];rw[fitT _ hlen,bg (n:=s.c2+1) (by omega),bg (n:=s.c3+1) (by omega)];rfl
 .simp only[aD,reduceIte];by_cases h5:s.q≠ -1
  .rw[xB h5,xB h5,zD (by simp),yB];rfl
  rw[xD h5,xD h5];by_cases h6:s.p≠s.L-1
  .rw[xB h6,xB h6,zD (by simp),yB];rfl
  rw[xD h6,xD h6,zB (by simp),yD,show ix 6 8=C 6 from rfl];simp only[wA,aB,nbz,nbs,yB,yD];rw[dQ2 h hW g1 hpk.1 (by omega) g3];simp only[wA];rw[fitT _ hlen,bg (n:=s.c1+1) (by omega),bg (n:=s.c2+1) (by omega),bg (n:=s.c3+1) (by omega),bg (n:=s.c3+1+1) (by omega)];rfl
 .simp only[aD,reduceIte];by_cases h5:s.q<=0
  .rw[xB h5,xB h5,zD (by simp),yB];rfl
  rw[xD h5,xD h5];by_cases h6:s.p≠s.q-1
  .rw[xB h6,xB h6,zD (by simp),yB];rfl
  rw[xD h6,xD h6,zB (by simp),yD,show ix 7 8=C 7 from rfl];simp only[wA,aB,nbz,nbs,yB,yD];rw[dZ9 h hW g1 hpk.1 (by omega) g3];simp only[wA];rw[fitT _ hlen,bg (n:=s.c1+1) (by omega),bg (n:=s.c3+1) (by omega)];rfl
end
end
section
open Go.IntKind renaming wrap -> wB, i64 -> wC, u64 -> wD
open Int renaming reduceEq -> aB, le_max_left -> cB, toNat_natCast -> cD
open List renaming getD_eq_getElem?_getD -> aD, range -> bD, length_take -> dB, countP_append -> eD
open Nat renaming le_of_eq -> bB, le_refl -> dD
section
variable {c:Cx}
def gu (c:Cx)(W W':Zd):Prop:= ∀i,c.off 8<=i->W'[i]?=W[i]?
theorem gu.refl (W:Zd):gu c W W:=λ_ _=>rfl
theorem gu.trans {W W' W'':Zd}(h:gu c W W')(h':gu c W' W''):gu c W W'':=λi hi=>(h' i hi).trans (h i hi)
theorem gu.put (h:c.Ok){W W' w:Zd}{i:Nat}(hK:gu c W W')(hW:Wd c W')(hi:i<8)(hw:w.length<=c.sz i):gu c W (put W' (c.off i) w):=λj hj=>by
 have h1:=ko (c:=c) (i:=i) (j:=8) hi;have h2:=hW.in' h (i:=i) (by omega);rw[cx8 (by omega) (.inr (by omega))];exact hK j hj
theorem gu.rg {W W':Zd}(h:gu c W W'){i:Nat}(hi:c.off 8<=i):rg W' (i:Int)=rg W (i:Int):=by
 unfold Go.V.rg;rw[cD,aD,aD,h i hi]
theorem gu.tag {W W':Zd}(h:gu c W W')(k:Nat):gm c W' k=gm c W k:=h.rg (by unfold sp;omega)
theorem gu.used {W W':Zd}(h:gu c W W'):jf c W'=jf c W:=by
 unfold jf
 congr 1
 funext k
 rw[h.tag k]
theorem gu.seg {W W':Zd}(h:gu c W W'){o n:Nat}(ho:c.off 8<=o):seg W' o n=seg W o n:=by
 apply List.ext_getElem?;intro i;rw[aw9,aw9];split
 .exact h _ (by omega)
 .rfl
theorem bU9 (h:c.Ok){W a:Zd}(hW:Wd c W)(ha:c.X.length+c.T.length<=a.length)(ha2:a.length<=max c.R.toNat c.Q.toNat):gu c W (aL8 c W a):=by
 obtain⟨w1,w2,w3⟩:=uF h hW ha ha2;unfold aL8;refine gu.put h (gu.put h (gu.put h (gu.refl W) hW (by omega) ?_) w1 (by omega) ?_) w2 (by omega) ?_
 .exact ha2
 .rw[dB];exact Nat.min_le_left _ _
 .rw[zj,gy (n:=c.T.length) (w2.in' h (i:=6) (by omega))];exact dD _
theorem bM9 (h:c.Ok){W x:Zd}(hW:Wd c W)(hx:x.length=c.X.length):gu c W (bT5 c W x):=by
 have n:=h.num;have nR:=n.R;have nQ:=n.Q;have n2:=n.xtQ;have nx:=n.x;have nm:=n.m;obtain⟨f1,f2,f3⟩:=aG5 h hW hx;obtain⟨w1,w2⟩:=aS9 h hW hx;obtain⟨_,r2,r3⟩:=xd h.pk f2 (a:=fill c.Q [1]) (t:=(lossR c W x).2.1) (jb (by simp;omega)) (bB f3.symm) (by omega);exact(gu.put h (gu.refl W) hW (i:=3) (by omega) (bB f2)).trans (bU9 h w1 (by omega) (by omega))
theorem cG1 (h:c.Ok){W r t:Zd}(hW:Wd c W)(hr:r.length=c.R.toNat)(ht:t.length=c.fl.n):gu c W (ca1 c W r t):=by
 have n:=h.num;have nR:=n.R;have n1:=n.xtR;have nx:=n.x;have nn:=n.n;obtain⟨f1,f2⟩:=bz5 h hW hr ht;obtain⟨_,r2,r3⟩:=xd h.pl hr f1 (bB ht.symm) (by omega);exact bU9 h hW (by omega) (by omega)
theorem ci7 (h:c.Ok){W:Zd}(hW:Wd c W)(p:Int):gu c W (put W (c.off 2) (stepR c W p).1):=
 gu.put h (gu.refl W) hW (i:=2) (by omega) (bB (mj h hW p).2.1)
theorem cw7 (h:c.Ok){W:Zd}(hW:Wd c W)(p:Int):gu c W (dg5 c W p)/\Wd c (dg5 c W p):=by
 obtain⟨f1,f2,f3⟩:=mj h hW p;have w1:=ay1 h hW p;exact⟨(ci7 h hW p).trans (cG1 h w1 f2 f3),(bz5 h w1 f2 f3).2⟩
theorem dh4 (h:c.Ok){W:Zd}(hW:Wd c W)(p:Int):((stepR c W p).1.take c.X.length).length=c.X.length:=by
 have n:=h.num;have nR:=n.R;have n1:=n.xtR;obtain⟨f1,f2,f3⟩:=mj h hW p;rw[dB];omega
theorem bV0 (h:c.Ok){W:Zd}(hW:Wd c W)(p:Int):gu c W (cg8 c W p)/\Wd c (cg8 c W p):=by
 obtain⟨f1,f2,f3⟩:=mj h hW p;have w1:=ay1 h hW p;have hx:=dh4 h hW p;have w2:=(aS9 h w1 hx).2;exact⟨((ci7 h hW p).trans (bM9 h w1 hx)).trans (cG1 h w2 f2 f3),(bz5 h w2 f2 f3).2⟩
theorem dm6 (h:c.Ok){W:Zd}(hW:Wd c W)(p:Int):gu c W (adv1 c W p):=by
 obtain⟨_,f2⟩:=bf4 h hW p;obtain⟨w1,w2⟩:=cu0 h hW p;refine gu.put h (gu.put h (gu.refl W) hW (i:=2) (by omega) (bB f2)) w1 (i:=1) (by omega) ?_;rw[dB];exact Nat.min_le_left _ _
theorem cw6 (h:c.Ok){W:Zd}(hW:Wd c W)(p:Int): ∀i,gu c W (advW c W p i)
 |0=>gu.refl W
 |i+1=>(cw6 h hW p i).trans (dm6 h (bM3 h hW p i) _)
theorem bd1 {P P':Nat->Bool}{k:Nat}: ∀{n:Nat},k<n->P k=Zb->P' k=Za->(∀j,j<n->j≠k->P' j=P j)->(bD n).countP P'=(bD n).countP P+1
 |n+1,hk,h0,h1,hne=>by
  rw[List.range_succ,eD,eD];by_cases hkn:k=n
  .subst hkn
   have e:(bD k).countP P'=(bD k).countP P:=List.countP_congr λj hj=>by
    have:=List.mem_range.1 hj;rw[hne j (by omega) (by omega)]
   rw[e];simp[h0,h1]
  .rw[bd1 (n:=n) (by omega) h0 h1 λj hj hjk=>hne j (by omega) hjk];have:[n].countP P'=[n].countP P:=by simp[hne n (by omega) (by omega)]
   omega
theorem dI3 {j k:Nat}(h:j<k):sp c j+(c.X.length+1)<=sp c k:=by
 have h1:(j+1)*(c.X.length+1)<=k*(c.X.length+1):=Nat.mul_le_mul_right _ h;rw[Nat.succ_mul]at h1;unfold sp;omega
theorem da3 {W w:Zd}{j k:Nat}(hlen:sp c k+w.length<=W.length)(hw:w.length=c.X.length+1)(hjk:j≠k):gm c (put W (sp c k) w) j=gm c W j:=by
 unfold gm rg;rw[cD,aD,aD,cx8 hlen];rcases Nat.lt_or_ge j k with h|h
 .exact .inl (by have:=dI3 (c:=c) h;omega)
 .exact .inr (by have:=dI3 (c:=c) (show k<j by omega);omega)
theorem bz1 {W w:Zd}{k:Nat}(hlen:sp c k+w.length<=W.length)(hw:w.length=c.X.length+1):gm c (put W (sp c k) w) k=w.getD 0 0:=by
 unfold gm rg;rw[cD,aD,aD,aT8 hlen,xB ⟨dD _,by omega⟩,Nat.sub_self]
theorem bd8 {s s':Dy}(hi:Inv c s)(hW:Wd c s'.W)(hk:gu c s.W s'.W)(hL:s'.L=s.L)(hp:0<=s'.p/\s'.p<=s.L)(hq: -1<=s'.q/\s'.q<=s.L)(hlv:s'.lv=s.lv)(hpk:s.pk<=s'.pk/\s'.pk<=c.words):Inv c s':=
 ⟨hW,by rw[hL];exact hi.L,by rw[hL];exact hp,by rw[hL];exact hq,λk hkk=>by rw[hk.tag,hL];exact hi.tag k hkk,by rw[hlv,hk.used];exact hi.lv,by rw[hlv];exact⟨Int.le_trans hi.pk.1 hpk.1,hpk.2⟩⟩
theorem cW5 (h:c.Ok)(hm:c.mode≠3){s:Dy}(hi:Inv c s)(a n:Int):Inv c (doF c a n s).2:=by
 have nm:=h.num;have hW:=hi.w;have hL:=hi.L;have hp:=hi.p;have hq:=hi.q;have hpk:=hi.pk;have hns:=h.ns;have nx:=nm.x;obtain⟨g1,g2,g3,g4⟩:=aG4 h hi;have htp:=nm.tp;rw[xD hm]at htp;have hsl:=nm.sl;rw[xD hm]at hsl;have l1:(seg s.W (c.off 1) c.X.length).length=c.X.length:=gy (hW.in' h (i:=1) (by omega));unfold doF;by_cases h1:my a n=Zb∨7<a
 .rw[xB h1];exact hi
 rw[xD h1];obtain⟨h2,hk⟩:=ak7 h1;by_cases h4:(2<=a/\a<=4)/\c.ns<=n
 .rw[xB h4];exact hi
 rw[xD h4]
 have slot:(2<=a/\a<=4)->n.toNat<c.ns.toNat:=λhs=>by
  have hn:=yd h2 ⟨by omega,hs.2⟩;have: ¬c.ns<=n:=λh7=>h4 ⟨hs,h7⟩
  omega
 rcases hk with rfl|rfl|rfl|rfl|rfl|rfl|rfl
 .have hn:=yd h2 (by omega);simp only[aB,reduceIte];by_cases h5:s.L-s.p<n
  .rw[xB h5];exact hi
  .rw[xD h5];exact bd8 hi (bM3 h hW _ _) (cw6 h hW _ _) rfl ⟨by show 0<=s.p+n;omega,by show s.p+n<=s.L;omega⟩ hq rfl ⟨Int.le_refl _,hpk.2⟩
 .have hlt:=slot (by omega);simp only[aB,reduceIte];by_cases h5:0<=gm c s.W n.toNat-1
  .rw[xB h5];exact hi
  rw[xD h5];generalize n.toNat=k at*;obtain⟨s1,s2,s3⟩:=ai0 h hm hlt;obtain⟨t1,t2⟩:=hW.tk h;have htk:=hi.tag k hlt;have hw:(wB wD (wB wC (s.p+1))::seg s.W (c.off 1) c.X.length).length=c.X.length+1:=by simp[l1]
  have hnew:=bz1 (c:=c) (W:=s.W) (k:=k) (w:=wB wD (wB wC (s.p+1))::seg s.W (c.off 1) c.X.length) (by omega) hw
  have hv:(wB wD (wB wC (s.p+1))::seg s.W (c.off 1) c.X.length).getD 0 0=s.p+1:=by
   show wB wD (wB wC (s.p+1))=_;rw[bg (by omega),gq (by omega)]
  rw[hv]at hnew;have hold: ∀j,j≠k->gm c (put s.W (sp c k) (wB wD (wB wC (s.p+1))::seg s.W (c.off 1) c.X.length)) j=gm c s.W j:=λj hj=>da3 (by omega) hw hj
  have hmore:=cj1 h hi (ci3 hlt (by omega))
  have hu:jf c (put s.W (sp c k) (wB wD (wB wC (s.p+1))::seg s.W (c.off 1) c.X.length))=jf c s.W+1:=by
   unfold jf;exact bd1 hlt (zB (by omega)) (zD (by rw[hnew];omega)) λj _ hj=>by rw[hold j hj]
  refine⟨hW.put h (by omega),hL,hp,hq,λj hj=> ?_, ?_, ?_⟩
  .by_cases hjk:j=k
   .subst hjk;rw[hnew];show 0<=s.p+1/\s.p+1<=s.L+1;omega
   .rw[hold j hjk];exact hi.tag j hj
  .show s.lv+c.sl=c.fixed+c.sl*((jf c (put s.W (sp c k) _):Nat):Int);rw[hu,hi.lv];rw[show(((jf c s.W+1:Nat)):Int)=(jf c s.W:Int)+1 by omega,Int.mul_add,Int.mul_one,Int.add_assoc]
  .show s.lv+c.sl<=max s.pk (s.lv+c.sl)/\max s.pk (s.lv+c.sl)<=c.words;omega
 .have hlt:=slot (by omega);simp only[aB,reduceIte];by_cases h5:gm c s.W n.toNat-1<0
  .rw[xB h5];exact hi
  rw[xD h5];obtain⟨s1,s2,s3⟩:=ai0 h hm hlt;obtain⟨t1,t2⟩:=hW.tk h;have htk:=hi.tag _ hlt;have l2:(seg s.W (sp c n.toNat+1) c.X.length).length=c.X.length:=gy (by omega);have h1o:=ko (c:=c) (i:=1) (j:=9) (by omega);have z1:c.sz 1=c.X.length:=rfl;exact bd8 hi (hW.put h (by rw[l2];omega)) (gu.put h (gu.refl s.W) hW (i:=1) (by omega) (by rw[l2];exact dD _)) rfl ⟨by show 0<=gm c s.W n.toNat-1;omega,by show gm c s.W n.toNat-1<=s.L;omega⟩ hq rfl ⟨Int.le_refl _,hpk.2⟩
 .have hlt:=slot (by omega);simp only[aB,reduceIte];by_cases h5:gm c s.W n.toNat-1<0
  .rw[xB h5];exact hi
  rw[xD h5];generalize n.toNat=k at*;obtain⟨s1,s2,s3⟩:=ai0 h hm hlt;obtain⟨t1,t2⟩:=hW.tk h;have htk:=hi.tag k hlt;have hw:(du (c.X.length+1)).length=c.X.length+1:=er _;have hnew:=bz1 (c:=c) (W:=s.W) (k:=k) (w:=du (c.X.length+1)) (by omega) hw;have hv:(du (c.X.length+1)).getD 0 0=0:=rfl;rw[hv]at hnew;have hold: ∀j,j≠k->gm c (put s.W (sp c k) (du (c.X.length+1))) j=gm c s.W j:=λj hj=>da3 (by omega) hw hj
  have hu:jf c s.W=jf c (put s.W (sp c k) (du (c.X.length+1)))+1:=by
   unfold jf;exact bd1 hlt (zB (by omega)) (zD (by omega)) λj _ hj=>by rw[hold j hj]
  refine⟨hW.put h (by omega),hL,hp,hq,λj hj=> ?_, ?_, ?_⟩
  .by_cases hjk:j=k
   .subst hjk;rw[hnew];show(0:Int)<=0/\0<=s.L+1;omega
   .rw[hold j hjk];exact hi.tag j hj
  .show s.lv-c.sl=c.fixed+c.sl*((jf c (put s.W (sp c k) (du (c.X.length+1))):Nat):Int);rw[hi.lv,hu];rw[show(((jf c (put s.W (sp c k) (du (c.X.length+1)))+1:Nat)):Int)=(jf c (put s.W (sp c k) (du (c.X.length+1))):Int)+1 by omega,Int.mul_add,Int.mul_one];omega
  .show s.lv-c.sl<=s.pk/\s.pk<=c.words;omega
 .simp only[aB,reduceIte];by_cases h5:s.q≠ -1
  .rw[xB h5];exact hi
  rw[xD h5];by_cases h6:s.p≠s.L
  .rw[xB h6];exact hi
  rw[xD h6];exact bd8 hi (aS9 h hW l1).2 (bM9 h hW l1) rfl hp ⟨by show-1<=s.p;omega,hp.2⟩ rfl ⟨cB _ _,by show max s.pk (s.lv+(c.fk.n:Int))<=c.words;omega⟩
 .simp only[aB,reduceIte];by_cases h5:s.q≠ -1
  .rw[xB h5];exact hi
  rw[xD h5];by_cases h6:s.p≠s.L-1
  .rw[xB h6];exact hi
  rw[xD h6];exact bd8 hi (bV0 h hW s.p).2 (bV0 h hW s.p).1 rfl hp ⟨by show-1<=s.p;omega,hp.2⟩ rfl ⟨cB _ _,by show max s.pk (s.lv+((c.fl.n:Int)+c.fk.n))<=c.words;omega⟩
 .simp only[aB,reduceIte];by_cases h5:s.q<=0
  .rw[xB h5];exact hi
  rw[xD h5];by_cases h6:s.p≠s.q-1
  .rw[xB h6];exact hi
  rw[xD h6];exact bd8 hi (cw7 h hW s.p).2 (cw7 h hW s.p).1 rfl hp ⟨by show-1<=s.p;omega,hp.2⟩ rfl ⟨cB _ _,by show max s.pk (s.lv+(c.fl.n:Int))<=c.words;omega⟩
theorem dv8 {s:Dy}{B:Int}(hc:Cnt B s)(a n:Int):Cnt (B+65536) (doF c a n s).2:=by
 have key:Cnt (B+65536) s:=by unfold Cnt at hc⊢;omega
 unfold doF;by_cases h1:my a n=Zb∨7<a
 .rw[xB h1];exact key
 rw[xD h1];obtain⟨h2,hk⟩:=ak7 h1;split
 .exact key
 split
 .rename_i ha;have hn:=yd h2 (by omega);split
  .exact key
  .unfold Cnt at hc⊢;simp only;omega
 repeat' split
 all_goals first|exact key|(unfold Cnt at hc⊢;simp only;omega)
end
end
section
open Nat renaming add_sub_cancel_left -> aB, le_add_right -> aD
theorem db1 {t r:Zd}{j:Nat}(h:j<t.length):(t++r)[0+j]?=C (rg t (j:Int)):=by
 rw[Nat.zero_add,List.getElem?_append_left h,gg h]
theorem bB0 {t r:Zd}{j:Nat}(h:j<r.length):(t++r)[t.length+j]?=C (rg r (j:Int)):=by
 rw[List.getElem?_append_right (aD _ _),aB,gg h]
theorem db2 {t r:Zd}{j:Nat}{v:Int}:(t++r).set (t.length+j) v=t++r.set j v:=by
 rw[List.set_append_right _ _ (aD _ _),aB]
def stK (t:Zd)(p d:Nat)(l:Nat->Int)(s:BS):Int×Int×Int×(Zd)×(Zd)×Int×Int×Int×Int×Int×Int×Int×Int:=
 ((p:Int)-1,(d:Int),(s.2.2:Int),t++s.1,s.2.1,l 0,l 1,l 2,l 3,l 4,l 5,l 6,l 7)
theorem dK2 {code:List aq9}(hc:code.length<=1000){R:Int}(hR:1<=R/\R<=64){t w:Zd}{e0 e1:Int}(hN:t.length<=1000000)(hw:w.length=t.length+R.toNat):Backs (gc R (e0,w) (e1,code)) code (stK t) (vg t) (VdB R.toNat t.length) (inR R.toNat)where
 op:=by
  intro p d l s m o to h hg hk hd hv;obtain⟨h1,h2⟩:=qz hc h;obtain⟨v1,v2,v3,v4⟩:=hv;obtain⟨q1,q2⟩:=bW6 o s.1 s.2.1 (rg t ((s.2.2-1:Nat):Int));refine⟨?_,by unfold vg;exact⟨by simp[v1,q1],by simp[v2,q2],by show m<=s.2.2-1;omega,by show s.2.2-1<=_;omega⟩⟩;obtain⟨kd,ka,kb,e1,e2,e3,g1,g2,g3⟩:=aG2 hg;unfold stK vg;simp only[gc];rw[show((p+1:Nat):Int)-1=(p:Int)by omega,zB (by omega),yD,h2];simp only[wA];rw[h];simp only[wA,eg];rw[zB (by omega),yD,zB (by omega),yD];simp only[aW1,wA];rw[bg (n:=(s.2.2:Int)-1) (by omega),show(s.2.2:Int)-1=((s.2.2-1:Nat):Int)by omega,bg (n:=(w.length:Int)-R) (by omega),show((w.length:Int)-R).toNat=t.length by omega,show((w.length:Int)).toNat-t.length=R.toNat by omega,Nat.sub_zero];have hn:s.2.2-1<t.length:=by omega
  generalize s.2.2-1=n at*;unfold bx7;simp only[e1,e2,e3,Int.toNat_natCast];rw[cw (show kd<s.2.1.length by omega)];simp only[wA];rw[gg (show kd<s.2.1.length by omega)];simp only[wA];rw[cw hn];simp only[wA];rw[db1 hn];simp only[wA];rw[cw g1];simp only[wA];rw[bB0 (show kd<s.1.length by omega)];simp only[wA];rw[cw g2];simp only[wA];rw[db2];have hr1: ∀x:Int,(s.1.set kd x).length=s.1.length:=by simp
  have ha1:(s.2.1.set kd 0).length=s.2.1.length:=by simp
  rw[bB0 (show ka<(s.1.set kd (rg t (n:Int))).length by rw[hr1];omega)];simp only[wA];rw[cw g3];simp only[wA];rw[bB0 (show kb<(s.1.set kd (rg t (n:Int))).length by rw[hr1];omega)];simp only[wA];rw[cw (show ka<(s.2.1.set kd 0).length by omega)];simp only[wA];rw[gg (show ka<(s.2.1.set kd 0).length by omega)];simp only[wA];generalize hP:par o _ _=P;generalize hA:(s.2.1.set kd 0).set ka _=A2;have hA2:A2.length=s.2.1.length:=by rw[<-hA];simp
  rw[cw (show kb<A2.length by omega)];simp only[wA];rw[gg (show kb<A2.length by omega)];simp only[wA];rw[bg (n:=(p:Int)-1) (by omega)]
 rep:=by
  intro p q d l s m o e to h hk h' hd hv;obtain⟨h1,h2⟩:=qz hc h;obtain⟨h3,h4⟩:=qz hc h';unfold stK;simp only[gc];rw[show((p+1:Nat):Int)-1=(p:Int)by omega,zB (by omega),yD,h2];simp only[wA];rw[h];simp only[wA,eg];rw[zD hk,yB,bg (n:=((q+1:Nat):Int)-1) (by omega),show((q+1:Nat):Int)-1=(q:Int)by omega,h4];simp only[wA];rw[h'];simp only[wA,eg];rw[cw hd];simp only[wA];rw[bg (n:=(p:Int)-1) (by omega),bg (n:=(d:Int)+1) (by omega)];rfl
 nxt:=by
  intro p d l s m o to h hto hk hd hl hl2 hv;obtain⟨h1,h2⟩:=qz hc h;have h8:=at1 (upd l d (l d-1)) hd;rw[vq]at h8;unfold upd at h8;unfold stK;simp only[gc];rw[show((p+1:Nat):Int)-1=(p:Int)by omega,zB (by omega),yD,h2];simp only[wA];rw[h];simp only[wA,eg];rw[zB (by omega),yD,zD hk,yB,bg (n:=((d+1:Nat):Int)-1) (by omega),show((d+1:Nat):Int)-1=(d:Int)by omega,cw hd];simp only[wA];rw[at1 l hd,gq (by omega),h8,zD (by omega),yB];rw[bg (n:=((to+1:Nat):Int)-2) (by omega),show((to+1:Nat):Int)-2=(to:Int)-1 by omega];rfl
 out:=by
  intro p d l s m o to h hk hd hl hv;obtain⟨h1,h2⟩:=qz hc h;have h8:=at1 (upd l d (l d-1)) hd;rw[vq]at h8;unfold upd at h8;unfold stK;simp only[gc];rw[show((p+1:Nat):Int)-1=(p:Int)by omega,zB (by omega),yD,h2];simp only[wA];rw[h];simp only[wA,eg];rw[zB (by omega),yD,zD hk,yB,bg (n:=((d+1:Nat):Int)-1) (by omega),show((d+1:Nat):Int)-1=(d:Int)by omega,cw hd];simp only[wA];rw[at1 l hd,gq (by omega),h8,zB (by omega),yD,bg (n:=(p:Int)-1) (by omega)];rfl
section
variable {R:Int} {l:List df} {f:Fo}
theorem cR7 (h:Prg R l f){r a t w:Zd}{e0 e1:Int}(hr:r.length=R.toNat)(ha:a.length=R.toNat)(ht:f.n<=t.length)(ht2:t.length<=1000000)(hw:w.length=t.length+R.toNat):
  ∃b0 b1 b2 b3 b4 b5 b6 b7,cj (gc R (e0,w) (e1,f.bare.code 0)) gi (IntKind.i64.wrap (((f.bare.code 0).length:Int)-1),0,(f.n:Int),t++r,a,0,0,0,0,0,0,0,0)=C (t++(mg f r a t).1,(mg f r a t).2.1,b0,b1,b2,b3,b4,b5,b6,b7):=by
 obtain⟨l',_,h2,h3⟩:=bv0 (m:=0) (l:=λ_=>0) (s:=((r,a,f.n):BS)) (d:=0) (p:=0) (A:=[]) (B:=[]) (bR8 (dK2 (e0:=e0) (e1:=e1) (t:=t) h.clen h.R1 ht2 hw)) f.bare (by simp) rfl (Fo.bare_ok f h.ok) f.bare_pos h.hi h.good ⟨hr,ha,by rw[Fo.bare_n];exact Nat.le_refl _,ht⟩;rw[Fo.bare_unroll]at h2 h3;have hl:=h.clen;rw[Fo.code_len]at hl
 have:=iu h2 h.steps (c:=(t++(mg f r a t).1,(mg f r a t).2.1,l' 0,l' 1,l' 2,l' 3,l' 4,l' 5,l' 6,l' 7)) (by
  unfold stK;simp only[gc];rw[zD (by omega),yB]
  rfl)
 have e:stK t (0+f.bare.len) 0 (λ_=>0) ((r,a,f.n):BS)=(IntKind.i64.wrap (((f.bare.code 0).length:Int)-1),0,(f.n:Int),t++r,a,0,0,0,0,0,0,0,0):=by
  unfold stK;rw[Fo.code_len,bg (by omega),Nat.zero_add];rfl
 rw[e]at this;exact⟨_,_,_,_,_,_,_,_,this⟩
end
end
section
open Bool renaming not_true -> aB
open Int renaming toNat_of_nonneg -> aD, mul_le_mul_of_nonneg_left -> bB
open List renaming length_append -> bD, length_take -> cB
section
variable {c:Cx}
def uw (c:Cx)(i:Nat):Nat:=c.off 8+i*c.sl.toNat
def je (s:Dy):Int:=if s.q<0 then s.p else s.q
structure InvB (c:Cx)(s:Dy):Prop where
 w:Wd c s.W
 L:s.L=c.len
 p:0<=s.p/\s.p<=s.L
 q: -1<=s.q/\s.q<=s.L
 qp:0<=s.q->s.p=s.q
 lv:s.lv=c.fixed+c.sl*je s
 pk:s.lv<=s.pk/\s.pk<=c.words
def at4 (c:Cx)(W:Zd)(i:Nat):Zd:=seg W (uw c i) c.fl.n
def aM8 (c:Cx)(W:Zd)(i:Nat):Zd:=seg W (uw c i+c.fl.n) c.R.toNat
def bm6 (c:Cx)(W:Zd)(i:Nat):BS:=mg c.fl (aM8 c W i) (fill c.R (seg W (c.off 5) c.X.length)) (at4 c W i)
def plF (c:Cx)(a n:Int)(s:Dy):Int×Dy:=
 if a=8 then(if n≠0 then(2,s)else if 0<=s.q then(18,s)else if s.p=s.L then(17,s)else
  (0,{s with p:=s.p+1,c1:=s.c1+1,lv:=s.lv+c.sl,pk:=max s.pk (s.lv+c.sl),W:=put (put (put s.W (c.off 2) (stepR c s.W s.p).1) (uw c s.p.toNat) ((stepR c s.W s.p).2.1++(stepR c s.W s.p).1)) (c.off 1) ((stepR c s.W s.p).1.take c.X.length)}))
 else if a=5 then(if n≠0 then(2,s)else if 0<=s.q then(18,s)else if s.p≠s.L then(17,s)else
  (0,{s with q:=s.L,c2:=s.c2+1,c3:=s.c3+1,z:=rg (lossR c s.W (seg s.W (c.off 1) c.X.length)).1 0,pk:=max s.pk (s.lv+c.fk.n),W:=bT5 c s.W (seg s.W (c.off 1) c.X.length)}))
 else if a=9 then(if n≠0 then(2,s)else if s.q<1 then(18,s)else
  (0,{s with p:=s.q-1,q:=s.q-1,c3:=s.c3+1,lv:=s.lv-c.sl,W:=put (aL8 c s.W (bm6 c s.W (s.q-1).toNat).2.1) (c.off 1) ((bm6 c s.W (s.q-1).toNat).1.take c.X.length)}))
 else(2,s)
theorem aC8 (h:c.Ok)(hm:c.mode=3){i:Nat}(hi:i<c.ns.toNat):c.sl.toNat=c.fl.n+c.R.toNat/\c.sl=(c.fl.n:Int)+c.R/\uw c i+c.sl.toNat<=c.off 9/\c.off 8<=uw c i:=by
 have n:=h.num;have hsl:=n.sl;rw[xB hm]at hsl;have hns:=h.ns;have nR:=n.R
 have e:(c.sl*c.ns).toNat=c.ns.toNat*c.sl.toNat:=by
  have:c.sl*c.ns=((c.ns.toNat*c.sl.toNat:Nat):Int):=by
   rw[Int.natCast_mul,aD hns.1,aD (by omega),Int.mul_comm]
  rw[this];rfl
 have h9:c.off 9=c.off 8+c.ns.toNat*c.sl.toNat:=by rw[bx2,e]
 have h1:(i+1)*c.sl.toNat<=c.ns.toNat*c.sl.toNat:=Nat.mul_le_mul_right _ hi;rw[Nat.succ_mul]at h1;unfold uw;omega
theorem cK7 (h:c.Ok)(hm:c.mode=3){i:Nat}(hi:i<c.ns.toNat){a0 a1 a4 a5 a6 a7 a8 a9 a10 a11 a12 a13 a14 a15 a16 a17:Int}{X T:Zd}{l k:List df}{b0 b1 b2 b3:Int}{W:Zd}:np (i:Int) a0 a1 c.sl a4 a5 a6 a7 a8 a9 a10 a11 a12 a13 a14 a15 a16 a17 X T l k c.P b0 b1 b2 b3 W=C (uw c i:Int):=by
 obtain⟨h1,h2,h3,h4⟩:=aC8 h hm hi;have h5:=h.off9_le;have n:=h.num;have h6:=n.words;have nR:=n.R;unfold np;rw[show ix 8 c.P.length=C 8 from cw (k:=8) (by rw[Cx.P_len];omega)];simp only[wA];rw[Cx.P_get (show 8<10 by omega)];simp only[wA];have e:(i:Int)*c.sl=((i*c.sl.toNat:Nat):Int):=by rw[Int.natCast_mul,aD (by omega)]
 unfold uw at h3;rw[e,bg (n:=((i*c.sl.toNat:Nat):Int)) (by omega),bg (by omega)];unfold uw
 congr 1
theorem bV3 (h:c.Ok)(hm:c.mode=3){s:Dy}(hi:InvB c s):0<=s.lv/\s.lv+c.tp<=c.words/\c.words<=1048576/\0<=c.tp/\(je s<c.ns->s.lv+c.sl<=c.words)/\(0<je s->c.sl<=s.lv)/\c.ns=s.L:=by
 have n:=h.num;have h1:=hi.lv;have h3:=h.fit;have h4:=n.fixed;have h5:=h.ns;have h6:=n.sl;rw[xB hm]at h6;have nR:=n.R;have nQ:=n.Q;have nw:=n.words;have hb:=h.base hm;have hL:=hi.L;have hp:=hi.p;have hq:=hi.q;have hh:0<=je s/\je s<=c.ns:=by unfold je;split<;>omega
 have h7:1<=c.sl:=by omega
 have h8:c.sl*je s<=c.sl*c.ns:=bB hh.2 (by omega);have h9:0<=c.sl*je s:=Int.mul_nonneg (by omega) hh.1;have h10:0<=c.tp:=by rw[n.tp];split<;>omega
 refine⟨by omega,by omega,by omega,h10,λhlt=> ?_,λhpos=> ?_,by omega⟩
 .have h8:c.sl*(je s+1)<=c.sl*c.ns:=bB (by omega) (by omega);rw[Int.mul_add,Int.mul_one]at h8;omega
 .have h8:c.sl*1<=c.sl*je s:=bB (by omega) (by omega);omega
theorem bG9 (h:c.Ok)(hm:c.mode=3){W:Zd}(hW:Wd c W){i:Nat}(hi:i<c.ns.toNat):
  seg W (uw c i) c.sl.toNat=at4 c W i++aM8 c W i/\(at4 c W i).length=c.fl.n/\(aM8 c W i).length=c.R.toNat/\(fill c.R (seg W (c.off 5) c.X.length)).length=c.R.toNat/\(bm6 c W i).1.length=c.R.toNat/\(bm6 c W i).2.1.length=c.R.toNat:=by
 obtain⟨h1,h2,h3,h4⟩:=aC8 h hm hi;obtain⟨t1,t2⟩:=hW.tk h;have n:=h.num;have nR:=n.R;have n1:=n.xtR;have nn:=n.n;have l5:(seg W (c.off 5) c.X.length).length=c.X.length:=gy (hW.in' h (i:=5) (by omega));have e1:(at4 c W i).length=c.fl.n:=gy (by omega);have e2:(aM8 c W i).length=c.R.toNat:=gy (by omega);have e3:(fill c.R (seg W (c.off 5) c.X.length)).length=c.R.toNat:=jb (by omega);obtain⟨_,r2,r3⟩:=xd h.pl e2 e3 (t:=at4 c W i) (Nat.le_of_eq e1.symm) (by omega);refine⟨?_,e1,e2,e3,r2,r3⟩;apply List.ext_getElem?;intro j;rw[aw9];by_cases hj:j<c.fl.n
 .rw[xB (by omega),List.getElem?_append_left (by omega)];unfold at4;rw[aw9,xB hj]
 .rw[List.getElem?_append_right (by omega),e1];unfold aM8;rw[aw9];by_cases hj2:j<c.sl.toNat
  .rw[xB hj2,xB (by omega)]
   congr 1
   omega
  .rw[xD hj2,xD (by omega)]
theorem plain1 (h:c.Ok)(hm:c.mode=3){s:Dy}(hi:InvB c s){B:Int}(hc:Cnt B s)(hB:B<=2305843009213693952){a n:Int}:
  rr a n c.fixed c.tp c.sl c.ns c.mode c.R c.Q c.len c.words s.L s.p s.q s.c0 s.c1 s.c2 s.c3 s.z c.X c.T c.l c.k c.P c.tk s.lv s.pk c.words s.W=C (dl3 c (plF c a n s)):=by
 have nm:=h.num;have hW:=hi.w;have hL:=hi.L;have hp:=hi.p;have hq:=hi.q;have hpk:=hi.pk;have hns:=h.ns;have nR:=nm.R;have n1:=nm.xtR;have nx:=nm.x;have nt:=nm.t;have nn:=nm.n;have nlen:=nm.len;obtain⟨k0,k1,k2,k3⟩:=hc.in' hB;obtain⟨g1,g2,g3,g4,g5,g6,g7⟩:=bV3 h hm hi;have htp:=nm.tp;rw[xB hm]at htp;obtain⟨t1,t2⟩:=hW.tk h;unfold rr plF;by_cases a8:a=8
 .subst a8;rw[zD (show(8:Int)=8 from rfl),zB (show¬(8:Int)=5 by decide)];simp only[yB,wA,aB,yD,reduceIte];by_cases hn:n≠0
  .rw[xB hn,zD hn];rfl
  rw[xD hn,zB hn];simp only[yD,wA];by_cases hq0:0<=s.q
  .rw[xB hq0,zD hq0];rfl
  rw[xD hq0,zB hq0];simp only[yD,wA];by_cases hpl:s.p=s.L
  .rw[xB hpl,zD hpl];rfl
  rw[xD hpl,zB hpl];simp only[BEq.rfl,aB,yD,wA,cq];have hheld:je s=s.p:=by unfold je;rw[xB (by omega)]
  have hlt:s.p.toNat<c.ns.toNat:=by omega
  have ep:s.p=((s.p.toNat:Nat):Int):=by omega
  obtain⟨s1,s2,s3,s4⟩:=aC8 h hm hlt;obtain⟨f1,f2,f3⟩:=mj h hW s.p;have w1:=ay1 h hW s.p;have hbd:=g5 (by rw[hheld];omega);rw[w7 (by omega) g1 hbd (by omega)];simp only[wA];rw[dO2 h hW];simp only[wA];have hse:=cK7 h hm hlt (a0:=c.fixed) (a1:=c.tp) (a4:=c.ns) (a5:=c.mode) (a6:=c.R) (a7:=c.Q) (a8:=c.len) (a9:=c.words) (a10:=s.L) (a11:=s.p) (a12:=s.q) (a13:=s.c0) (a14:=IntKind.i64.wrap (s.c1+1)) (a15:=s.c2) (a16:=s.c3) (a17:=s.z) (X:=c.X) (T:=c.T) (l:=c.l) (k:=c.k) (b0:=c.tk) (b1:=s.lv+c.sl) (b2:=max s.pk (s.lv+c.sl)) (b3:=c.words) (W:=put s.W (c.off 2) (stepR c s.W s.p).1);rw[<-ep]at hse;rw[hse];simp only[wA];have hla:((stepR c s.W s.p).2.1++(stepR c s.W s.p).1).length=c.sl.toNat:=by rw[bD];omega
  rw[ej (by omega) (by omega)];obtain⟨u1,u2⟩:=w1.tk h;unfold Cx.tk;rw[ac5 (by rw[hla];exact s3) u1 u2];simp only[wA];rw[i7 (by omega),fg,show((c.X.length:Int)).toNat-0=c.X.length by omega,List.drop_zero,show((c.off 9:Nat):Int)=c.tk from rfl,put1 (ii:=1) (i:=1) h (w1.put h (by rw[hla];exact s3)) rfl (by omega) (by rw[cB,show c.sz 1=c.X.length from rfl];omega)];simp only[wA];rw[bg (n:=s.p+1) (by omega),bg (n:=s.c1+1) (by omega)];rfl
 rw[zB a8,xD a8];simp only[yD,wA];by_cases a5:a=5
 .subst a5;rw[zD (show(5:Int)=5 from rfl)];simp only[yB,aB,yD,reduceIte];by_cases hn:n≠0
  .rw[xB hn,zD hn];rfl
  rw[xD hn,zB hn];simp only[yD,wA];by_cases hq0:0<=s.q
  .rw[xB hq0,zD hq0];rfl
  rw[xD hq0,zB hq0];simp only[yD,wA];by_cases hpl:s.p≠s.L
  .rw[xB hpl,zB hpl];rfl
  rw[xD hpl,zD (show s.p=s.L by omega)];simp only[BEq.rfl,aB,yD,wA,cq];rw[dV5 h hW g1 hpk.1 (by omega) g3];simp only[wA];rw[bg (n:=s.c2+1) (by omega),bg (n:=s.c3+1) (by omega)];rfl
 rw[zB a5,xD a5];simp only[yD,Bool.not_false,yB];by_cases a9:a=9
 .subst a9;rw[zB (show¬((9:Int)≠9)from λk=>k rfl)];simp only[reduceIte];by_cases hn:n≠0
  .rw[xB hn,zD hn];rfl
  rw[xD hn,zB hn];simp only[yD,wA];by_cases hq1:s.q<1
  .rw[xB hq1,zD hq1];rfl
  rw[xD hq1,zB hq1];simp only[yD,wA,cq];have hheld:je s=s.q:=by unfold je;rw[xD (by omega)]
  have hlt:(s.q-1).toNat<c.ns.toNat:=by omega
  have ep:s.q-1=(((s.q-1).toNat:Nat):Int):=by omega
  obtain⟨s1,s2,s3,s4⟩:=aC8 h hm hlt;obtain⟨b1,b2,b3,b4,b5,b6⟩:=bG9 h hm hW hlt;rw[bg (n:=s.q-1) (by omega)];have hse:=cK7 h hm hlt (a0:=c.fixed) (a1:=c.tp) (a4:=c.ns) (a5:=c.mode) (a6:=c.R) (a7:=c.Q) (a8:=c.len) (a9:=c.words) (a10:=s.L) (a11:=s.q-1) (a12:=s.q-1) (a13:=s.c0) (a14:=s.c1) (a15:=s.c2) (a16:=s.c3) (a17:=s.z) (X:=c.X) (T:=c.T) (l:=c.l) (k:=c.k) (b0:=c.tk) (b1:=s.lv) (b2:=s.pk) (b3:=c.words) (W:=s.W);rw[<-ep]at hse;rw[hse];simp only[wA]
  have hrd:fq (uw c (s.q-1).toNat:Int) c.sl c.tk s.W=C (0,at4 c s.W (s.q-1).toNat++aM8 c s.W (s.q-1).toNat):=by
   have:=aj8 (W:=s.W) (o:=uw c (s.q-1).toNat) (n:=c.sl.toNat) s3 t1 t2;rw[aD (by omega),b1]at this;exact this
  rw[hrd];simp only[wA];generalize (s.q-1).toNat=i at*;have hlen:(at4 c s.W i++aM8 c s.W i).length=c.fl.n+c.R.toNat:=by rw[bD];omega
  have hwr:IntKind.i64.wrap (((at4 c s.W i++aM8 c s.W i).length:Int)-c.R)=(c.fl.n:Int):=by rw[hlen,bg (by omega)];omega
  simp only[hwr];rw[i7 (by omega),fg,i7 (by omega),fg,dd7 (ii:=5) (i:=5) h hW rfl (by omega)];simp only[wA];have l5:(seg s.W (c.off 5) c.X.length).length=c.X.length:=gy (hW.in' h (i:=5) (by omega));rw[show c.sz 5=c.X.length from rfl,bN3 nR (by omega)];simp only[wA];rw[bh4 h.pl,h.pl.writes];simp only[wA];rw[zB (show¬((0:Int)≠0)by simp),yD];rw[zB (show¬((((((at4 c s.W i++aM8 c s.W i).length:Int)).toNat-((c.fl.n:Int)).toNat:Nat):Int)≠c.R)by omega),yD,zB (show¬(((fill c.R (seg s.W (c.off 5) c.X.length)).length:Int)≠c.R)by omega),yD,zB (show¬(((((c.fl.n:Int)).toNat-0:Nat):Int)<(c.fl.n:Int))by omega),yD];obtain⟨z0,z1,z2,z3,z4,z5,z6,z7,hz⟩:=cR7 h.pl (e0:=0) (e1:=0) (t:=at4 c s.W i) (r:=aM8 c s.W i) (a:=fill c.R (seg s.W (c.off 5) c.X.length)) (w:=at4 c s.W i++aM8 c s.W i) b3 b4 (Nat.le_of_eq b2.symm) (by omega) (by rw[hlen,b2])
  rw[hz];simp only[wA];have eK:mg c.fl (aM8 c s.W i) (fill c.R (seg s.W (c.off 5) c.X.length)) (at4 c s.W i)=bm6 c s.W i:=rfl;rw[eK];generalize bm6 c s.W i=q1 at*;obtain⟨v1,v2,v3⟩:=uF h (a:=q1.2.1) hW (by omega) (by omega);rw[put1 (ii:=4) (i:=4) h hW rfl (by omega) (by rw[show c.sz 4=max c.R.toNat c.Q.toNat from rfl];omega)];simp only[wA];rw[i7 (by omega),fg,show((c.X.length:Int)).toNat-0=c.X.length by omega,List.drop_zero,put1 (ii:=5) (i:=5) h v1 rfl (by omega) (by rw[cB,show c.sz 5=c.X.length from rfl];omega)];simp only[wA];rw[dd7 (ii:=6) (i:=6) h v2 rfl (by omega)];simp only[wA];rw[show c.sz 6=c.T.length from rfl];have hg:(seg (put (put s.W (c.off 4) q1.2.1) (c.off 5) (q1.2.1.take c.X.length)) (c.off 6) c.T.length).length=c.T.length:=gy (v2.in' h (i:=6) (by omega));rw[bu8 (f:=ab4 c.X q1.2.1 _) (X:=c.X) (a:=q1.2.1) (g:=seg (put (put s.W (c.off 4) q1.2.1) (c.off 5) (q1.2.1.take c.X.length)) (c.off 6) c.T.length) (by omega) (by omega) (by omega) (λs=>rfl)]
  simp only[wA];rw[put1 (ii:=6) (i:=6) h v2 rfl (by omega) (by rw[zj,hg];exact Nat.le_refl _)];simp only[wA];have hlen2:(at4 c s.W i++q1.1).length=c.fl.n+c.R.toNat:=by rw[bD];omega
  rw[bg (n:=(c.fl.n:Int)+(c.X.length:Int)) (by omega),i7 (by omega),fg,show((c.fl.n:Int)+(c.X.length:Int)).toNat-((c.fl.n:Int)).toNat=c.X.length by omega,Int.toNat_natCast];have hdr:(at4 c s.W i++q1.1).drop c.fl.n=q1.1:=List.drop_left' b2;rw[hdr];have eB:put (put (put s.W (c.off 4) q1.2.1) (c.off 5) (q1.2.1.take c.X.length)) (c.off 6) (ao5 c.X.length (seg (put (put s.W (c.off 4) q1.2.1) (c.off 5) (q1.2.1.take c.X.length)) (c.off 6) c.T.length) q1.2.1)=aL8 c s.W q1.2.1:=rfl;rw[eB,put1 (ii:=1) (i:=1) h v3 rfl (by omega) (by rw[cB,show c.sz 1=c.X.length from rfl];omega)];simp only[wA];rw[ak3 (by omega) (g6 (by rw[hheld];omega)) hpk.1 (by omega)];simp only[wA];rw[bg (n:=s.c3+1) (by omega)];rfl
 rw[xD a9,zD a9];by_cases hn:n≠0
 .rw[zD hn];rfl
 .rw[zB hn];rfl
theorem do1 (h:c.Ok)(hm:c.mode=3){s:Dy}(hi:InvB c s){B:Int}(hc:Cnt B s)(hB:B<=2305843009213693952){a n:Int}:
  wl a n c.fixed c.tp c.sl c.ns c.mode c.R c.Q c.len c.words s.L s.p s.q s.c0 s.c1 s.c2 s.c3 s.z c.X c.T c.l c.k c.P c.tk s.lv s.pk c.words s.W=C (dl3 c (plF c a n s)):=by
 unfold wl i5;simp only[wA];rw[zD hm,yB,plain1 h hm hi hc hB];rfl
end
end
section
open Int renaming le_refl -> aB, mul_comm -> bB
open List renaming getElem?_replicate -> cB
open Nat renaming le_refl -> aD, zero_add -> bD
theorem dg1 {m:Int}{x t:Nat}{R:Int}{l:List df}{Q:Int}{k:List df}{n b:Int}(hl:OpsOk l)(hk:OpsOk k)(h:(jp m x t R l Q k n b).2.2.2.2=0):
  aw2 m x t R l Q k n b=0/\∃ns,jp m x t R l Q k n b=(wE x t R Q,vp m l k,wz m x R l,ns,0)/\(0<=ns/\ns<=1048576)/\wE x t R Q+vp m l k+wz m x R l*ns<=b/\(m=3->ns=n):=by
 unfold jp at h⊢;by_cases hc:aw2 m x t R l Q k n b≠0
 .rw[xB hc]at h;exact(hc h).elim
 rw[xD hc]at h⊢;have hc:aw2 m x t R l Q k n b=0:=by omega
 have s:=bE6 hl hk hc;have f:=aT2 hl hk hc;have g1:=f.mode;have g2:=f.len;have g3:=f.bud;have g4:=s.xs;have g5:=s.ts;have g6:=s.r;have g7:=s.r';have g8:=s.tp;have g9:=s.sl;have hfx:0<=wE x t R Q/\wE x t R Q<=1000:=by unfold wE;omega
 split at h
 .cases h
 rename_i c;rw[xD c];refine⟨hc,_,rfl, ?_, ?_,λh3=>xB h3⟩
 .split
  .omega
  .rename_i c3;unfold least at c;rw[xD c3]at c;have hd2:(b-wE x t R Q-vp m l k) / wz m x R l<=b-wE x t R Q-vp m l k:=Int.ediv_le_self _ (by omega);have hd1:0<=(b-wE x t R Q-vp m l k) / wz m x R l:=Int.ediv_nonneg (by omega) (by omega);omega
 .unfold least at c;split
  .rename_i c3;rw[xB c3,bB]at c;omega
  .rename_i c3;rw[xD c3]at c;have:=Int.mul_ediv_self_le (x:=b-wE x t R Q-vp m l k) (k:=wz m x R l) (by omega);omega
theorem dM2 {m:Int}{X T:Zd}{R:Int}{l:List df}{Q:Int}{k:List df}{n b:Int}(hl:OpsOk l)(hk:OpsOk k)(h:(jp m X.length T.length R l Q k n b).2.2.2.2=0):
  ∃c:Cx,c.Ok/\c.mode=m/\c.X=X/\c.T=T/\c.R=R/\c.l=l/\c.Q=Q/\c.k=k/\c.len=n/\c.words=b/\jp m X.length T.length R l Q k n b=(c.fixed,c.tp,c.sl,c.ns,0):=by
 obtain⟨hc,ns,h1,h2,h3,h4⟩:=dg1 hl hk h;obtain⟨h5,h6⟩:=df8 (bC5 hc).1;obtain⟨fl,hfl⟩:=dq5 hl h5;obtain⟨fk,hfk⟩:=dq5 hk h6;exact⟨⟨m,R,Q,n,b,X,T,l,k,fl,fk,wE X.length T.length R Q,vp m l k,wz m X.length R l,ns⟩,⟨hl,hk,hc,hfl,hfk,rfl,rfl,rfl,h2,h3,h4⟩,rfl,rfl,rfl,rfl,rfl,rfl,rfl,rfl,rfl,h1⟩
section
variable {c:Cx}
theorem Cx.Ok.plan (h:c.Ok):jp c.mode c.X.length c.T.length c.R c.l c.Q c.k c.len c.words=(c.fixed,c.tp,c.sl,c.ns,0)->ab6 c.mode c.X c.T c.R c.l c.Q c.k c.len c.words=C (c.fixed,c.tp,c.sl,c.ns,0):=λe=>by
 rw[bD6 h.hl h.hk,e]
theorem dB6 (h:c.Ok): ∀i,i<10->pre [((c.T.length:Nat):Int),((c.X.length:Nat):Int),c.R,c.Q,max c.R c.Q,((c.X.length:Nat):Int),((c.T.length:Nat):Int),c.tp,c.sl*c.ns] i=(c.off i:Int):=by
 have n:=h.num;have nR:=n.R;have nQ:=n.Q;have nm:=n.mul;have htp:0<=c.tp:=by rw[n.tp];split<;>omega
 have hs: ∀i,i<9->([((c.T.length:Nat):Int),((c.X.length:Nat):Int),c.R,c.Q,max c.R c.Q,((c.X.length:Nat):Int),((c.T.length:Nat):Int),c.tp,c.sl*c.ns]:Zd).getD i 0=(c.sz i:Int):=λi hi=>by
  rcases(show i=0∨i=1∨i=2∨i=3∨i=4∨i=5∨i=6∨i=7∨i=8 by omega)with rfl|rfl|rfl|rfl|rfl|rfl|rfl|rfl|rfl
  .rfl
  .rfl
  .show c.R=(c.R.toNat:Int);omega
  .show c.Q=(c.Q.toNat:Int);omega
  .show max c.R c.Q=((max c.R.toNat c.Q.toNat:Nat):Int);omega
  .rfl
  .rfl
  .show c.tp=(c.tp.toNat:Int);omega
  .show c.sl*c.ns=((c.sl*c.ns).toNat:Int);omega
 intro i;induction i with
 |zero=>intro _;rfl
 |succ i ih=>
  intro hi;simp only[pre];rw[ih (by omega),hs i (by omega)];show(c.off i:Int)+(c.sz i:Int)=((c.off i+c.sz i:Nat):Int);omega
theorem bW4 (h:c.Ok)(e:jp c.mode c.X.length c.T.length c.R c.l c.Q c.k c.len c.words=(c.fixed,c.tp,c.sl,c.ns,0)):vt c.mode c.X c.T c.R c.l c.Q c.k c.len c.words=C (0,c.P):=by
 have s:=bE6 h.hl h.hk h.hc;have s':SFacts c.X.length c.T.length c.R c.Q c.tp c.sl:=by rw[h.tp,h.sl];exact s
 unfold vt;rw[h.plan e];simp only[wA];rw[zB (by simp),yD,bq0 h.hl h.hk h.hc];simp only[wA];have hb:=cy9 (n:=c.ns) s' h.ns;rw[<-h.tp,<-h.sl,bW5 hb];simp only[wA]
 congr 2
 unfold Cx.P;apply List.map_congr_left;intro i hi;exact dB6 h i (List.mem_range.1 hi)
theorem ch1 {l:List df}(h:l.length<=100):iq l=C l:=by
 unfold iq;rw[ej (by omega) (by omega)]
theorem ao7 {l:Zd}(h:l.length<=1048576):cm l=C l:=by
 unfold cm;rw[ej (by omega) (by omega)]
theorem aM7 (h:c.Ok)(e:jp c.mode c.X.length c.T.length c.R c.l c.Q c.k c.len c.words=(c.fixed,c.tp,c.sl,c.ns,0)):
  td c.mode c.X c.T c.R c.l c.Q c.k c.len c.words=C (.inr (c.fixed,c.tp,c.sl,c.ns,c.mode,c.R,c.Q,c.len,c.words,c.len,c.X,c.T,c.l,c.k,c.P)):=by
 have n:=h.num;have nx:=n.x;have nt:=n.t;unfold td;rw[h.plan e];simp only[wA];rw[zB (by simp),yD,ch1 h.hl.len,ch1 h.hk.len,ao7 (by omega),ao7 (by omega)];simp only[wA];rw[bW4 h e];rfl
theorem ck2 {m:Int}{X T:Zd}{R:Int}{l:List df}{Q:Int}{k:List df}{n b:Int}(hl:OpsOk l)(hk:OpsOk k)(h:(jp m X.length T.length R l Q k n b).2.2.2.2≠0):td m X T R l Q k n b=C (.inl (jp m X.length T.length R l Q k n b).2.2.2.2):=by
 unfold td;rw[bD6 hl hk];simp only[wA];rw[zD h,yB]
def cx0 (c:Cx)(W:Zd):Zd:=put (put W (c.off 0) c.T) (c.off 1) c.X
def new1 (c:Cx):Dy:=⟨c.len,0,-1,0,0,0,0,0,c.fixed,c.fixed,cx0 c (du c.words.toNat)⟩
def new2 (c:Cx):Dy:=⟨c.len,0,-1,0,0,0,0,0,c.fixed,c.fixed,cx0 c (put (du c.words.toNat) (c.off 8) (du (c.sl*c.ns).toNat))⟩
theorem aN3 :Wd c (du c.words.toNat):=er _
theorem wZ (h:c.Ok):0<=c.fixed/\c.fixed<=c.words/\1<=c.fixed/\c.fixed=(c.off 7:Int):=by
 have n:=h.num;have nR:=n.R;have nQ:=n.Q;have nf:=n.fixed;have nm:=n.mul;have ft:=h.fit;have htp:0<=c.tp:=by rw[n.tp];split<;>omega
 refine⟨by omega,by omega,by omega, ?_⟩;rw[dT6,nf];omega
theorem bi1 (h:c.Ok){W:Zd}(hW:Wd c W):Wd c (put W (c.off 0) c.T)/\Wd c (cx0 c W)/\gu c W (cx0 c W):=by
 have h0:=ko (c:=c) (i:=0) (j:=9) (by omega);have h1:=ko (c:=c) (i:=1) (j:=9) (by omega);have z0:c.sz 0=c.T.length:=rfl;have z1:c.sz 1=c.X.length:=rfl;have w1:=hW.put h (w:=c.T) (o:=c.off 0) (by omega);have w2:=w1.put h (w:=c.X) (o:=c.off 1) (by omega);exact⟨w1,w2,gu.put h (gu.put h (gu.refl W) hW (i:=0) (by omega) (Nat.le_of_eq z0.symm)) w1 (i:=1) (by omega) (Nat.le_of_eq z1.symm)⟩
theorem cg6 (h:c.Ok):am5 c.words=C (du c.words.toNat):=by
 have f:=wZ h;have n:=h.num;have nw:=n.words;unfold am5 yq;rw[zB (by omega),yD,zB (by omega),yD];simp only[wA];rw[zB (by simp),yD,gdz (by omega)];rfl
theorem cj3 (h:c.Ok):aE7 c.words=C (0,0,c.words):=by
 have n:=h.num;have nw:=n.words;unfold aE7 oh;rw[zB (show¬(0:Int)<0 by omega),zB (show¬c.words<0 by omega)];rfl
theorem aG9 {o n:Nat}{W:Zd}(h:o+n<=W.length)(hw:W.length<=1048576):ei (n:Int) (o:Int) W=C ((o:Int),0,((o+n:Nat):Int)):=by
 unfold ei aa6;rw[zB (by omega),yD];simp only[wA];rw[bg (n:=(W.length:Int)-o) (by omega),zB (by omega),yD,bg (n:=(o:Int)+n) (by omega)]
 congr 2
theorem dX7 (h:c.Ok)(hm:c.mode=3)(e:jp c.mode c.X.length c.T.length c.R c.l c.Q c.k c.len c.words=(c.fixed,c.tp,c.sl,c.ns,0)):
  uD c.mode c.X c.T c.R c.l c.Q c.k c.len c.words=C (.inr (.inl (c.fixed,c.tp,c.sl,c.ns,c.mode,c.R,c.Q,c.len,c.words,c.len,c.X,c.T,c.l,c.k,c.P,c.tk,c.fixed,c.fixed,c.words,(new1 c).W))):=by
 have f:=wZ h;have n:=h.num;have nw:=n.words;have nm:=n.mul;have h9:=h.off9_le;have h89:c.off 9=c.off 8+(c.sl*c.ns).toNat:=bx2;have hzl:(du c.words.toNat).length=c.words.toNat:=er _;obtain⟨w1,w2,w3⟩:=bi1 h (aN3 (c:=c));unfold uD;rw[aM7 h e];simp only[wA,cq];rw[cg6 h,cj3 h];simp only[wA];rw[w7 (by omega) (by omega) (by omega) (by omega)];simp only[wA];rw[show ix 8 c.P.length=C 8 from cw (k:=8) (by rw[Cx.P_len];omega)];simp only[wA];rw[Cx.P_get (show 8<10 by omega)];simp only[wA];rw[show ei (c.off 8:Int) 0 (du c.words.toNat)=C (((0:Nat):Int),0,((0+c.off 8:Nat):Int))from aG9 (o:=0) (n:=c.off 8) (by rw[bD,hzl];omega) (by omega)];unfold i5;simp only[wA];rw[zD hm,yB,bB,bg (n:=c.sl*c.ns) (by omega),show c.sl*c.ns=((c.sl*c.ns).toNat:Int)by omega,aG9 (by omega) (by omega)]
 simp only[wA,dg];have etk:((0+c.off 8+(c.sl*c.ns).toNat:Nat):Int)=c.tk:=by unfold Cx.tk;omega
 rw[etk,put1 (ii:=0) (i:=0) h aN3 rfl (by omega) (aD _)];simp only[wA];rw[put1 (ii:=1) (i:=1) h w1 rfl (by omega) (aD _)];simp only[wA];have ef:(0:Int)+c.fixed=c.fixed:=by omega
 have em:max (0:Int) c.fixed=c.fixed:=by omega
 rw[ef,em];rfl
theorem dX8 (h:c.Ok)(hm:c.mode≠3)(e:jp c.mode c.X.length c.T.length c.R c.l c.Q c.k c.len c.words=(c.fixed,c.tp,c.sl,c.ns,0)):
  uD c.mode c.X c.T c.R c.l c.Q c.k c.len c.words=C (.inr (.inr (c.fixed,c.tp,c.sl,c.ns,c.mode,c.R,c.Q,c.len,c.words,c.len,c.X,c.T,c.l,c.k,c.P,c.tk,(c.off 8:Int),c.ns,(c.X.length:Int),c.fixed,c.fixed,c.words,(new2 c).W))):=by
 have f:=wZ h;have n:=h.num;have nw:=n.words;have nm:=n.mul;have nx:=n.x;have nns:=h.ns;have h9:=h.off9_le;have h89:c.off 9=c.off 8+(c.sl*c.ns).toNat:=bx2;have hzl:(du c.words.toNat).length=c.words.toNat:=er _;have hsl:=n.sl;rw[xD hm]at hsl;have w0:Wd c (put (du c.words.toNat) (c.off 8) (du (c.sl*c.ns).toNat)):=(aN3 (c:=c)).put h (by rw[er];omega);obtain⟨w1,w2,w3⟩:=bi1 h w0;unfold uD;rw[aM7 h e];simp only[wA,cq];rw[cg6 h,cj3 h];simp only[wA];rw[w7 (by omega) (by omega) (by omega) (by omega)];simp only[wA];rw[show ix 8 c.P.length=C 8 from cw (k:=8) (by rw[Cx.P_len];omega)];simp only[wA];rw[Cx.P_get (show 8<10 by omega)];simp only[wA];rw[show ei (c.off 8:Int) 0 (du c.words.toNat)=C (((0:Nat):Int),0,((0+c.off 8:Nat):Int))from aG9 (o:=0) (n:=c.off 8) (by rw[bD,hzl];omega) (by omega)];unfold i5
 simp only[wA];rw[zB hm,yD];unfold aZ6 oe fy;rw[zD (show 0<=c.ns by omega),zD (show c.ns<=1048576 by omega),zD (show 1<=(c.X.length:Int)by omega),zD (show(c.X.length:Int)<=64 by omega)];simp only[yB,yD,Bool.not_true,wA];rw[bg (n:=(c.X.length:Int)+1) (by omega),<-hsl,bB c.ns,bg (n:=c.sl*c.ns) (by omega)];have esn:c.sl*c.ns=(((c.sl*c.ns).toNat:Nat):Int):=by omega
 rw[show ei (c.sl*c.ns) ((0+c.off 8:Nat):Int) (du c.words.toNat)=C (((0+c.off 8:Nat):Int),0,((0+c.off 8+(c.sl*c.ns).toNat:Nat):Int))from by
  conv=>lhs;rw[esn]
  exact aG9 (by omega) (by omega)]
 simp only[wA];rw[zB (by simp),yD,gdz (by omega),show List.replicate (c.sl*c.ns).toNat (0:Int)=du (c.sl*c.ns).toNat from rfl,ac5 (by rw[er];exact aD _) (by omega) (by omega),bD];simp only[wA,cq];have etk:((c.off 8+(c.sl*c.ns).toNat:Nat):Int)=c.tk:=by unfold Cx.tk;omega
 rw[etk,bD8 (ii:=0) (i:=0) h w0 rfl (by omega) (aD _)];simp only[wA];rw[bD8 (ii:=1) (i:=1) h w1 rfl (by omega) (aD _)];simp only[wA];have ef:(0:Int)+c.fixed=c.fixed:=by omega
 have em:max (0:Int) c.fixed=c.fixed:=by omega
 rw[ef,em];rfl
theorem do4 (h:c.Ok)(hm:c.mode=3):InvB c (new1 c):=by
 have f:=wZ h;have n:=h.num;have nl:=n.len;refine⟨(bi1 h aN3).2.1,rfl,⟨aB _,by show 0<=c.len;omega⟩,⟨by show(-1:Int)<= -1;omega,by show(-1:Int)<=c.len;omega⟩,λhq=> ?_, ?_,⟨aB _,f.2.1⟩⟩
 .have hq:(0:Int)<= -1:=hq;omega
 .show c.fixed=c.fixed+c.sl*0;omega
theorem bV9 (h:c.Ok)(hm:c.mode≠3){k:Nat}(hk:k<c.ns.toNat):gm c (new2 c).W k=0:=by
 have h9:=h.off9_le;have nw:=h.num.words;have h89:c.off 9=c.off 8+(c.sl*c.ns).toNat:=bx2;have w0:Wd c (put (du c.words.toNat) (c.off 8) (du (c.sl*c.ns).toNat)):=(aN3 (c:=c)).put h (by rw[er];omega);obtain⟨w1,w2,w3⟩:=bi1 h w0;show gm c (cx0 c _) k=0;rw[w3.tag];obtain⟨s1,_,_⟩:=ai0 h hm hk;unfold gm rg;rw[Int.toNat_natCast,List.getD_eq_getElem?_getD,aT8 (by rw[er,er];omega)];unfold du;split
 .rw[cB];split<;>rfl
 .rw[cB];split<;>rfl
theorem do5 (h:c.Ok)(hm:c.mode≠3):Inv c (new2 c):=by
 have f:=wZ h;have n:=h.num;have nl:=n.len;have nw:=n.words;have h9:=h.off9_le;have h89:c.off 9=c.off 8+(c.sl*c.ns).toNat:=bx2;have w0:Wd c (put (du c.words.toNat) (c.off 8) (du (c.sl*c.ns).toNat)):=(aN3 (c:=c)).put h (by rw[er];omega)
 have hu:jf c (new2 c).W=0:=by
  unfold jf;rw[List.countP_eq_zero];intro k hk;rw[bV9 h hm (List.mem_range.1 hk)];decide
 refine⟨(bi1 h w0).2.1,⟨by show 0<=c.len;omega,by show c.len<=65535;omega⟩,⟨aB _,by show 0<=c.len;omega⟩,⟨by show(-1:Int)<= -1;omega,by show(-1:Int)<=c.len;omega⟩,λk hk=> ?_, ?_,⟨aB _,f.2.1⟩⟩
 .rw[bV9 h hm hk];exact⟨aB _,by show(0:Int)<=c.len+1;omega⟩
 .rw[hu];show c.fixed=c.fixed+c.sl*0;omega
end
end
end Go.V
