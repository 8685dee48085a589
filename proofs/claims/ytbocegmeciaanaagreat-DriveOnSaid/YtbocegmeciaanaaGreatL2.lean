/- A part of the proofs of this claim: what functions of the program answer on an abstract machine, and plain laws. No condition. -/
import Derived.Test.YtbocegmeciaanaaGreatL1
set_option linter.unusedVariables false
set_option linter.unusedSimpArgs false
set_option linter.unusedSectionVars false
namespace Go.V
open Go.Ab
set_option maxRecDepth 100000
theorem we (f:Nat→Int): ∀{j:Nat},j<8→List.getD [f 0,f 1,f 2,f 3,f 4,f 5,f 6,f 7] j 0=f j
 |0,_=>rfl
 |1,_=>rfl
 |2,_=>rfl
 |3,_=>rfl
 |4,_=>rfl
 |5,_=>rfl
 |6,_=>rfl
 |7,_=>rfl
 |n+8,h=>by omega
def app (o:ec)(x y:Int):Int:=
 if o.1=1 then IntKind.u64.wrap (x+y)else if o.1=2 then IntKind.u64.wrap (x-y)else if o.1=3 then IntKind.u64.wrap (x*y)else if o.1=4 then IntKind.u64.wrap (0-x)else if o.1=5 then o.2.2.2.2 else if o.1=6 then x else 0
theorem aE1 (o:ec)(x y:Int):rb o.1 o.2.1 o.2.2.1 o.2.2.2.1 o.2.2.2.2 x y=some (app o x y):=by
 unfold rb app;simp only[ck]
 repeat' split
 all_goals rfl
def inR (R:Nat)(o:ec):Prop:=(0≤o.2.1∧o.2.1<R)∧(0≤o.2.2.1∧o.2.2.1<R)∧0≤o.2.2.2.1∧o.2.2.2.1<R
theorem aP8 {R:Nat}{o:ec}(h:inR R o): ∃d a b:Nat,o.2.1=d∧o.2.2.1=a∧o.2.2.2.1=b∧d<R∧a<R∧b<R:=by
 unfold inR at h;exact⟨o.2.1.toNat,o.2.2.1.toNat,o.2.2.2.1.toNat,by omega,by omega,by omega,by omega,by omega,by omega⟩
def rg (r:List Int)(k:Int):Int:=r.getD k.toNat 0
theorem jx {r:List Int}{k:Nat}(h:k<r.length):r[k]?=some (rg r (k:Int)):=by
 unfold rg;rw[Int.toNat_natCast,List.getElem?_eq_getElem h,List.getD_eq_getElem?_getD,List.getElem?_eq_getElem h];rfl
abbrev TS :=List Int×List Int×Nat
def cp4 (o:ec)(s:TS):TS:=(s.1.set o.2.1.toNat (app o (rg s.1 o.2.2.1) (rg s.1 o.2.2.2.1)),s.2.1.set s.2.2 (rg s.1 o.2.1),s.2.2+1)
def VdT (R N:Nat)(m:Nat)(s:TS):Prop:=s.1.length=R∧s.2.1.length=N∧s.2.2+m≤N
def stT (p d:Nat)(l:Nat→Int)(s:TS):Int×Int×Int×(List Int)×(List Int)×Int×Int×Int×Int×Int×Int×Int×Int:=
 ((p:Int),(s.2.2:Int),(d:Int),s.1,s.2.1,l 0,l 1,l 2,l 3,l 4,l 5,l 6,l 7)
theorem mq {code:List vF}{p:Nat}{x:vF}(hc:code.length≤1000)(h:code[p]?=some x):p<code.length∧ix (p:Int) code.length=some p:=by
 have:=(List.getElem?_eq_some_iff.1 h).1;exact⟨this,dk this⟩
theorem bV4 {code:List vF}(hc:code.length≤1000){R N:Nat}(hN:N≤1000000):Runs (lz code) code stT cp4 (VdT R N) (inR R)where
 op:=by
  intro p d l s m o to h hg hk hd hv;obtain⟨h1,h2⟩:=mq hc h;obtain⟨kd,ka,kb,e1,e2,e3,g1,g2,g3⟩:=aP8 hg;obtain⟨v1,v2,v3⟩:=hv;refine⟨?_,by unfold cp4;exact⟨by simp[v1],by simp[v2],by show s.2.2+1+m≤N;omega⟩⟩;unfold stT cp4;simp only[lz];rw[decide_eq_false (by omega),cond_false,h2];simp only[Option.bind_some];rw[h];simp only[Option.bind_some,dq];rw[decide_eq_false (by omega),cond_false,decide_eq_false (by omega),cond_false];simp only[aE1,Option.bind_some];rw[e1,e2,e3,dk (show kd<s.1.length by omega)];simp only[Option.bind_some];rw[jx (show kd<s.1.length by omega)];simp only[Option.bind_some];rw[dk (show s.2.2<s.2.1.length by omega)];simp only[Option.bind_some];rw[jx (show s.2.2<s.2.1.length by omega)];simp only[Option.bind_some];rw[dk (show ka<s.1.length by omega)];simp only[Option.bind_some];rw[jx (show ka<s.1.length by omega)];simp only[Option.bind_some];rw[dk (show kb<s.1.length by omega)];simp only[Option.bind_some];rw[jx (show kb<s.1.length by omega)]
  simp only[Option.bind_some];rw[bD (n:=(p:Int)+1) (by omega),bD (n:=(s.2.2:Int)+1) (by omega)];rfl
 rep:=by
  intro p d l s m o to h hk hd hv;obtain⟨h1,h2⟩:=mq hc h;unfold stT;simp only[lz];rw[decide_eq_false (by omega),cond_false,h2];simp only[Option.bind_some];rw[h];simp only[Option.bind_some,dq];rw[decide_eq_true hk,cond_true,dk hd];simp only[Option.bind_some];rw[bD (n:=(p:Int)+1) (by omega),bD (n:=(d:Int)+1) (by omega)];rfl
 nxt:=by
  intro p d l s m e to h hk hd hl hl2 hv;obtain⟨h1,h2⟩:=mq hc h;have h8:=we (upd l d (l d-1)) hd;rw[qF]at h8;unfold upd at h8;unfold stT;simp only[lz];rw[decide_eq_false (by omega),cond_false,h2];simp only[Option.bind_some];rw[h];simp only[Option.bind_some,dq];rw[decide_eq_false (by omega),cond_false,decide_eq_true hk,cond_true,bD (n:=((d+1:Nat):Int)-1) (by omega),show((d+1:Nat):Int)-1=(d:Int)by omega,dk hd];simp only[Option.bind_some];rw[we l hd,ga (by omega),h8,decide_eq_true (by omega),cond_true];rfl
 out:=by
  intro p d l s m e to h hk hd hl hv;obtain⟨h1,h2⟩:=mq hc h;have h8:=we (upd l d (l d-1)) hd;rw[qF]at h8;unfold upd at h8;unfold stT;simp only[lz];rw[decide_eq_false (by omega),cond_false,h2];simp only[Option.bind_some];rw[h];simp only[Option.bind_some,dq];rw[decide_eq_false (by omega),cond_false,decide_eq_true hk,cond_true,bD (n:=((d+1:Nat):Int)-1) (by omega),show((d+1:Nat):Int)-1=(d:Int)by omega,dk hd];simp only[Option.bind_some];rw[we l hd,ga (by omega),h8,decide_eq_false (by omega),cond_false,bD (n:=(p:Int)+1) (by omega)];rfl
abbrev FS :=List Int×Nat
def cp3 (o:ec)(s:FS):FS:=(s.1.set o.2.1.toNat (app o (rg s.1 o.2.2.1) (rg s.1 o.2.2.2.1)),s.2+1)
def VdF (R M:Nat)(m:Nat)(s:FS):Prop:=s.1.length=R∧s.2+m≤M
def stF (p d:Nat)(l:Nat→Int)(s:FS):Int×Int×Int×(List Int)×Int×Int×Int×Int×Int×Int×Int×Int:=
 ((p:Int),(s.2:Int),(d:Int),s.1,l 0,l 1,l 2,l 3,l 4,l 5,l 6,l 7)
theorem ce6 {code:List vF}(hc:code.length≤1000){R M:Nat}(hM:M≤1000000):Runs (i3 (-1) code) code stF cp3 (VdF R M) (inR R)where
 op:=by
  intro p d l s m o to h hg hk hd hv;obtain⟨h1,h2⟩:=mq hc h;obtain⟨kd,ka,kb,e1,e2,e3,g1,g2,g3⟩:=aP8 hg;obtain⟨v1,v2⟩:=hv;refine⟨?_,by unfold cp3;exact⟨by simp[v1],by show s.2+1+m≤M;omega⟩⟩;unfold stF cp3;simp only[i3];rw[decide_eq_false (show¬((p:Int)=(code.length:Int))by omega),cond_false,decide_eq_false (show¬((s.2:Int)= -1)by omega),cond_false,h2];simp only[Option.bind_some];rw[h];simp only[Option.bind_some,dq];rw[decide_eq_false (by omega),cond_false,decide_eq_false (by omega),cond_false];simp only[aE1,vy,Option.bind_some];rw[e1,e2,e3,dk (show ka<s.1.length by omega)];simp only[Option.bind_some];rw[jx (show ka<s.1.length by omega)];simp only[Option.bind_some];rw[dk (show kb<s.1.length by omega)];simp only[Option.bind_some];rw[jx (show kb<s.1.length by omega)];simp only[Option.bind_some];rw[dk (show kd<s.1.length by omega)];simp only[Option.bind_some];rw[jx (show kd<s.1.length by omega)];simp only[Option.bind_some]
  rw[bD (n:=(p:Int)+1) (by omega),bD (n:=(s.2:Int)+1) (by omega)];rfl
 rep:=by
  intro p d l s m o to h hk hd hv;obtain⟨h1,h2⟩:=mq hc h;unfold stF;simp only[i3];rw[decide_eq_false (show¬((p:Int)=(code.length:Int))by omega),cond_false,decide_eq_false (show¬((s.2:Int)= -1)by omega),cond_false,h2];simp only[Option.bind_some];rw[h];simp only[Option.bind_some,dq];rw[decide_eq_true hk,cond_true,dk hd];simp only[Option.bind_some];rw[bD (n:=(p:Int)+1) (by omega),bD (n:=(d:Int)+1) (by omega)];rfl
 nxt:=by
  intro p d l s m e to h hk hd hl hl2 hv;obtain⟨h1,h2⟩:=mq hc h;have h8:=we (upd l d (l d-1)) hd;rw[qF]at h8;unfold upd at h8;unfold stF;simp only[i3];rw[decide_eq_false (show¬((p:Int)=(code.length:Int))by omega),cond_false,decide_eq_false (show¬((s.2:Int)= -1)by omega),cond_false,h2];simp only[Option.bind_some];rw[h];simp only[Option.bind_some,dq];rw[decide_eq_false (by omega),cond_false,decide_eq_true hk,cond_true,bD (n:=((d+1:Nat):Int)-1) (by omega),show((d+1:Nat):Int)-1=(d:Int)by omega,dk hd];simp only[Option.bind_some];rw[we l hd,ga (by omega),h8,decide_eq_true (by omega),cond_true];rfl
 out:=by
  intro p d l s m e to h hk hd hl hv;obtain⟨h1,h2⟩:=mq hc h;have h8:=we (upd l d (l d-1)) hd;rw[qF]at h8;unfold upd at h8;unfold stF;simp only[i3];rw[decide_eq_false (show¬((p:Int)=(code.length:Int))by omega),cond_false,decide_eq_false (show¬((s.2:Int)= -1)by omega),cond_false,h2];simp only[Option.bind_some];rw[h];simp only[Option.bind_some,dq];rw[decide_eq_false (by omega),cond_false,decide_eq_true hk,cond_true,bD (n:=((d+1:Nat):Int)-1) (by omega),show((d+1:Nat):Int)-1=(d:Int)by omega,dk hd];simp only[Option.bind_some];rw[we l hd,ga (by omega),h8,decide_eq_false (by omega),cond_false,bD (n:=(p:Int)+1) (by omega)];rfl
def par (o:ec)(x y:Int):Int×Int:=
 if o.1=1 then(1,1)else if o.1=2 then(1,18446744073709551615)else if o.1=3 then(y,x)else if o.1=4 then(18446744073709551615,0)else if o.1=6 then(1,0)else(0,0)
theorem af2 (o:ec)(x y:Int):jB o.1 o.2.1 o.2.2.1 o.2.2.2.1 o.2.2.2.2 x y=some (par o x y):=by
 unfold jB par;simp only[ck]
 repeat' split
 all_goals rfl
def bA0 (o:ec)(r a:List Int)(t:Int):List Int×List Int:=
 let g:=rg a o.2.1
 let r1:=r.set o.2.1.toNat t
 let a1:=a.set o.2.1.toNat 0
 let q:=par o (rg r1 o.2.2.1) (rg r1 o.2.2.2.1)
 let a2:=a1.set o.2.2.1.toNat (IntKind.u64.wrap (rg a1 o.2.2.1+IntKind.u64.wrap (q.1*g)))
 (r1,a2.set o.2.2.2.1.toNat (IntKind.u64.wrap (rg a2 o.2.2.2.1+IntKind.u64.wrap (q.2*g))))
theorem bK5 {o:ec}{r a t:List Int}{n:Nat}(hg:inR r.length o)(ha:a.length=r.length)(hn:n<t.length):
  ql o.1 o.2.1 o.2.2.1 o.2.2.2.1 o.2.2.2.2 (n:Int) r a t=some (bA0 o r a (rg t (n:Int))):=by
 obtain⟨kd,ka,kb,e1,e2,e3,g1,g2,g3⟩:=aP8 hg;unfold ql;simp only[af2,Option.bind_some];unfold bA0;simp only[e1,e2,e3,Int.toNat_natCast];rw[dk (show kd<a.length by omega)];simp only[Option.bind_some];rw[jx (show kd<a.length by omega)];simp only[Option.bind_some];rw[dk hn];simp only[Option.bind_some];rw[jx hn];simp only[Option.bind_some];rw[dk g1];simp only[Option.bind_some];rw[jx g1];simp only[Option.bind_some];have hr1: ∀x:Int,(r.set kd x).length=r.length:=by simp
 have ha1:(a.set kd 0).length=a.length:=by simp
 rw[dk (show ka<(r.set kd (rg t (n:Int))).length by rw[hr1];omega)];simp only[Option.bind_some];rw[jx (show ka<(r.set kd (rg t (n:Int))).length by rw[hr1];omega)];simp only[Option.bind_some];rw[dk (show kb<(r.set kd (rg t (n:Int))).length by rw[hr1];omega)];simp only[Option.bind_some];rw[jx (show kb<(r.set kd (rg t (n:Int))).length by rw[hr1];omega)];simp only[Option.bind_some];rw[dk (show ka<(a.set kd 0).length by omega)];simp only[Option.bind_some];rw[jx (show ka<(a.set kd 0).length by omega)];simp only[Option.bind_some];generalize hP:par o _ _=P;generalize hA:(a.set kd 0).set ka _=A2;have hA2:A2.length=a.length:=by rw[←hA];simp
 rw[dk (show kb<A2.length by omega)];simp only[Option.bind_some];rw[jx (show kb<A2.length by omega)];simp only[Option.bind_some]
abbrev BS :=List Int×List Int×Nat
def bK0 (t:List Int)(o:ec)(s:BS):BS:=((bA0 o s.1 s.2.1 (rg t ((s.2.2-1:Nat):Int))).1,(bA0 o s.1 s.2.1 (rg t ((s.2.2-1:Nat):Int))).2,s.2.2-1)
def VdB (R N:Nat)(m:Nat)(s:BS):Prop:=s.1.length=R∧s.2.1.length=R∧m≤s.2.2∧s.2.2≤N
def stB (p d:Nat)(l:Nat→Int)(s:BS):Int×Int×Int×(List Int)×(List Int)×Int×Int×Int×Int×Int×Int×Int×Int:=
 ((p:Int)-1,(d:Int),(s.2.2:Int),s.1,s.2.1,l 0,l 1,l 2,l 3,l 4,l 5,l 6,l 7)
theorem bA1 (o:ec)(r a:List Int)(t:Int):(bA0 o r a t).1.length=r.length∧(bA0 o r a t).2.length=a.length:=by
 unfold bA0;simp
theorem cy7 {code:List vF}(hc:code.length≤1000){R:Nat}{t:List Int}(hN:t.length≤1000000):Backs (gy t code) code stB (bK0 t) (VdB R t.length) (inR R)where
 op:=by
  intro p d l s m o to h hg hk hd hv;obtain⟨h1,h2⟩:=mq hc h;obtain⟨v1,v2,v3,v4⟩:=hv;obtain⟨q1,q2⟩:=bA1 o s.1 s.2.1 (rg t ((s.2.2-1:Nat):Int));refine⟨?_,by unfold bK0;exact⟨by simp[v1,q1],by simp[v2,q2],by show m≤s.2.2-1;omega,by show s.2.2-1≤_;omega⟩⟩;unfold stB bK0;simp only[gy];rw[show((p+1:Nat):Int)-1=(p:Int)by omega,decide_eq_false (by omega),cond_false,h2];simp only[Option.bind_some];rw[h];simp only[Option.bind_some,dq];rw[decide_eq_false (by omega),cond_false,decide_eq_false (by omega),cond_false,bD (n:=(s.2.2:Int)-1) (by omega),show(s.2.2:Int)-1=((s.2.2-1:Nat):Int)by omega,bK5 (by rw[v1];exact hg) (by omega) (by omega)];simp only[Option.bind_some];rw[bD (n:=(p:Int)-1) (by omega)]
 rep:=by
  intro p q d l s m o e to h hk h' hd hv;obtain⟨h1,h2⟩:=mq hc h;obtain⟨h3,h4⟩:=mq hc h';unfold stB;simp only[gy];rw[show((p+1:Nat):Int)-1=(p:Int)by omega,decide_eq_false (by omega),cond_false,h2];simp only[Option.bind_some];rw[h];simp only[Option.bind_some,dq];rw[decide_eq_true hk,cond_true,bD (n:=((q+1:Nat):Int)-1) (by omega),show((q+1:Nat):Int)-1=(q:Int)by omega,h4];simp only[Option.bind_some];rw[h'];simp only[Option.bind_some,dq];rw[dk hd];simp only[Option.bind_some];rw[bD (n:=(p:Int)-1) (by omega),bD (n:=(d:Int)+1) (by omega)];rfl
 nxt:=by
  intro p d l s m o to h hto hk hd hl hl2 hv;obtain⟨h1,h2⟩:=mq hc h;have h8:=we (upd l d (l d-1)) hd;rw[qF]at h8;unfold upd at h8;unfold stB;simp only[gy];rw[show((p+1:Nat):Int)-1=(p:Int)by omega,decide_eq_false (by omega),cond_false,h2];simp only[Option.bind_some];rw[h];simp only[Option.bind_some,dq];rw[decide_eq_false (by omega),cond_false,decide_eq_true hk,cond_true,bD (n:=((d+1:Nat):Int)-1) (by omega),show((d+1:Nat):Int)-1=(d:Int)by omega,dk hd];simp only[Option.bind_some];rw[we l hd,ga (by omega),h8,decide_eq_true (by omega),cond_true];rw[bD (n:=((to+1:Nat):Int)-2) (by omega),show((to+1:Nat):Int)-2=(to:Int)-1 by omega];rfl
 out:=by
  intro p d l s m o to h hk hd hl hv;obtain⟨h1,h2⟩:=mq hc h;have h8:=we (upd l d (l d-1)) hd;rw[qF]at h8;unfold upd at h8;unfold stB;simp only[gy];rw[show((p+1:Nat):Int)-1=(p:Int)by omega,decide_eq_false (by omega),cond_false,h2];simp only[Option.bind_some];rw[h];simp only[Option.bind_some,dq];rw[decide_eq_false (by omega),cond_false,decide_eq_true hk,cond_true,bD (n:=((d+1:Nat):Int)-1) (by omega),show((d+1:Nat):Int)-1=(d:Int)by omega,dk hd];simp only[Option.bind_some];rw[we l hd,ga (by omega),h8,decide_eq_false (by omega),cond_false,bD (n:=(p:Int)-1) (by omega)];rfl
theorem cy8 {w v c:Int}{n:Nat}(h:xV w v=some c)(hv:0≤v)(hw:w=(n:Int)):c=((n*v.toNat:Nat):Int):=by
 have hvv:((v.toNat:Nat):Int)=v:=Int.toNat_of_nonneg hv;rw[Int.natCast_mul,hvv,←hw];unfold xV at h;split at h
 ·rename_i hz;injection h with h
  rw[hz,Int.zero_mul,h]
 split at h
 ·cases h
 split at h
 ·cases h
 ·injection h with h
  exact h.symm
def cp8 (l:List ec)(m S:List Int):Prop:=m.length=l.length∧S.length=l.length∧∀(A B:List ec) (o e:ec) (b:Fo),l=A++o::(b.src++e::B)→b.Ok→o.1=7→e.1=0→
 m[A.length]?=some ((A.length+1+b.len:Nat):Int)∧S[A.length]?=some ((b.n*xB o:Nat):Int)
theorem cz5 {l:List ec}{m S R:List Int}(hm:MOK l m)(hS:S.length=l.length)(hv: ∀o∈l,okV o)(h: ∀j,j<l.length→∃a b,S[j]?=some a∧R[j]?=some b∧cr5 l j a b):cp8 l m S:=by
 refine⟨hm.len,hS,fun A B o e b hl hb ho he=> ?_⟩;have hlen:l.length=A.length+1+(b.len+(B.length+1)):=by rw[hl];simp[Fo.src_len];omega
 have hlt:A.length<l.length:=by omega
 have hget:l[A.length]=o:=by
  have:l[A.length]?=some o:=by rw[hl,List.getElem?_append_right (Nat.le_refl _),Nat.sub_self];rfl
  rw[List.getElem?_eq_getElem hlt]at this;injection this
 have hd:l.drop (A.length+1)=b.src++e::B:=by rw[hl,List.drop_append,List.drop_of_length_le (by omega),show A.length+1-A.length=1 by omega];rfl
 refine⟨?_, ?_⟩
 ·have:=hm.at' A.length hlt (by rw[hget];exact ho) b.src e B hd he (Fo.scan0 hb);rw[Fo.src_len]at this;exact this
 ·obtain⟨a,c,h1,h2,h3⟩:=h A.length hlt;obtain⟨h4,h5⟩:=(h3 hlt).1 (by rw[hget];exact ho) b.src e B hd he (Fo.scan0 hb);have hmem: ∀x∈b.src,0≤x.2.2.2.2:=fun x hx=>(hv x (by rw[hl];simp[hx])).1
  have e1:=Fo.Q9_n b hb hmem h4;rw[hget]at h5;rw[h1,cy8 h5 (hv o (by rw[hl];simp)).1 e1];rfl
section
variable {l:List ec} {m S:List Int} {em es:Int}
theorem cz3 {i:Nat}{op:List Int}{out:List vF}(hl:l.length≤1000)(ho:out.length≤1000){x:ec}(hx:l[i]?=some x)(hk:0<x.1∧x.1<7):
  gt l (em,m) (es,S) ((i:Int),op,out)=some (.inl (((i+1:Nat):Int),op,out++[dq x 0])):=by
 obtain⟨hi,hg⟩:=List.getElem?_eq_some_iff.1 hx;simp only[gt];rw[decide_eq_true (show(i:Int)<(l.length:Int)by omega),cond_true,iz hi,hg];simp only[Option.bind_some];rw[decide_eq_false (show¬x.1=7 by omega),decide_eq_false (show¬x.1=0 by omega)];simp only[cond_false,Option.bind_some,dw];rw[gv (by omega) (by omega),bD (by omega)];rfl
theorem cj5 {i j:Nat}{op:List Int}{out:List vF}(hl:l.length≤1000){x:ec}(hx:l[i]?=some x)(hk:x.1=7)(hs:S[i]?=some 0)(hm:m[i]?=some (j:Int))(hj:j≤1000):
  gt l (em,m) (es,S) ((i:Int),op,out)=some (.inl (((j+1:Nat):Int),op,out)):=by
 obtain⟨hi,hg⟩:=List.getElem?_eq_some_iff.1 hx;obtain⟨hi2,_⟩:=List.getElem?_eq_some_iff.1 hs;obtain⟨hi3,_⟩:=List.getElem?_eq_some_iff.1 hm;simp only[gt];rw[decide_eq_true (show(i:Int)<(l.length:Int)by omega),cond_true,iz hi,hg];simp only[Option.bind_some];rw[decide_eq_true hk];simp only[cond_true];rw[dk hi2];simp only[Option.bind_some];rw[hs];simp only[Option.bind_some,kf];rw[decide_true,cond_true,dk hi3];simp only[Option.bind_some];rw[hm];simp only[Option.bind_some,kf];rw[bD (by omega)];rfl
theorem cj4 {i:Nat}{n:Int}{op:List Int}{out:List vF}(hl:l.length≤1000)(ho:out.length≤1000)(hp:op.length≤1000){x:ec}(hx:l[i]?=some x)(hk:x.1=7)(hs:S[i]?=some n)(hn:n≠0):
  gt l (em,m) (es,S) ((i:Int),op,out)=some (.inl (((i+1:Nat):Int),op++[(out.length:Int)],out++[dq x 0])):=by
 obtain⟨hi,hg⟩:=List.getElem?_eq_some_iff.1 hx;obtain⟨hi2,_⟩:=List.getElem?_eq_some_iff.1 hs;simp only[gt];rw[decide_eq_true (show(i:Int)<(l.length:Int)by omega),cond_true,iz hi,hg];simp only[Option.bind_some];rw[decide_eq_true hk];simp only[cond_true];rw[dk hi2];simp only[Option.bind_some];rw[hs];simp only[Option.bind_some,kf];rw[decide_eq_false hn,cond_false,gv (by omega) (by omega)];simp only[Option.bind_some,kf,dw];rw[gv (by omega) (by omega),bD (by omega)];rfl
theorem bZ3 {i q:Nat}{op:List Int}{out:List vF}{o:ec}{t:Nat}(hl:l.length≤1000)(ho:out.length≤1000)(hp:op.length≤1000){x:ec}(hx:l[i]?=some x)(hk:x.1=0)(hq:out[q]?=some (dq o t)):
  gt l (em,m) (es,S) ((i:Int),op++[(q:Int)],out)=some (.inl (((i+1:Nat):Int),op,out.set q (dq o (out.length+1))++[dq x (q+1)])):=by
 obtain⟨hi,hg⟩:=List.getElem?_eq_some_iff.1 hx;obtain⟨hq1,_⟩:=List.getElem?_eq_some_iff.1 hq;have hlen:(op++[(q:Int)]).length=op.length+1:=by simp
 simp only[gt];rw[decide_eq_true (show(i:Int)<(l.length:Int)by omega),cond_true,iz hi,hg];simp only[Option.bind_some];rw[decide_eq_false (show¬x.1=7 by omega),decide_eq_true hk];simp only[cond_false,cond_true,Option.bind_some,dw];rw[bD (n:=((op++[(q:Int)]).length:Int)-1) (by omega),show((op++[(q:Int)]).length:Int)-1=(op.length:Int)by omega,dk (show op.length<(op++[(q:Int)]).length by omega)];simp only[Option.bind_some];rw[List.getElem?_append_right (Nat.le_refl _),Nat.sub_self];simp only[List.getElem?_cons_zero,Option.bind_some];rw[kg (by omega),gw,dk hq1];simp only[Option.bind_some];rw[hq];simp only[Option.bind_some];rw[gv (by simp;omega) (by omega)];simp only[Option.bind_some,kf,dw]
 have htk:(op++[(q:Int)]).take ((op.length:Int).toNat-0)=op:=by
  rw[show(op.length:Int).toNat-0=op.length by omega,List.take_left'];rfl
 rw[htk,bD (n:=(i:Int)+1) (by omega),bD (n:=(out.length:Int)+1) (by omega),bD (n:=(q:Int)+1) (by omega)];rfl
theorem aW0 (hl:l.length≤1000)(hK:cp8 l m S): ∀(f:Fo) (A B:List ec) (op:List Int) (out:List vF),l=A++f.src++B→f.Ok→op.length≤A.length→out.length≤A.length→
  ∃k,k≤f.len∧Reach (gt l (em,m) (es,S)) k ((A.length:Int),op,out) (((A.length+f.len:Nat):Int),op,out++f.bare.code out.length)
 | .nil,A,B,op,out,hs,_,_,_=>by
  refine⟨0,Nat.le_refl _, ?_⟩;simp only[Fo.bare,Fo.code,Fo.len,List.append_nil,Nat.add_zero];exact Reach.refl
 | .op o r,A,B,op,out,hs,hk,hp,ho=>by
  have hA:(A++[o]).length=A.length+1:=by simp
  have hll:l.length=A.length+(r.len+1)+B.length:=by rw[hs];simp[Fo.src,Fo.src_len];omega
  have hx:l[A.length]?=some o:=by rw[hs,List.append_assoc,List.getElem?_append_right (Nat.le_refl _),Nat.sub_self];rfl
  obtain⟨k,k1,k2⟩:=aW0 hl hK r (A++[o]) B op (out++[dq o 0]) (by rw[hs];simp[Fo.src]) hk.2 (by omega) (by simp;omega);refine⟨1+k,by simp only[Fo.len];omega, ?_⟩;have h1:=(Reach.one (cz3 (em:=em) (es:=es) (op:=op) (out:=out) hl (by omega) hx hk.1)).trans (show Reach _ k _ _ from by rw[hA]at k2;exact k2);simp only[Fo.bare,Fo.code,Fo.len];rw[show A.length+(r.len+1)=A.length+1+r.len by omega];rw[List.append_assoc,List.length_append]at h1;exact h1
 | .rep o b e r,A,B,op,out,hs,hk,hp,ho=>by
  obtain⟨⟨k1,k2⟩,k3,k4⟩:=hk;have hll:l.length=A.length+(b.len+r.len+2)+B.length:=by rw[hs];simp[Fo.src,Fo.src_len];omega
  have hx:l[A.length]?=some o:=by rw[hs,List.append_assoc,List.getElem?_append_right (Nat.le_refl _),Nat.sub_self];rfl
  obtain⟨hm,hS⟩:=hK.2.2 A (r.src++B) o e b (by rw[hs];simp[Fo.src]) k3 k1 k2;have hAe:(A++o::b.src).length=A.length+1+b.len:=by simp[Fo.src_len];omega
  have hxe:l[A.length+1+b.len]?=some e:=by
   rw[show l=(A++o::b.src)++(e::(r.src++B))by rw[hs];simp[Fo.src],←hAe,List.getElem?_append_right (Nat.le_refl _),Nat.sub_self];rfl
  have hAr:(A++o::(b.src++[e])).length=A.length+1+b.len+1:=by simp[Fo.src_len];omega
  simp only[Fo.bare,Fo.len];by_cases hz:b.n*xB o=0
  ·rw[if_pos hz];rw[hz]at hS;obtain⟨k,g1,g2⟩:=aW0 hl hK r (A++o::(b.src++[e])) B op out (by rw[hs];simp[Fo.src]) k4 (by omega) (by omega);refine⟨1+k,by omega, ?_⟩;have h1:=(Reach.one (cj5 (em:=em) (es:=es) (op:=op) (out:=out) hl hx k1 hS hm (by omega))).trans (show Reach _ k _ _ from by rw[hAr]at g2;exact g2);rw[show A.length+(b.len+r.len+2)=A.length+1+b.len+1+r.len by omega];exact h1
  ·rw[if_neg hz];have hA:(A++[o]).length=A.length+1:=by simp
   obtain⟨kb,b1,b2⟩:=aW0 hl hK b (A++[o]) (e::(r.src++B)) (op++[(out.length:Int)]) (out++[dq o 0]) (by rw[hs];simp[Fo.src]) k3 (by simp;omega) (by simp;omega);rw[hA]at b2;have hbl:=b.bare_len;have hrl:=r.bare_len;have holen:(out++[dq o 0]++b.bare.code (out++[dq o 0]).length).length=out.length+1+b.bare.len:=by simp[Fo.code_len];omega
   have hq:(out++[dq o 0]++b.bare.code (out++[dq o 0]).length)[out.length]?=some (dq o 0):=by
    rw[List.append_assoc,List.getElem?_append_right (Nat.le_refl _),Nat.sub_self];rfl
   have h2:=bZ3 (em:=em) (es:=es) (m:=m) (S:=S) (op:=op) hl (by omega) (by omega) hxe k2 hq;rw[holen]at h2
   have hset:(out++[dq o 0]++b.bare.code (out++[dq o 0]).length).set out.length (dq o (out.length+1+b.bare.len+1))=out++dq o (out.length+1+b.bare.len+1)::b.bare.code (out.length+1):=by
    rw[List.append_assoc,List.set_append_right _ _ (Nat.le_refl _),Nat.sub_self,List.length_append];rfl
   rw[hset]at h2;obtain⟨k,g1,g2⟩:=aW0 hl hK r (A++o::(b.src++[e])) B op (out++dq o (out.length+1+b.bare.len+1)::b.bare.code (out.length+1)++[dq e (out.length+1)]) (by rw[hs];simp[Fo.src]) k4 (by omega) (by rw[hAr];simp[Fo.code_len];omega);rw[hAr]at g2;refine⟨1+kb+1+k,by omega, ?_⟩;have h1:=(((Reach.one (cj4 (em:=em) (es:=es) (m:=m) (op:=op) (out:=out) hl (by omega) (by omega) hx k1 hS (by omega))).trans b2).trans (Reach.one h2)).trans g2;rw[show A.length+(b.len+r.len+2)=A.length+1+b.len+1+r.len by omega]
   have e1:out++dq o (out.length+1+b.bare.len+1)::b.bare.code (out.length+1)++[dq e (out.length+1)]++r.bare.code (out++dq o (out.length+1+b.bare.len+1)::b.bare.code (out.length+1)++[dq e (out.length+1)]).length=out++(Fo.rep o b.bare e r.bare).code out.length:=by
    have hl3:(out++dq o (out.length+1+b.bare.len+1)::b.bare.code (out.length+1)++[dq e (out.length+1)]).length=out.length+b.bare.len+2:=by simp[Fo.code_len];omega
    rw[hl3];simp only[Fo.code];rw[show out.length+1+b.bare.len+1=out.length+b.bare.len+2 by omega];simp
   rw[e1]at h1;exact h1
end
theorem be6 {l:List ec}:zu l=(lx l).bind fun r=>some (r.2.1,r.2.2.1):=rfl
theorem bS3 {R:Int}{l:List ec}(h:ac8 R l=0):lk0 l=0∧lk1 R l=0∧lk2 l=0∧lk3 l=0:=by
 unfold ac8 at h;split at h
 ·omega
 split at h
 ·omega
 split at h
 ·omega
 ·omega
structure Prg (R:Int)(l:List ec)(f:Fo):Prop where
 ops:OpsOk l
 ok:f.Ok
 src:f.src=l
 z:ac8 R l=0
 R1:1≤R∧R≤64
 deep:f.hi≤8
 n:f.n≤65536
 w:ff l=((f.n:Int),0)
 regs: ∀o∈l,0<o.1∧o.1<7→inR R.toNat o
theorem cd7 {R:Int}{l:List ec}(h:OpsOk l)(hp:ac8 R l=0): ∃f,Prg R l f:=by
 obtain⟨h0,h1,h2,h3⟩:=bS3 hp
 have hform:aL9 l=true:=by
  unfold lk0 at h0;split at h0
  ·assumption
  ·omega
 have hregs:aE8 R l=true:=by
  unfold lk1 at h1;split at h1
  ·assumption
  ·omega
 unfold aL9 at hform;rw[Bool.and_eq_true,decide_eq_true_eq,Bool.not_eq_true']at hform;obtain⟨hs,hr⟩:=hform;unfold aE8 at hregs;rw[Bool.and_eq_true,decide_eq_true_eq,Bool.not_eq_true']at hregs;obtain⟨hR,ho⟩:=hregs;obtain⟨f,f1,f2⟩:=Fo.parse _ l (Nat.le_refl _) hs
 have hq: ∃t,Q9 l=some t∧t≤65536:=by
  unfold lk3 ff at h3;rw[if_pos hs]at h3;cases hq:Q9 l with
  |none=>rw[hq]at h3;cases h3
  |some t=>
   rw[hq]at h3;refine⟨t,rfl, ?_⟩;by_cases c:65536<t
   ·simp only[if_pos c]at h3;cases h3
   ·omega
 obtain⟨t,ht,hle⟩:=hq;have hn:t=(f.n:Int):=Fo.Q9_n f f1 (fun x hx=>(h.v x (f2▸hx)).1) (by rw[f2];exact ht);refine⟨f,h,f1,f2,hp,hR, ?_,by omega, ?_,fun o hm hk=> ?_⟩
 ·have h4:=Fo.hi_le f1;rw[f2]at h4;unfold lk2 aV5 at h2;rw[if_pos hs]at h2;by_cases c:(8:Int)<((hmax l 0 0:Nat):Int)
  ·simp only[if_pos c]at h2;cases h2
  ·omega
 ·unfold ff;rw[if_pos hs,ht];show(if 65536<t then((0:Int),(9:Int))else(t,0))=_;rw[if_neg (by omega),hn]
 ·have h5:=List.any_eq_false.1 hr o hm;have h6:=List.any_eq_false.1 ho o hm;have h5:uA o=true:=by simpa using h5
  have h6:bq5 R o=false:=by simpa using h6
  obtain⟨k,d,a,b,v⟩:=o;have hk:k=1∨k=2∨k=3∨k=4∨k=5∨k=6:=by simp only at hk;omega
  unfold inR
  rcases hk with rfl|rfl|rfl|rfl|rfl|rfl<;>
   ·simp[uA,ai7,dp]at h5;simp[bq5,dp]at h6;simp only;omega
theorem ar5 {R:Int}{l:List ec}{f:Fo}(hP:Prg R l f):pB R l=some (0,f.bare.code 0):=by
 unfold pB;rw[bd7 hP.ops];simp only[Option.bind_some];rw[hP.z,decide_eq_false (by simp),cond_false];have hl:=hP.ops.len;have hs:dg l 0=some 0:=by rw[←hP.src];exact Fo.scan0 hP.ok
 obtain⟨m,hm,hM⟩:=aO3 (l:=l) (by omega) hs;obtain⟨r,hr,r1,r2,r3⟩:=br9 (l:=l) (by omega) hP.ops.v;rw[hm,be6,hr];simp only[Option.bind_some];have hw:=hP.w;rcases r3 with⟨r3,_⟩|⟨_,_,r4,r5,r6⟩
 ·rw[hw]at r3;exact(r3 rfl).elim
 have hK:=cz5 hM r4 (fun o ho=>hP.ops.v o ho) r6;obtain⟨k,k1,k2⟩:=aW0 (em:=0) (es:=r.2.1) (by omega) hK f [] [] [] [] (by simp[hP.src]) hP.ok (by simp) (by simp);have hfl:f.len=l.length:=by rw[←Fo.src_len,hP.src]
 have h1:=k2 (18446744073709551616-k);rw[show 18446744073709551616-k+k=iJ by unfold iJ;omega,show 18446744073709551616-k=(18446744073709551615-k)+1 by omega]at h1
 have hloop:cw (gt l (0,m) (r.2.1,r.2.2.1)) iJ ((0:Int),([]:List Int),([]:List vF))=some (f.bare.code 0):=by
  refine h1.trans ?_;rw[et];simp only[gt];rw[decide_eq_false (by rw[hfl];simp),cond_false];rfl
 rw[hloop];rfl
theorem as4 {α γ:Type}{g:α→Option (α⊕γ)}{k:Nat}{s s':α}{c:γ}(h:Reach g k s s')(hk:k≤1000000000)(he:g s'=some (.inr c)):cw g iJ s=some c:=by
 have h1:=h (18446744073709551616-k);rw[show 18446744073709551616-k+k=iJ by unfold iJ;omega,show 18446744073709551616-k=(18446744073709551615-k)+1 by omega]at h1;refine h1.trans ?_;rw[et,he];rfl
section
variable {R:Int} {l:List ec} {f:Fo}
theorem Prg.len (h:Prg R l f):f.len≤100:=by
 have:=h.ops.len;rw[←Fo.src_len,h.src];exact this
theorem Prg.clen (h:Prg R l f):(f.bare.code 0).length≤1000:=by
 have h1:=h.len;have h2:=f.bare_len;rw[Fo.code_len];omega
theorem Prg.steps (h:Prg R l f):f.bare.steps≤1000000000:=by
 have h1:=Fo.steps_le f.bare f.bare_pos;rw[Fo.bare_n]at h1;have h2:=h.len;have h3:=f.bare_len;have h4:=h.n;have h5:(2*f.bare.len+1)*f.n≤201*65536:=Nat.mul_le_mul (by omega) h4;omega
theorem Prg.good (h:Prg R l f): ∀o∈f.bare.src,(0<o.1∧o.1<7→inR R.toNat o)∧okV o:=fun o ho=>by
 have:=Fo.bare_mem f ho;rw[h.src]at this;exact⟨h.regs o this,h.ops.v o this⟩
theorem Prg.hi (h:Prg R l f):0+f.bare.hi≤8:=by
 have h1:=h.deep;have h2:=f.bare_hi;omega
theorem Prg.writes (h:Prg R l f):ik l=some ((f.n:Int),0):=by
 rw[vt (by have:=h.ops.len;omega) h.ops.v,h.w]
def cq2 (R:Nat)(o:ec):Prop:=0<o.1∧o.1<7→inR R o
theorem bi8 {σ γ S:Type}{g:σ→Option (σ⊕γ)}{code:List vF}{st:Nat→Nat→(Nat→Int)→S→σ}{stp:ec→S→S}{Vd:Nat→S→Prop}{R:Nat}(h:Runs g code st stp Vd (inR R)):Runs g code st stp Vd (cq2 R):=
 ⟨fun h1 h2 h3 h4 h5=>h.op h1 (h2 h3) h3 h4 h5,h.rep,h.nxt,h.out⟩
theorem aU0 {σ γ S:Type}{g:σ→Option (σ⊕γ)}{code:List vF}{st:Nat→Nat→(Nat→Int)→S→σ}{stp:ec→S→S}{Vd:Nat→S→Prop}{R:Nat}(h:Backs g code st stp Vd (inR R)):Backs g code st stp Vd (cq2 R):=
 ⟨fun h1 h2 h3 h4 h5=>h.op h1 (h2 h3) h3 h4 h5,h.rep,h.nxt,h.out⟩
def ao3 (f:Fo)(r t:List Int):TS:=fwd cp4 f.unroll (r,t,0)
theorem bW1 (h:Prg R l f){r t:List Int}(hr:r.length=R.toNat)(ht:f.n≤t.length)(ht2:t.length≤1000000):
  xY (f.bare.code 0) r t=some (((ao3 f r t).2.2:Int),(ao3 f r t).1,(ao3 f r t).2.1)∧(ao3 f r t).1.length=R.toNat∧(ao3 f r t).2.1.length=t.length:=by
 obtain⟨l',_,h2,h3⟩:=aZ2 (m:=0) (l:=fun _=>0) (s:=((r,t,0):TS)) (d:=0) (p:=0) (A:=[]) (B:=[]) (bi8 (bV4 (R:=R.toNat) (N:=t.length) h.clen ht2)) f.bare (by simp) rfl (Fo.bare_ok f h.ok) f.bare_pos h.hi h.good ⟨hr,rfl,by rw[Fo.bare_n];show 0+(f.n+0)≤_;omega⟩;rw[Fo.bare_unroll]at h2 h3;refine⟨?_,h3.1,h3.2.1⟩;unfold xY
 have:=as4 h2 h.steps (c:=(((ao3 f r t).2.2:Int),(ao3 f r t).1,(ao3 f r t).2.1,l' 0,l' 1,l' 2,l' 3,l' 4,l' 5,l' 6,l' 7)) (by
  unfold stT;simp only[lz];rw[decide_eq_true (by rw[Fo.code_len];omega),cond_true]
  rfl)
 have e:stT 0 0 (fun _=>0) ((r,t,0):TS)=(0,0,0,r,t,0,0,0,0,0,0,0,0):=rfl;rw[e]at this;rw[this];rfl
theorem te (h:Prg R l f){r t:List Int}(hr:r.length=R.toNat)(ht:f.n≤t.length)(ht2:t.length≤1000000):
  om R l r t=some (((ao3 f r t).2.2:Int),0,(ao3 f r t).1,(ao3 f r t).2.1)∧(ao3 f r t).1.length=R.toNat∧(ao3 f r t).2.1.length=t.length:=by
 obtain⟨h1,h2,h3⟩:=bW1 h hr ht ht2;refine⟨?_,h2,h3⟩;unfold om zw;rw[ar5 h,h.writes];have hR:=h.R1;simp only[Option.bind_some];rw[decide_eq_false (show¬((0:Int)≠0)by simp),cond_false,decide_eq_false (show¬((r.length:Int)≠R)by omega),cond_false,decide_eq_false (show¬((t.length:Int)<(f.n:Int))by omega),cond_false];simp only[Option.bind_some];rw[decide_eq_false (show¬((0:Int)≠0)by simp),cond_false,h1];rfl
def bV2 (f:Fo)(r:List Int):List Int:=(fwd cp3 f.unroll (r,0)).1
theorem bp8 (h:Prg R l f){r:List Int}(hr:r.length=R.toNat):tw (-1) (f.bare.code 0) r=some (bV2 f r)∧(bV2 f r).length=R.toNat:=by
 obtain⟨l',_,h2,h3⟩:=aZ2 (m:=0) (l:=fun _=>0) (s:=((r,0):FS)) (d:=0) (p:=0) (A:=[]) (B:=[]) (bi8 (ce6 (R:=R.toNat) (M:=65536) h.clen (by omega))) f.bare (by simp) rfl (Fo.bare_ok f h.ok) f.bare_pos h.hi h.good ⟨hr,by rw[Fo.bare_n];show 0+(f.n+0)≤_;have:=h.n;omega⟩;rw[Fo.bare_unroll]at h2 h3;refine⟨?_,h3.1⟩;unfold tw
 have:=as4 h2 h.steps (c:=(bV2 f r,l' 0,l' 1,l' 2,l' 3,l' 4,l' 5,l' 6,l' 7)) (by
  unfold stF;simp only[i3];rw[decide_eq_true (by rw[Fo.code_len];omega),cond_true]
  rfl)
 have e:stF 0 0 (fun _=>0) ((r,0):FS)=(0,0,0,r,0,0,0,0,0,0,0,0):=rfl;rw[e]at this;rw[this];rfl
def fill (R:Int)(r:List Int):List Int:=r++List.replicate (R.toNat-r.length) 0
theorem tQ {R:Int}{r:List Int}(h:r.length≤R.toNat):(fill R r).length=R.toNat:=by
 unfold fill;rw[List.length_append,List.length_replicate];omega
theorem bR0 {R:Int}{r:List Int}(h:r.length≤R.toNat):aC1 (List.replicate R.toNat (0:Int)) 0 (List.replicate R.toNat (0:Int)).length r=fill R r:=by
 unfold aC1 fill;rw[List.length_replicate,List.take_zero,List.nil_append,Nat.zero_add,Nat.min_eq_right h,List.take_of_length_le h,List.drop_replicate]
theorem bx1 (h:Prg R l f){r:List Int}(hr:r.length≤R.toNat):qG R l r=some (0,bV2 f (fill R r))∧(bV2 f (fill R r)).length=R.toNat:=by
 obtain⟨h1,h2⟩:=bp8 h (tQ hr);refine⟨?_,h2⟩;have hR:=h.R1;unfold qG vz;rw[ar5 h];simp only[Option.bind_some];rw[decide_eq_false (show¬((0:Int)≠0)by simp),cond_false,decide_eq_false (show¬(R<(r.length:Int))by omega),cond_false,decide_eq_true (show 0≤R by omega),decide_eq_true (show R≤R by omega),decide_eq_true (show 8*R≤140737488355328 by omega),bR0 hr];show((gd true _).bind _)=_;rw[gw];simp only[Option.bind_some];rw[decide_eq_false (show¬((0:Int)≠0)by simp),cond_false,h1];rfl
def md (f:Fo)(r a t:List Int):BS:=bwd (bK0 t) f.unroll (r,a,f.n)
theorem bK4 (h:Prg R l f){r a t:List Int}(hr:r.length=R.toNat)(ha:a.length=R.toNat)(ht:f.n≤t.length)(ht2:t.length≤1000000):
  qk (f.n:Int) r a t (f.bare.code 0)=some ((md f r a t).1,(md f r a t).2.1)∧(md f r a t).1.length=R.toNat∧(md f r a t).2.1.length=R.toNat:=by
 obtain⟨l',_,h2,h3⟩:=aC0 (m:=0) (l:=fun _=>0) (s:=((r,a,f.n):BS)) (d:=0) (p:=0) (A:=[]) (B:=[]) (aU0 (cy7 (R:=R.toNat) (t:=t) h.clen ht2)) f.bare (by simp) rfl (Fo.bare_ok f h.ok) f.bare_pos h.hi h.good ⟨hr,ha,by rw[Fo.bare_n];exact Nat.le_refl _,ht⟩;rw[Fo.bare_unroll]at h2 h3;refine⟨?_,h3.1,h3.2.1⟩;unfold qk;have hl:=h.clen;rw[Fo.code_len]at hl
 have:=as4 h2 h.steps (c:=((md f r a t).1,(md f r a t).2.1,l' 0,l' 1,l' 2,l' 3,l' 4,l' 5,l' 6,l' 7)) (by
  unfold stB;simp only[gy];rw[decide_eq_true (by omega),cond_true]
  rfl)
 have e:stB (0+f.bare.len) 0 (fun _=>0) ((r,a,f.n):BS)=(IntKind.i64.wrap (((f.bare.code 0).length:Int)-1),0,(f.n:Int),r,a,0,0,0,0,0,0,0,0):=by
  unfold stB;rw[Fo.code_len,bD (by omega),Nat.zero_add];rfl
 rw[e]at this;rw[this];rfl
theorem rC (h:Prg R l f){r a t:List Int}(hr:r.length=R.toNat)(ha:a.length=R.toNat)(ht:f.n≤t.length)(ht2:t.length≤1000000):
  qj R l r a t=some (0,(md f r a t).1,(md f r a t).2.1)∧(md f r a t).1.length=R.toNat∧(md f r a t).2.1.length=R.toNat:=by
 obtain⟨h1,h2,h3⟩:=bK4 h hr ha ht ht2;refine⟨?_,h2,h3⟩;have hR:=h.R1;unfold qj;rw[ar5 h,h.writes];simp only[Option.bind_some];rw[decide_eq_false (show¬((0:Int)≠0)by simp),cond_false,decide_eq_false (show¬((r.length:Int)≠R)by omega),cond_false,decide_eq_false (show¬((a.length:Int)≠R)by omega),cond_false,decide_eq_false (show¬((t.length:Int)<(f.n:Int))by omega),cond_false,h1];rfl
end
def seg (W:List Int)(o n:Nat):List Int:=(W.drop o).take n
def put (W:List Int)(o:Nat)(w:List Int):List Int:=W.take o++(w++W.drop (o+w.length))
theorem aF3 (W:List Int)(o n i:Nat):(seg W o n)[i]?=if i<n then W[o+i]? else none:=by
 unfold seg;rw[List.getElem?_take];split
 ·rw[List.getElem?_drop]
 ·rfl
theorem br0 {W:List Int}{o:Nat}{w:List Int}(h:o+w.length≤W.length)(i:Nat):(put W o w)[i]?=if o≤i∧i<o+w.length then w[i-o]? else W[i]?:=by
 unfold put;have hl:(W.take o).length=o:=by rw[List.length_take];omega
 by_cases h1:i<o
 ·rw[List.getElem?_append_left (by omega),List.getElem?_take,if_pos h1,if_neg (by omega)]
 ·rw[List.getElem?_append_right (by omega),hl];by_cases h2:i<o+w.length
  ·rw[List.getElem?_append_left (by omega),if_pos ⟨by omega,h2⟩]
  ·rw[List.getElem?_append_right (by omega),List.getElem?_drop,if_neg (by omega)]
   congr 1
   omega
theorem iu {W:List Int}{o n:Nat}(h:o+n≤W.length):(seg W o n).length=n:=by
 unfold seg;rw[List.length_take,List.length_drop];omega
theorem cn8 {W:List Int}{o:Nat}{w:List Int}(h:o+w.length≤W.length):(put W o w).length=W.length:=by
 unfold put;rw[List.length_append,List.length_append,List.length_take,List.length_drop];omega
theorem bI5 {W:List Int}{o:Nat}{w:List Int}{i:Nat}(h:o+w.length≤W.length)(hd:i<o∨o+w.length≤i):(put W o w)[i]?=W[i]?:=by
 rw[br0 h,if_neg (by omega)]
theorem bY1 {W w:List Int}{o:Nat}(h:o+w.length≤W.length):aC1 W o w.length w=put W o w:=by
 unfold aC1 put;rw[List.take_length,Nat.min_self]
theorem xe {W:List Int}{o n tk:Nat}(h:o+n≤tk)(ht:tk≤W.length)(hw:W.length≤1048576):ek (o:Int) (n:Int) (tk:Int) W=some (0,seg W o n):=by
 unfold ek;rw[decide_eq_false (by omega),cond_false,decide_eq_false (by omega),cond_false,decide_eq_false (by omega),cond_false,bD (n:=(tk:Int)-o) (by omega),decide_eq_false (by omega),cond_false,bD (n:=(o:Int)+n) (by omega),kg (by omega),gw];unfold cu;rw[show((o:Int)+n).toNat-(o:Int).toNat=n by omega,show(o:Int).toNat=o by omega,gv (by rw[List.length_take];omega) (by omega)];rfl
theorem bQ4 {W:List Int}{o tk:Nat}(h:o<tk)(ht:tk≤W.length)(hw:W.length≤1048576):gB (o:Int) (tk:Int) W=some (rg W (o:Int),0):=by
 unfold gB;rw[decide_eq_false (by omega),cond_false,decide_eq_false (by omega),cond_false,bD (n:=(tk:Int)-o) (by omega),decide_eq_false (by omega),cond_false,bD (n:=(o:Int)+1) (by omega),kg (by omega),gw];unfold cu;rw[show((o:Int)+1).toNat-(o:Int).toNat=1 by omega,show(o:Int).toNat=o by omega,gv (by rw[List.length_take];omega) (by omega)]
 have hs:(W.drop o).take 1=[rg W (o:Int)]:=by
  apply List.ext_getElem?;intro i;rw[List.getElem?_take,List.getElem?_drop];rcases Nat.eq_zero_or_pos i with rfl|hi
  ·rw[if_pos (by omega),Nat.add_zero,jx (by omega)];rfl
  ·rw[if_neg (by omega),List.getElem?_eq_none (by simp;omega)]
 rw[hs];rfl
theorem sU {W w:List Int}{o tk:Nat}(h:o+w.length≤tk)(ht:tk≤W.length)(hw:W.length≤1048576):fc (o:Int) w (tk:Int) W=some (0,put W o w):=by
 unfold fc;rw[decide_eq_false (by omega),cond_false,decide_eq_false (by omega),cond_false,decide_eq_false (by omega),cond_false,bD (n:=(tk:Int)-o) (by omega),decide_eq_false (by omega),cond_false,bD (n:=(o:Int)+w.length) (by omega),kg (by omega),gw,show((o:Int)+w.length).toNat-(o:Int).toNat=w.length by omega,show(o:Int).toNat=o by omega,bY1 (by omega)]
theorem rA {n lv pk bd:Int}(h:0≤n)(hl:0≤lv)(hb:lv+n≤bd)(hbd:bd≤1048576):du n lv pk bd=some (0,lv+n,max pk (lv+n),bd):=by
 unfold du qf kv;rw[decide_eq_false (by omega),cond_false];simp only[Option.bind_some];rw[bD (n:=bd-lv) (by omega),decide_eq_true (by omega),bD (n:=lv+n) (by omega)];rfl
theorem uw {n lv pk bd:Int}(h:0≤n)(hl:n≤lv)(hp:lv≤pk)(hb:lv≤1048576):cx n lv pk bd=some (0,lv-n,pk,bd):=by
 unfold cx kv;rw[decide_eq_false (by omega),cond_false,decide_eq_false (by omega),cond_false];simp only[Option.bind_some];rw[bD (n:=0-n) (by omega),bD (by omega),show lv+(0-n)=lv-n by omega,Int.max_eq_left (by omega)]
theorem bS4 (ls:List (List Int))(h: ∀l∈ls,l.length≤100000):ls.flatten.length≤100000*ls.length:=by
 induction ls with
 |nil=>simp
 |cons a r ih=>
  have h1:=h a (by simp);have h2:=ih fun l hl=>h l (by simp[hl])
  rw[List.flatten_cons,List.length_append,List.length_cons];omega
theorem bj1 {ls:List (List Int)}{i:Nat}(h:i<ls.length):(ls.take (i+1)).flatten=(ls.take i).flatten++ls[i]:=by
 rw[List.take_succ_eq_append_getElem h,List.flatten_append];simp
theorem bW0 (ls:List (List Int))(h: ∀l∈ls,l.length≤100000)(hl:ls.length≤1000)(i:Nat):(ls.take i).flatten.length≤100000000:=by
 have h1:=bS4 (ls.take i) fun l hl=>h l (List.mem_of_mem_take hl)
 rw[List.length_take]at h1;omega
theorem bf5 {ls:List (List Int)}(h: ∀l∈ls,l.length≤100000)(hl:ls.length≤1000):gg ls=some ls.flatten:=by
 have hlen:=bW0 ls h hl
 have k0:cw (gD ls) iJ (0,0)=some (((ls.take ls.length).flatten.length:Nat):Int):=by
  refine qD (n:=ls.length) (fun i=>(((ls.take i).flatten.length:Nat):Int)) (by omega) (fun i hi=> ?_) ?_
  ·unfold gD;have h1:=hlen i;have h2:=h ls[i] (List.getElem_mem hi);simp only;rw[decide_eq_true (show(i:Int)<(ls.length:Int)by omega),cond_true,iz hi];simp only[Option.bind_some];rw[bD (n:=(((ls.take i).flatten.length:Nat):Int)+((ls[i].length:Nat):Int)) (by omega),decide_eq_false (by omega),cond_false,bD (n:=(i:Int)+1) (by omega),bj1 hi,List.length_append];rfl
  ·unfold gD;simp only;rw[decide_eq_false (by omega),cond_false]
 have k1: ∀(f:Int×List Int→Option ((Int×List Int)⊕List Int)),(∀s,f s=cond (decide (s.1<((ls.length:Nat):Int))) ((rd ls s.1).bind fun x=>gd (od (s.2.length+x.length) 8) (some (.inl (IntKind.i64.wrap (s.1+1),s.2++x)))) (some (.inr s.2)))→
   cw f iJ (0,[])=some (ls.take ls.length).flatten:=by
  intro f hf;refine qD (n:=ls.length) (fun i=>(ls.take i).flatten) (by omega) (fun i hi=> ?_) ?_
  ·rw[hf];have h1:=hlen i;have h2:=h ls[i] (List.getElem_mem hi);rw[decide_eq_true (show(i:Int)<(ls.length:Int)by omega),cond_true,iz hi];simp only[Option.bind_some];rw[gv (by omega) (by omega),bD (n:=(i:Int)+1) (by omega),bj1 hi];rfl
  ·rw[hf];rw[decide_eq_false (by omega),cond_false]
 unfold gg;rw[k0];rw[List.take_length];simp only[Option.bind_some];have h1:=hlen ls.length;rw[List.take_length]at h1;rw[decide_eq_false (by omega),cond_false,bD (n:=((ls.flatten.length:Nat):Int)-0) (by omega),ck];split
 ·rw[Int.sub_zero]
  have hz:oh 8 ((ls.flatten.length:Nat):Int)=true:=by
   generalize ls.flatten.length=N at h1⊢;unfold oh;rw[decide_eq_true (by omega),decide_eq_true (by omega),decide_eq_true (by omega)];rfl
  rw[hz,gw,gv (by rw[List.length_replicate];omega) (by omega),kg (by omega),gw,List.take_zero,k1 (nv ls) fun s=>rfl,List.take_length];rfl
 ·rw[k1 (ny ls) fun s=>rfl,List.take_length];rfl
structure Cx where
 mode:Int
 R:Int
 Q:Int
 len:Int
 words:Int
 X:List Int
 T:List Int
 l:List ec
 k:List ec
 fl:Fo
 fk:Fo
 fixed:Int
 tp:Int
 sl:Int
 ns:Int
namespace Cx
def sz (c:Cx):Nat→Nat
 |0=>c.T.length
 |1=>c.X.length
 |2=>c.R.toNat
 |3=>c.Q.toNat
 |4=>max c.R.toNat c.Q.toNat
 |5=>c.X.length
 |6=>c.T.length
 |7=>c.tp.toNat
 |8=>(c.sl*c.ns).toNat
 |_=>0
def off (c:Cx):Nat→Nat
 |0=>0
 |i+1=>c.off i+c.sz i
def P (c:Cx):List Int:=(List.range 10).map fun i=>(c.off i:Int)
def tk (c:Cx):Int:=(c.off 9:Int)
structure Ok (c:Cx):Prop where
 hl:OpsOk c.l
 hk:OpsOk c.k
 hc:ac3 c.mode c.X.length c.T.length c.R c.l c.Q c.k c.len c.words=0
 pl:Prg c.R c.l c.fl
 pk:Prg c.Q c.k c.fk
 fixed:c.fixed=vN c.X.length c.T.length c.R c.Q
 tp:c.tp=uo c.mode c.l c.k
 sl:c.sl=vu c.mode c.X.length c.R c.l
 ns:0≤c.ns∧c.ns≤1048576
 fit:c.fixed+c.tp+c.sl*c.ns≤c.words
 base:c.mode=3→c.ns=c.len
end Cx
structure Num (c:Cx):Prop where
 mode:1≤c.mode∧c.mode≤3
 R:1≤c.R∧c.R≤64
 Q:1≤c.Q∧c.Q≤64
 x:1≤c.X.length∧c.X.length≤64
 t:c.T.length≤64
 xtR:(c.X.length:Int)+c.T.length+1≤c.R
 xtQ:(c.X.length:Int)+c.T.length≤c.Q
 len:0≤c.len∧c.len≤65535
 words:0≤c.words∧c.words≤1048576
 n:c.fl.n≤65536
 m:c.fk.n≤65536
 tp:c.tp=(if c.mode=3 then(c.fk.n:Int)else c.fl.n+c.fk.n)
 sl:c.sl=(if c.mode=3 then(c.fl.n:Int)+c.R else c.X.length+1)
 fixed:c.fixed=2*c.T.length+2*c.X.length+c.R+c.Q+max c.R c.Q
 mul:0≤c.sl*c.ns
theorem bg8 {m:Int}{x t:Nat}{R:Int}{l:List ec}{Q:Int}{k:List ec}{n b:Int}(h:ac3 m x t R l Q k n b=0):rV R l Q k=0∧yf R Q x t=0:=by
 unfold ac3 at h;split at h
 ·rename_i c;exact(c h).elim
 split at h
 ·rename_i c;exact(c h).elim
 split at h
 ·rename_i c;exact(c h).elim
 rename_i c1 c2 c3;exact⟨by omega,by omega⟩
theorem bU8 {R Q:Int}{l k:List ec}(h:rV R l Q k=0):ac8 R l=0∧ac8 Q k=0:=by
 unfold rV at h
 repeat' split at h
 all_goals first|(exact absurd h (by assumption))|skip
 unfold ac8;constructor
 ·repeat' split
  all_goals first|(rename_i c;exact(by omega))|omega
 ·repeat' split
  all_goals first|(rename_i c;exact(by omega))|omega
theorem bR7 {R Q:Int}{x t:Nat}(hx:x≤64)(ht:t≤64)(h:yf R Q x t=0):(x:Int)+t+1≤R∧(x:Int)+t≤Q:=by
 unfold yf at h;rw[bD (n:=(x:Int)+t) (by omega),bD (n:=(x:Int)+t+1) (by omega)]at h
 repeat' split at h
 all_goals omega
theorem Cx.Ok.num {c:Cx}(h:c.Ok):Num c:=by
 have f:=aW7 h.hl h.hk h.hc;obtain⟨h1,h2⟩:=bg8 h.hc;obtain⟨h3,h4⟩:=bR7 f.xs.2 f.ts h2;have w1:=h.pl.w;have w2:=h.pk.w;have s:=br8 h.hl h.hk h.hc;refine⟨f.mode,f.regs,f.regs',f.xs,f.ts,h3,h4,f.len,f.bud,h.pl.n,h.pk.n, ?_, ?_, ?_, ?_⟩
 ·rw[h.tp];unfold uo;rw[w1,w2]
 ·rw[h.sl];unfold vu;rw[w1]
 ·rw[h.fixed];unfold vN;rfl
 ·rw[h.sl];exact(cb5 (by have:=s.sl;omega) h.ns).1
section
variable {c:Cx}
theorem cD0 :c.off 1=c.T.length:=Nat.zero_add _
theorem cD1 :c.off 2=c.T.length+c.X.length:=by show c.off 1+_=_;rw[cD0];rfl
theorem cD2 :c.off 3=c.T.length+c.X.length+c.R.toNat:=by show c.off 2+_=_;rw[cD1];rfl
theorem cD3 :c.off 4=c.T.length+c.X.length+c.R.toNat+c.Q.toNat:=by show c.off 3+_=_;rw[cD2];rfl
theorem cD4 :c.off 5=c.T.length+c.X.length+c.R.toNat+c.Q.toNat+max c.R.toNat c.Q.toNat:=by show c.off 4+_=_;rw[cD3];rfl
theorem cD5 :c.off 6=c.T.length+c.X.length+c.R.toNat+c.Q.toNat+max c.R.toNat c.Q.toNat+c.X.length:=by show c.off 5+_=_;rw[cD4];rfl
theorem cz7 :c.off 7=c.T.length+c.X.length+c.R.toNat+c.Q.toNat+max c.R.toNat c.Q.toNat+c.X.length+c.T.length:=by show c.off 6+_=_;rw[cD5];rfl
theorem cD6 :c.off 8=c.off 7+c.tp.toNat:=rfl
theorem be3 :c.off 9=c.off 8+(c.sl*c.ns).toNat:=rfl
theorem cv3 {i j:Nat}(h:i≤j):c.off i≤c.off j:=by
 induction j with
 |zero=>rw[Nat.le_zero.1 h];exact Nat.le_refl _
 |succ j ih=>
  rcases Nat.lt_or_ge i (j+1)with h1|h1
  ·exact Nat.le_trans (ih (by omega)) (Nat.le_add_right _ _)
  ·rw[Nat.le_antisymm h h1];exact Nat.le_refl _
theorem qx {i j:Nat}(h:i<j):c.off i+c.sz i≤c.off j:=cv3 (c:=c) (i:=i+1) h
theorem Cx.Ok.off9_le (h:c.Ok):(c.off 9:Int)≤c.words:=by
 have n:=h.num;have g1:=n.R;have g2:=n.Q;have g3:=n.fixed;have g4:=n.tp;have g5:=n.mul;have g6:=h.fit;have htp:0≤c.tp:=by rw[g4];split<;>omega
 rw[be3,cD6,cz7];omega
theorem Cx.P_get {i:Nat}(h:i<10):c.P[i]?=some (c.off i:Int):=by
 unfold Cx.P;rw[List.getElem?_map,List.getElem?_range h];rfl
theorem Cx.P_len :c.P.length=10:=by unfold Cx.P;simp
def Wd (c:Cx)(W:List Int):Prop:=W.length=c.words.toNat
theorem Wd.tk {W:List Int}(h:c.Ok)(hW:Wd c W):c.off 9≤W.length∧W.length≤1048576:=by
 have:=h.off9_le;have:=h.num.words;unfold Wd at hW;omega
theorem Wd.put {W w:List Int}{o:Nat}(h:c.Ok)(hW:Wd c W)(ho:o+w.length≤c.off 9):Wd c (put W o w):=by
 have:=hW.tk h;unfold Wd at hW⊢;rw[cn8 (by omega),hW]
theorem bp9 {i:Nat}{ii a0 a1 a2 a3 a4 a5 a6 a7 a8 a9 a10 a11 a12 a13 a14 a15 a16:Int}{X T:List Int}{l k:List ec}{lv pk bd:Int}{W:List Int}(h:c.Ok)(hW:Wd c W)(hi:ii=(i:Int))(hi9:i<9):
  cB ii a0 a1 a2 a3 a4 a5 a6 a7 a8 a9 a10 a11 a12 a13 a14 a15 a16 X T l k c.P c.tk lv pk bd W=some (seg W (c.off i) (c.sz i)):=by
 subst hi;have hk:=hW.tk h;have h9:=qx (c:=c) (i:=i) (j:=9) hi9;unfold cB;rw[dk (show i<c.P.length by rw[Cx.P_len];omega)];simp only[Option.bind_some];rw[Cx.P_get (show i<10 by omega)];simp only[Option.bind_some];rw[bD (n:=(i:Int)+1) (by omega),show(i:Int)+1=((i+1:Nat):Int)by omega,dk (show i+1<c.P.length by rw[Cx.P_len];omega)];simp only[Option.bind_some];rw[Cx.P_get (show i+1<10 by omega)];simp only[Option.bind_some]
 have e:IntKind.i64.wrap ((c.off (i+1):Int)-(c.off i:Int))=(c.sz i:Int):=by
  have:c.off (i+1)=c.off i+c.sz i:=rfl;rw[bD (by omega)];omega
 rw[e];unfold Cx.tk;rw[xe h9 hk.1 hk.2];rfl
theorem aO9 {i:Nat}{ii a0 a1 a2 a3 a4 a5 a6 a7 a8 a9 a10 a11 a12 a13 a14 a15 a16:Int}{X T:List Int}{l k:List ec}{lv pk bd:Int}{W w:List Int}(h:c.Ok)(hW:Wd c W)(hi:ii=(i:Int))(hi9:i<9)(hw:w.length≤c.sz i):
  cj ii w a0 a1 a2 a3 a4 a5 a6 a7 a8 a9 a10 a11 a12 a13 a14 a15 a16 X T l k c.P c.tk lv pk bd W=some (put W (c.off i) w):=by
 subst hi;have hk:=hW.tk h;have h9:=qx (c:=c) (i:=i) (j:=9) hi9;unfold cj;rw[dk (show i<c.P.length by rw[Cx.P_len];omega)];simp only[Option.bind_some];rw[Cx.P_get (show i<10 by omega)];simp only[Option.bind_some];unfold Cx.tk;rw[sU (by omega) hk.1 hk.2];rfl
theorem aW5 {i:Nat}{ii a0 a1 a2 a3 a4 a5 a6 a7 a8 a9 a10 a11 a12 a13 a14 a15 a16:Int}{X T:List Int}{l k:List ec}{sb sn sx:Int}{lv pk bd:Int}{W:List Int}(h:c.Ok)(hW:Wd c W)(hi:ii=(i:Int))(hi9:i<9):
  co ii a0 a1 a2 a3 a4 a5 a6 a7 a8 a9 a10 a11 a12 a13 a14 a15 a16 X T l k c.P c.tk sb sn sx lv pk bd W=some (seg W (c.off i) (c.sz i)):=by
 subst hi;have hk:=hW.tk h;have h9:=qx (c:=c) (i:=i) (j:=9) hi9;unfold co;rw[dk (show i<c.P.length by rw[Cx.P_len];omega)];simp only[Option.bind_some];rw[Cx.P_get (show i<10 by omega)];simp only[Option.bind_some];rw[bD (n:=(i:Int)+1) (by omega),show(i:Int)+1=((i+1:Nat):Int)by omega,dk (show i+1<c.P.length by rw[Cx.P_len];omega)];simp only[Option.bind_some];rw[Cx.P_get (show i+1<10 by omega)];simp only[Option.bind_some]
 have e:IntKind.i64.wrap ((c.off (i+1):Int)-(c.off i:Int))=(c.sz i:Int):=by
  have:c.off (i+1)=c.off i+c.sz i:=rfl;rw[bD (by omega)];omega
 rw[e];unfold Cx.tk;rw[xe h9 hk.1 hk.2];rfl
theorem aI7 {i:Nat}{ii a0 a1 a2 a3 a4 a5 a6 a7 a8 a9 a10 a11 a12 a13 a14 a15 a16:Int}{X T:List Int}{l k:List ec}{sb sn sx:Int}{lv pk bd:Int}{W w:List Int}(h:c.Ok)(hW:Wd c W)(hi:ii=(i:Int))(hi9:i<9)(hw:w.length≤c.sz i):
  cg ii w a0 a1 a2 a3 a4 a5 a6 a7 a8 a9 a10 a11 a12 a13 a14 a15 a16 X T l k c.P c.tk sb sn sx lv pk bd W=some (put W (c.off i) w):=by
 subst hi;have hk:=hW.tk h;have h9:=qx (c:=c) (i:=i) (j:=9) hi9;unfold cg;rw[dk (show i<c.P.length by rw[Cx.P_len];omega)];simp only[Option.bind_some];rw[Cx.P_get (show i<10 by omega)];simp only[Option.bind_some];unfold Cx.tk;rw[sU (by omega) hk.1 hk.2];rfl
theorem aQ6 {R:Int}{l:List ec}{a:List Int}(hR:1≤R∧R≤64)(ha:(a.length:Int)≤R):lf R l a=some (fill R a):=by
 unfold lf cu;rw[gv (by omega) (by omega)];simp only[Option.bind_some];rw[bD (n:=R-(a.length:Int)) (by omega)]
 have hz:oh 8 (R-(a.length:Int))=true:=by
  unfold oh;rw[decide_eq_true (by omega),decide_eq_true (by omega),decide_eq_true (by omega)];rfl
 rw[hz,gw,gv (by rw[List.length_replicate];omega) (by omega),show(R-(a.length:Int)).toNat=R.toNat-a.length by omega];rfl
theorem bX9 {R:Int}{ops:List ec}{x more:List Int}{a0 a1 a2 a3 a4 a5 a6 a7 a8 a9 a10 a11 a12 a13 a14 a15 a16:Int}{X T:List Int}{l k:List ec}{lv pk bd:Int}{W:List Int}(h:c.Ok)(hW:Wd c W)(hR:1≤R∧R≤64)(hx:(x.length:Int)+c.T.length+more.length≤R):
  iQ R ops x more a0 a1 a2 a3 a4 a5 a6 a7 a8 a9 a10 a11 a12 a13 a14 a15 a16 X T l k c.P c.tk lv pk bd W=some (fill R (x++(seg W 0 c.T.length++more))):=by
 have hk:=hW.tk h;have h1:=qx (c:=c) (i:=0) (j:=9) (by omega);have hs:(seg W 0 c.T.length).length=c.T.length:=iu (by have:c.off 0+c.sz 0=0+c.T.length:=rfl;omega);unfold iQ;rw[bp9 (ii:=0) (i:=0) h hW rfl (by omega)];simp only[Option.bind_some];have hseg:seg W (c.off 0) (c.sz 0)=seg W 0 c.T.length:=rfl
 rw[hseg,bf5 (fun a ha=>by
  simp only[List.mem_cons,List.not_mem_nil,or_false]at ha
  rcases ha with rfl|rfl|rfl<;>omega) (by simp)]
 simp only[Option.bind_some];have e:[x,seg W 0 c.T.length,more].flatten=x++(seg W 0 c.T.length++more):=by simp
 have hl:(x++(seg W 0 c.T.length++more)).length=x.length+c.T.length+more.length:=by rw[List.length_append,List.length_append,hs];omega
 rw[e];generalize x++(seg W 0 c.T.length++more)=a at*;rw[bD (n:=R-(a.length:Int)) (by omega)]
 have hz:oh 8 (R-(a.length:Int))=true:=by
  unfold oh;rw[decide_eq_true (by omega),decide_eq_true (by omega),decide_eq_true (by omega)];rfl
 rw[hz,gw,gv (by rw[List.length_replicate];omega) (by omega),show(R-(a.length:Int)).toNat=R.toNat-a.length by omega];rfl
theorem bF2 {R:Int}{ops:List ec}{x more:List Int}{a0 a1 a2 a3 a4 a5 a6 a7 a8 a9 a10 a11 a12 a13 a14 a15 a16:Int}{X T:List Int}{l k:List ec}{sb sn sx:Int}{lv pk bd:Int}{W:List Int}(h:c.Ok)(hW:Wd c W)(hR:1≤R∧R≤64)(hx:(x.length:Int)+c.T.length+more.length≤R):
  io R ops x more a0 a1 a2 a3 a4 a5 a6 a7 a8 a9 a10 a11 a12 a13 a14 a15 a16 X T l k c.P c.tk sb sn sx lv pk bd W=some (fill R (x++(seg W 0 c.T.length++more))):=by
 have hk:=hW.tk h;have h1:=qx (c:=c) (i:=0) (j:=9) (by omega);have hs:(seg W 0 c.T.length).length=c.T.length:=iu (by have:c.off 0+c.sz 0=0+c.T.length:=rfl;omega);unfold io;rw[aW5 (ii:=0) (i:=0) h hW rfl (by omega)];simp only[Option.bind_some];have hseg:seg W (c.off 0) (c.sz 0)=seg W 0 c.T.length:=rfl
 rw[hseg,bf5 (fun a ha=>by
  simp only[List.mem_cons,List.not_mem_nil,or_false]at ha
  rcases ha with rfl|rfl|rfl<;>omega) (by simp)]
 simp only[Option.bind_some];have e:[x,seg W 0 c.T.length,more].flatten=x++(seg W 0 c.T.length++more):=by simp
 have hl:(x++(seg W 0 c.T.length++more)).length=x.length+c.T.length+more.length:=by rw[List.length_append,List.length_append,hs];omega
 rw[e];generalize x++(seg W 0 c.T.length++more)=a at*;rw[bD (n:=R-(a.length:Int)) (by omega)]
 have hz:oh 8 (R-(a.length:Int))=true:=by
  unfold oh;rw[decide_eq_true (by omega),decide_eq_true (by omega),decide_eq_true (by omega)];rfl
 rw[hz,gw,gv (by rw[List.length_replicate];omega) (by omega),show(R-(a.length:Int)).toNat=R.toNat-a.length by omega];rfl
end
theorem gdz {β:Type}{n:Int}{y:Option β}(h:0≤n∧n≤1048576):gd (Nat.beq 1 (Sh.w (.int .u64))&&decide (0≤n)&&decide (n≤n)&&decide ((8:Int)*n≤140737488355328)&&Nat.ble 1 8) y=y:=by
 rw[decide_eq_true h.1,decide_eq_true (Int.le_refl n),decide_eq_true (by omega)];rfl
section
variable {c:Cx}
theorem Cx.Ok.of (h:c.Ok):ji c.mode c.X c.T c.R c.l c.Q c.k c.len c.words=some ((c.fl.n:Int),(c.fk.n:Int)):=by
 rw[bO5 h.hl h.hk,if_neg (fun k=>k h.hc),h.pl.w,h.pk.w]
def iD (n:Nat):List Int:=List.replicate n 0
def ki (c:Cx)(W:List Int)(p:Int):TS:=ao3 c.fl (fill c.R (seg W (c.off 1) c.X.length++(seg W 0 c.T.length++[IntKind.u64.wrap p]))) (iD c.fl.n)
def qE (c:Cx)(W x:List Int):TS:=ao3 c.fk (fill c.Q (x++(seg W 0 c.T.length++[]))) (iD c.fk.n)
def bE7 (x:Nat)(g a:List Int):List Int:=(List.range g.length).map fun(i:Nat)=>IntKind.u64.wrap (rg g (i:Int)+rg a ((x+i:Nat):Int))
def am5 (c:Cx)(W a:List Int):List Int:=
 put (put (put W (c.off 4) a) (c.off 5) (a.take c.X.length)) (c.off 6) (bE7 c.X.length (seg (put (put W (c.off 4) a) (c.off 5) (a.take c.X.length)) (c.off 6) c.T.length) a)
theorem zc (x:Nat)(g a:List Int):(bE7 x g a).length=g.length:=by unfold bE7;simp
theorem Wd.in' {W:List Int}(h:c.Ok)(hW:Wd c W){i:Nat}(hi:i<9):c.off i+c.sz i≤W.length:=by
 have:=hW.tk h;have:=qx (c:=c) (i:=i) (j:=9) hi;omega
theorem aB8 {X:List Int}{a g:List Int}{f:Int×List Int→Option ((Int×List Int)⊕List Int)}(hg:g.length≤64)(hX:X.length≤64)(ha:X.length+g.length≤a.length)(hf: ∀s,f s=cond (decide (s.1<(((g.length:Nat):Int))))
   ((ix s.1 (s.2.length)).bind fun j=>(s.2[j]?).bind fun y=>(ix (IntKind.i64.wrap (((X.length:Nat):Int)+s.1)) a.length).bind fun j'=>(a[j']?).bind fun y'=>(ix s.1 (s.2.length)).bind fun j''=>(s.2[j'']?).bind fun y''=>some (.inl (IntKind.i64.wrap (s.1+1),s.2.set j'' (IntKind.u64.wrap (y+y')))))
   (some (.inr s.2))):cw f iJ (0,g)=some (bE7 X.length g a):=by
 have hF: ∀i,((List.range g.length).map fun(j:Nat)=>if j<i then IntKind.u64.wrap (rg g (j:Int)+rg a ((X.length+j:Nat):Int))else rg g (j:Int)).length=g.length:=fun i=>by simp
 have hget: ∀i j,j<g.length→((List.range g.length).map fun(j:Nat)=>if j<i then IntKind.u64.wrap (rg g (j:Int)+rg a ((X.length+j:Nat):Int))else rg g (j:Int))[j]?=some (if j<i then IntKind.u64.wrap (rg g (j:Int)+rg a ((X.length+j:Nat):Int))else rg g (j:Int)):=fun i j hj=>by
  rw[List.getElem?_map,List.getElem?_range hj];rfl
 have e0:g=(List.range g.length).map fun(j:Nat)=>if j<0 then IntKind.u64.wrap (rg g (j:Int)+rg a ((X.length+j:Nat):Int))else rg g (j:Int):=by
  apply List.ext_getElem?;intro j;by_cases hj:j<g.length
  ·rw[hget 0 j hj,if_neg (by omega),jx hj]
  ·rw[List.getElem?_eq_none (by omega),List.getElem?_eq_none (by simp;omega)]
 have e1:bE7 X.length g a=(List.range g.length).map fun(j:Nat)=>if j<g.length then IntKind.u64.wrap (rg g (j:Int)+rg a ((X.length+j:Nat):Int))else rg g (j:Int):=by
  unfold bE7;apply List.map_congr_left;intro j hj;rw[if_pos (List.mem_range.1 hj)]
 rw[e1];refine Eq.trans (congrArg (fun y=>cw f iJ (0,y)) e0) ?_;refine qD (n:=g.length) (fun i=>(List.range g.length).map fun(j:Nat)=>if j<i then IntKind.u64.wrap (rg g (j:Int)+rg a ((X.length+j:Nat):Int))else rg g (j:Int)) (by omega) (fun i hi=> ?_) ?_
 ·rw[hf];rw[decide_eq_true (show(i:Int)<((g.length:Nat):Int)by omega),cond_true,dk (by rw[hF];exact hi)];simp only[Option.bind_some];rw[hget i i hi];simp only[Option.bind_some];rw[if_neg (Nat.lt_irrefl i),bD (n:=((X.length:Nat):Int)+(i:Int)) (by omega),show((X.length:Nat):Int)+(i:Int)=((X.length+i:Nat):Int)by omega,dk (show X.length+i<a.length by omega)];simp only[Option.bind_some];rw[jx (show X.length+i<a.length by omega)];simp only[Option.bind_some];rw[bD (n:=(i:Int)+1) (by omega)]
  congr 3
  apply List.ext_getElem?;intro j;by_cases hj:j<g.length
  ·rw[hget (i+1) j hj];by_cases hij:i=j
   ·subst hij;rw[List.getElem?_set_self (by rw[hF];exact hi),if_pos (Nat.lt_succ_self i)]
   ·rw[List.getElem?_set_ne hij,hget i j hj]
    congr 1
    by_cases h3:j<i
    ·rw[if_pos h3,if_pos (by omega)]
    ·rw[if_neg h3,if_neg (by omega)]
  ·rw[List.getElem?_eq_none (by simp;omega),List.getElem?_eq_none (by simp;omega)]
 ·rw[hf];rw[decide_eq_false (by omega),cond_false]
theorem fi (n:Nat):(iD n).length=n:=List.length_replicate
theorem jd (h:c.Ok){W:List Int}(hW:Wd c W)(p:Int):(fill c.R (seg W (c.off 1) c.X.length++(seg W 0 c.T.length++[IntKind.u64.wrap p]))).length=c.R.toNat∧(ki c W p).1.length=c.R.toNat∧(ki c W p).2.1.length=c.fl.n:=by
 have n:=h.num;have h1:=hW.in' h (i:=1) (by omega);have h0:=hW.in' h (i:=0) (by omega);have l1:(seg W (c.off 1) c.X.length).length=c.X.length:=iu h1;have l0:(seg W 0 c.T.length).length=c.T.length:=iu h0
 have hf:(fill c.R (seg W (c.off 1) c.X.length++(seg W 0 c.T.length++[IntKind.u64.wrap p]))).length=c.R.toNat:=by
  apply tQ;rw[List.length_append,List.length_append,l1,l0];have:=n.xtR;simp;omega
 obtain⟨_,h2,h3⟩:=te h.pl hf (t:=iD c.fl.n) (by rw[fi];exact Nat.le_refl _) (by rw[fi];have:=n.n;omega);rw[fi]at h3;exact⟨hf,h2,h3⟩
theorem yh (h:c.Ok){W x:List Int}(hW:Wd c W)(hx:x.length=c.X.length):(fill c.Q (x++(seg W 0 c.T.length++[]))).length=c.Q.toNat∧(qE c W x).1.length=c.Q.toNat∧(qE c W x).2.1.length=c.fk.n:=by
 have n:=h.num;have h0:=hW.in' h (i:=0) (by omega);have l0:(seg W 0 c.T.length).length=c.T.length:=iu h0
 have hf:(fill c.Q (x++(seg W 0 c.T.length++[]))).length=c.Q.toNat:=by
  apply tQ;rw[List.length_append,List.length_append,l0,hx];have:=n.xtQ;simp;omega
 obtain⟨_,h2,h3⟩:=te h.pk hf (t:=iD c.fk.n) (by rw[fi];exact Nat.le_refl _) (by rw[fi];have:=n.m;omega);rw[fi]at h3;exact⟨hf,h2,h3⟩
theorem pS (h:c.Ok){W a:List Int}(hW:Wd c W)(ha:c.X.length+c.T.length≤a.length)(ha2:a.length≤max c.R.toNat c.Q.toNat):
  Wd c (put W (c.off 4) a)∧Wd c (put (put W (c.off 4) a) (c.off 5) (a.take c.X.length))∧Wd c (am5 c W a):=by
 have h4:=qx (c:=c) (i:=4) (j:=9) (by omega);have h5:=qx (c:=c) (i:=5) (j:=9) (by omega);have h6:=qx (c:=c) (i:=6) (j:=9) (by omega);have s4:c.sz 4=max c.R.toNat c.Q.toNat:=rfl;have s5:c.sz 5=c.X.length:=rfl;have s6:c.sz 6=c.T.length:=rfl;have w1:=hW.put h (w:=a) (o:=c.off 4) (by omega);have w2:=w1.put h (w:=a.take c.X.length) (o:=c.off 5) (by rw[List.length_take];omega);refine⟨w1,w2, ?_⟩;unfold am5;refine w2.put h ?_;rw[zc,iu (n:=c.T.length) (w2.in' h (i:=6) (by omega))];omega
theorem cx2 (h:c.Ok){W:List Int}(hW:Wd c W){L p q c0 c1 c2 c3 z lv pk bd:Int}:
  iR c.fixed c.tp c.sl c.ns c.mode c.R c.Q c.len c.words L p q c0 c1 c2 c3 z c.X c.T c.l c.k c.P c.tk lv pk bd W=some (c.fixed,c.tp,c.sl,c.ns,c.mode,c.R,c.Q,c.len,c.words,L,p,q,c0,IntKind.i64.wrap (c1+1),c2,c3,z,put W (c.off 2) (ki c W p).1,(ki c W p).1,(ki c W p).2.1):=by
 have n:=h.num;obtain⟨f1,f2,f3⟩:=jd h hW p;have h1:=hW.in' h (i:=1) (by omega);have l1:(seg W (c.off 1) c.X.length).length=c.X.length:=iu h1;unfold iR;rw[h.of];simp only[Option.bind_some];have gn:=n.n;rw[gdz (by omega),bp9 (ii:=1) (i:=1) h hW rfl (by omega)];simp only[Option.bind_some];rw[gdz (by omega),bX9 h hW n.R (by rw[show c.sz 1=c.X.length from rfl,l1];have:=n.xtR;simp;omega)];simp only[Option.bind_some];rw[gdz (by omega),show c.sz 1=c.X.length from rfl,show List.replicate ((c.fl.n:Int)).toNat (0:Int)=iD c.fl.n from rfl];obtain⟨r1,r2,r3⟩:=te h.pl f1 (t:=iD c.fl.n) (by rw[fi];exact Nat.le_refl _) (by rw[fi];omega);rw[r1];simp only[Option.bind_some];rw[aO9 (ii:=2) (i:=2) h hW rfl (by omega) (by rw[show c.sz 2=c.R.toNat from rfl];exact Nat.le_of_eq r2)];rfl
theorem cg1 (h:c.Ok){W:List Int}(hW:Wd c W){L p q c0 c1 c2 c3 z sb sn sx lv pk bd:Int}:
  ip c.fixed c.tp c.sl c.ns c.mode c.R c.Q c.len c.words L p q c0 c1 c2 c3 z c.X c.T c.l c.k c.P c.tk sb sn sx lv pk bd W=some (c.fixed,c.tp,c.sl,c.ns,c.mode,c.R,c.Q,c.len,c.words,L,p,q,c0,IntKind.i64.wrap (c1+1),c2,c3,z,put W (c.off 2) (ki c W p).1,(ki c W p).1,(ki c W p).2.1):=by
 have n:=h.num;obtain⟨f1,f2,f3⟩:=jd h hW p;have h1:=hW.in' h (i:=1) (by omega);have l1:(seg W (c.off 1) c.X.length).length=c.X.length:=iu h1;unfold ip;rw[h.of];simp only[Option.bind_some];have gn:=n.n;rw[gdz (by omega),aW5 (ii:=1) (i:=1) h hW rfl (by omega)];simp only[Option.bind_some];rw[gdz (by omega),bF2 h hW n.R (by rw[show c.sz 1=c.X.length from rfl,l1];have:=n.xtR;simp;omega)];simp only[Option.bind_some];rw[gdz (by omega),show c.sz 1=c.X.length from rfl,show List.replicate ((c.fl.n:Int)).toNat (0:Int)=iD c.fl.n from rfl];obtain⟨r1,r2,r3⟩:=te h.pl f1 (t:=iD c.fl.n) (by rw[fi];exact Nat.le_refl _) (by rw[fi];omega);rw[r1];simp only[Option.bind_some];rw[aI7 (ii:=2) (i:=2) h hW rfl (by omega) (by rw[show c.sz 2=c.R.toNat from rfl];exact Nat.le_of_eq r2)];rfl
theorem cs3 (h:c.Ok){W r a t:List Int}(hW:Wd c W)(hr:r.length=c.Q.toNat)(ha:a.length=c.Q.toNat)(ht:t.length=c.fk.n){L p q c0 c1 c2 c3 z lv pk bd:Int}:
  pa c.Q c.fixed c.tp c.sl c.ns c.mode c.R c.Q c.len c.words L p q c0 c1 c2 c3 z c.k r a t c.X c.T c.l c.P c.tk lv pk bd W=some (c.fixed,c.tp,c.sl,c.ns,c.mode,c.R,c.Q,c.len,c.words,L,p,q,c0,c1,c2,IntKind.i64.wrap (c3+1),z,(md c.fk r a t).1,(md c.fk r a t).2.1,am5 c W (md c.fk r a t).2.1):=by
 have n:=h.num;obtain⟨r1,r2,r3⟩:=rC h.pk hr ha (Nat.le_of_eq ht.symm) (by have:=n.n;have:=n.m;omega);have nR:=n.R;have nQ:=n.Q;have n1:=n.xtR;have n2:=n.xtQ;have nx:=n.x;have nt:=n.t;unfold pa;rw[r1];simp only[Option.bind_some];generalize md c.fk r a t=q1 at*;have b:=pS h (a:=q1.2.1) hW (by omega) (by omega);obtain⟨b1,b2,b3⟩:=b;rw[aO9 (ii:=4) (i:=4) h hW rfl (by omega) (by rw[show c.sz 4=max c.R.toNat c.Q.toNat from rfl];omega)];simp only[Option.bind_some];rw[kg (by omega),gw,show((c.X.length:Int)).toNat-0=c.X.length by omega,List.drop_zero,aO9 (ii:=5) (i:=5) h b1 rfl (by omega) (by rw[List.length_take,show c.sz 5=c.X.length from rfl];omega)];simp only[Option.bind_some];rw[bp9 (ii:=6) (i:=6) h b2 rfl (by omega)];simp only[Option.bind_some];rw[show c.sz 6=c.T.length from rfl];have hg:(seg (put (put W (c.off 4) q1.2.1) (c.off 5) (q1.2.1.take c.X.length)) (c.off 6) c.T.length).length=c.T.length:=iu (b2.in' h (i:=6) (by omega));rw[aB8 (f:=tq c.X (0,q1.1,q1.2.1) _) (X:=c.X) (a:=q1.2.1) (g:=seg (put (put W (c.off 4) q1.2.1) (c.off 5) (q1.2.1.take c.X.length)) (c.off 6) c.T.length) (by omega) (by omega) (by omega) (fun s=>rfl)]
 simp only[Option.bind_some];rw[aO9 (ii:=6) (i:=6) h b2 rfl (by omega) (by rw[zc,hg];exact Nat.le_refl _)];rfl
theorem cs4 (h:c.Ok){W r a t:List Int}(hW:Wd c W)(hr:r.length=c.Q.toNat)(ha:a.length=c.Q.toNat)(ht:t.length=c.fk.n){L p q c0 c1 c2 c3 z sb sn sx lv pk bd:Int}:
  mj c.Q c.fixed c.tp c.sl c.ns c.mode c.R c.Q c.len c.words L p q c0 c1 c2 c3 z c.k r a t c.X c.T c.l c.P c.tk sb sn sx lv pk bd W=some (c.fixed,c.tp,c.sl,c.ns,c.mode,c.R,c.Q,c.len,c.words,L,p,q,c0,c1,c2,IntKind.i64.wrap (c3+1),z,(md c.fk r a t).1,(md c.fk r a t).2.1,am5 c W (md c.fk r a t).2.1):=by
 have n:=h.num;obtain⟨r1,r2,r3⟩:=rC h.pk hr ha (Nat.le_of_eq ht.symm) (by have:=n.n;have:=n.m;omega);have nR:=n.R;have nQ:=n.Q;have n1:=n.xtR;have n2:=n.xtQ;have nx:=n.x;have nt:=n.t;unfold mj;rw[r1];simp only[Option.bind_some];generalize md c.fk r a t=q1 at*;have b:=pS h (a:=q1.2.1) hW (by omega) (by omega);obtain⟨b1,b2,b3⟩:=b;rw[aI7 (ii:=4) (i:=4) h hW rfl (by omega) (by rw[show c.sz 4=max c.R.toNat c.Q.toNat from rfl];omega)];simp only[Option.bind_some];rw[kg (by omega),gw,show((c.X.length:Int)).toNat-0=c.X.length by omega,List.drop_zero,aI7 (ii:=5) (i:=5) h b1 rfl (by omega) (by rw[List.length_take,show c.sz 5=c.X.length from rfl];omega)];simp only[Option.bind_some];rw[aW5 (ii:=6) (i:=6) h b2 rfl (by omega)];simp only[Option.bind_some];rw[show c.sz 6=c.T.length from rfl];have hg:(seg (put (put W (c.off 4) q1.2.1) (c.off 5) (q1.2.1.take c.X.length)) (c.off 6) c.T.length).length=c.T.length:=iu (b2.in' h (i:=6) (by omega));rw[aB8 (f:=rX c.X (0,q1.1,q1.2.1) _) (X:=c.X) (a:=q1.2.1) (g:=seg (put (put W (c.off 4) q1.2.1) (c.off 5) (q1.2.1.take c.X.length)) (c.off 6) c.T.length) (by omega) (by omega) (by omega) (fun s=>rfl)]
 simp only[Option.bind_some];rw[aI7 (ii:=6) (i:=6) h b2 rfl (by omega) (by rw[zc,hg];exact Nat.le_refl _)];rfl
theorem cs5 (h:c.Ok){W r a t:List Int}(hW:Wd c W)(hr:r.length=c.R.toNat)(ha:a.length=c.R.toNat)(ht:t.length=c.fl.n){L p q c0 c1 c2 c3 z sb sn sx lv pk bd:Int}:
  mm c.R c.fixed c.tp c.sl c.ns c.mode c.R c.Q c.len c.words L p q c0 c1 c2 c3 z c.l r a t c.X c.T c.k c.P c.tk sb sn sx lv pk bd W=some (c.fixed,c.tp,c.sl,c.ns,c.mode,c.R,c.Q,c.len,c.words,L,p,q,c0,c1,c2,IntKind.i64.wrap (c3+1),z,(md c.fl r a t).1,(md c.fl r a t).2.1,am5 c W (md c.fl r a t).2.1):=by
 have n:=h.num;obtain⟨r1,r2,r3⟩:=rC h.pl hr ha (Nat.le_of_eq ht.symm) (by have:=n.n;have:=n.m;omega);have nR:=n.R;have nQ:=n.Q;have n1:=n.xtR;have n2:=n.xtQ;have nx:=n.x;have nt:=n.t;unfold mm;rw[r1];simp only[Option.bind_some];generalize md c.fl r a t=q1 at*;have b:=pS h (a:=q1.2.1) hW (by omega) (by omega);obtain⟨b1,b2,b3⟩:=b;rw[aI7 (ii:=4) (i:=4) h hW rfl (by omega) (by rw[show c.sz 4=max c.R.toNat c.Q.toNat from rfl];omega)];simp only[Option.bind_some];rw[kg (by omega),gw,show((c.X.length:Int)).toNat-0=c.X.length by omega,List.drop_zero,aI7 (ii:=5) (i:=5) h b1 rfl (by omega) (by rw[List.length_take,show c.sz 5=c.X.length from rfl];omega)];simp only[Option.bind_some];rw[aW5 (ii:=6) (i:=6) h b2 rfl (by omega)];simp only[Option.bind_some];rw[show c.sz 6=c.T.length from rfl];have hg:(seg (put (put W (c.off 4) q1.2.1) (c.off 5) (q1.2.1.take c.X.length)) (c.off 6) c.T.length).length=c.T.length:=iu (b2.in' h (i:=6) (by omega));rw[aB8 (f:=rY c.X (0,q1.1,q1.2.1) _) (X:=c.X) (a:=q1.2.1) (g:=seg (put (put W (c.off 4) q1.2.1) (c.off 5) (q1.2.1.take c.X.length)) (c.off 6) c.T.length) (by omega) (by omega) (by omega) (fun s=>rfl)]
 simp only[Option.bind_some];rw[aI7 (ii:=6) (i:=6) h b2 rfl (by omega) (by rw[zc,hg];exact Nat.le_refl _)];rfl
def bp0 (c:Cx)(W x:List Int):List Int:=am5 c (put W (c.off 3) (qE c W x).1) (md c.fk (qE c W x).1 (fill c.Q [1]) (qE c W x).2.1).2.1
theorem ac0 (h:c.Ok){W x:List Int}(hW:Wd c W)(hx:x.length=c.X.length):Wd c (put W (c.off 3) (qE c W x).1)∧Wd c (bp0 c W x):=by
 have n:=h.num;obtain⟨f1,f2,f3⟩:=yh h hW hx;have nR:=n.R;have nQ:=n.Q;have n2:=n.xtQ;have nx:=n.x;have nm:=n.m;have h3:=qx (c:=c) (i:=3) (j:=9) (by omega);have s3:c.sz 3=c.Q.toNat:=rfl;have w1:=hW.put h (w:=(qE c W x).1) (o:=c.off 3) (by omega);obtain⟨_,r2,r3⟩:=rC h.pk f2 (a:=fill c.Q [1]) (t:=(qE c W x).2.1) (tQ (by simp;omega)) (Nat.le_of_eq f3.symm) (by omega);exact⟨w1,(pS h w1 (by omega) (by omega)).2.2⟩
theorem cC5 (h:c.Ok){W x:List Int}(hW:Wd c W)(hx:x.length=c.X.length){L p q c0 c1 c2 c3 z lv pk bd:Int}:
  lr x c.fixed c.tp c.sl c.ns c.mode c.R c.Q c.len c.words L p q c0 c1 c2 c3 z c.X c.T c.l c.k c.P c.tk lv pk bd W=some (c.fixed,c.tp,c.sl,c.ns,c.mode,c.R,c.Q,c.len,c.words,L,p,q,c0,c1,IntKind.i64.wrap (c2+1),IntKind.i64.wrap (c3+1),rg (qE c W x).1 0,bp0 c W x):=by
 have n:=h.num;obtain⟨f1,f2,f3⟩:=yh h hW hx;obtain⟨w1,w2⟩:=ac0 h hW hx;have nR:=n.R;have nQ:=n.Q;have n2:=n.xtQ;have nx:=n.x;have nm:=n.m;unfold lr;rw[h.of];simp only[Option.bind_some];rw[gdz (by omega),bX9 h hW n.Q (by simp;omega)];simp only[Option.bind_some];rw[gdz (by omega),show List.replicate ((c.fk.n:Int)).toNat (0:Int)=iD c.fk.n from rfl];obtain⟨r1,r2,r3⟩:=te h.pk f1 (t:=iD c.fk.n) (by rw[fi];exact Nat.le_refl _) (by rw[fi];omega);rw[r1];simp only[Option.bind_some];have e:ao3 c.fk (fill c.Q (x++(seg W 0 c.T.length++[]))) (iD c.fk.n)=qE c W x:=rfl;rw[e];have i0:ix 0 (qE c W x).1.length=some 0:=dk (k:=0) (by omega);have g0:(qE c W x).1[0]?=some (rg (qE c W x).1 0):=jx (k:=0) (by omega);rw[i0];simp only[Option.bind_some];rw[g0];simp only[Option.bind_some];rw[aO9 (ii:=3) (i:=3) h hW rfl (by omega) (by rw[show c.sz 3=c.Q.toNat from rfl];exact Nat.le_of_eq f2)];simp only[Option.bind_some];rw[aQ6 n.Q (by simp;omega)]
 simp only[Option.bind_some];rw[cs3 h w1 f2 (tQ (by simp;omega)) f3];rfl
theorem cA0 (h:c.Ok){W:List Int}(hW:Wd c W){i0 L p q c0 c1 c2 c3 z lv pk bd:Int}(hl:0≤lv)(hp:lv≤pk)(hb:lv+c.fk.n≤bd)(hbd:bd≤1048576):
  ku i0 c.fixed c.tp c.sl c.ns c.mode c.R c.Q c.len c.words L p q c0 c1 c2 c3 z c.X c.T c.l c.k c.P c.tk lv pk bd W=some (c.fixed,c.tp,c.sl,c.ns,c.mode,c.R,c.Q,c.len,c.words,L,p,q,c0,c1,IntKind.i64.wrap (c2+1),IntKind.i64.wrap (c3+1),rg (qE c W (seg W (c.off 1) c.X.length)).1 0,lv,max pk (lv+c.fk.n),bd,bp0 c W (seg W (c.off 1) c.X.length)):=by
 have n:=h.num;have h1:=hW.in' h (i:=1) (by omega);have l1:(seg W (c.off 1) c.X.length).length=c.X.length:=iu h1;unfold ku;rw[h.of];simp only[Option.bind_some];rw[rA (by omega) hl hb hbd];simp only[Option.bind_some];rw[bp9 (ii:=1) (i:=1) h hW rfl (by omega)];simp only[Option.bind_some];rw[show c.sz 1=c.X.length from rfl,cC5 h hW l1];simp only[Option.bind_some];rw[uw (by omega) (by omega) (by omega) (by omega)];simp only[Option.bind_some];rw[show lv+(c.fk.n:Int)-c.fk.n=lv by omega]
theorem cz1 (h:c.Ok){W x:List Int}(hW:Wd c W)(hx:x.length=c.X.length){L p q c0 c1 c2 c3 z sb sn sx lv pk bd:Int}:
  jr x c.fixed c.tp c.sl c.ns c.mode c.R c.Q c.len c.words L p q c0 c1 c2 c3 z c.X c.T c.l c.k c.P c.tk sb sn sx lv pk bd W=some (c.fixed,c.tp,c.sl,c.ns,c.mode,c.R,c.Q,c.len,c.words,L,p,q,c0,c1,IntKind.i64.wrap (c2+1),IntKind.i64.wrap (c3+1),rg (qE c W x).1 0,bp0 c W x):=by
 have n:=h.num;obtain⟨f1,f2,f3⟩:=yh h hW hx;obtain⟨w1,w2⟩:=ac0 h hW hx;have nR:=n.R;have nQ:=n.Q;have n2:=n.xtQ;have nx:=n.x;have nm:=n.m;unfold jr;rw[h.of];simp only[Option.bind_some];rw[gdz (by omega),bF2 h hW n.Q (by simp;omega)];simp only[Option.bind_some];rw[gdz (by omega),show List.replicate ((c.fk.n:Int)).toNat (0:Int)=iD c.fk.n from rfl];obtain⟨r1,r2,r3⟩:=te h.pk f1 (t:=iD c.fk.n) (by rw[fi];exact Nat.le_refl _) (by rw[fi];omega);rw[r1];simp only[Option.bind_some];have e:ao3 c.fk (fill c.Q (x++(seg W 0 c.T.length++[]))) (iD c.fk.n)=qE c W x:=rfl;rw[e];have i0:ix 0 (qE c W x).1.length=some 0:=dk (k:=0) (by omega);have g0:(qE c W x).1[0]?=some (rg (qE c W x).1 0):=jx (k:=0) (by omega);rw[i0];simp only[Option.bind_some];rw[g0];simp only[Option.bind_some];rw[aI7 (ii:=3) (i:=3) h hW rfl (by omega) (by rw[show c.sz 3=c.Q.toNat from rfl];exact Nat.le_of_eq f2)];simp only[Option.bind_some];rw[aQ6 n.Q (by simp;omega)]
 simp only[Option.bind_some];rw[cs4 h w1 f2 (tQ (by simp;omega)) f3];rfl
theorem cA1 (h:c.Ok){W:List Int}(hW:Wd c W){i0 L p q c0 c1 c2 c3 z sb sn sx lv pk bd:Int}(hl:0≤lv)(hp:lv≤pk)(hb:lv+c.fk.n≤bd)(hbd:bd≤1048576):
  je i0 c.fixed c.tp c.sl c.ns c.mode c.R c.Q c.len c.words L p q c0 c1 c2 c3 z c.X c.T c.l c.k c.P c.tk sb sn sx lv pk bd W=some (c.fixed,c.tp,c.sl,c.ns,c.mode,c.R,c.Q,c.len,c.words,L,p,q,c0,c1,IntKind.i64.wrap (c2+1),IntKind.i64.wrap (c3+1),rg (qE c W (seg W (c.off 1) c.X.length)).1 0,lv,max pk (lv+c.fk.n),bd,bp0 c W (seg W (c.off 1) c.X.length)):=by
 have n:=h.num;have h1:=hW.in' h (i:=1) (by omega);have l1:(seg W (c.off 1) c.X.length).length=c.X.length:=iu h1;unfold je;rw[h.of];simp only[Option.bind_some];rw[rA (by omega) hl hb hbd];simp only[Option.bind_some];rw[aW5 (ii:=1) (i:=1) h hW rfl (by omega)];simp only[Option.bind_some];rw[show c.sz 1=c.X.length from rfl,cz1 h hW l1];simp only[Option.bind_some];rw[uw (by omega) (by omega) (by omega) (by omega)];simp only[Option.bind_some];rw[show lv+(c.fk.n:Int)-c.fk.n=lv by omega]
end
section
variable {c:Cx}
def bD3 (c:Cx)(W r t:List Int):List Int:=am5 c W (md c.fl r (fill c.R (seg W (c.off 5) c.X.length)) t).2.1
theorem aF9 (h:c.Ok){W r t:List Int}(hW:Wd c W)(hr:r.length=c.R.toNat)(ht:t.length=c.fl.n):(fill c.R (seg W (c.off 5) c.X.length)).length=c.R.toNat∧Wd c (bD3 c W r t):=by
 have n:=h.num;have nR:=n.R;have n1:=n.xtR;have nx:=n.x;have nn:=n.n;have h5:=hW.in' h (i:=5) (by omega);have l5:(seg W (c.off 5) c.X.length).length=c.X.length:=iu h5;have hf:(fill c.R (seg W (c.off 5) c.X.length)).length=c.R.toNat:=tQ (by omega);obtain⟨_,r2,r3⟩:=rC h.pl hr hf (Nat.le_of_eq ht.symm) (by omega);exact⟨hf,(pS h hW (by omega) (by omega)).2.2⟩
theorem cr1 (h:c.Ok){W r t:List Int}(hW:Wd c W)(hr:r.length=c.R.toNat)(ht:t.length=c.fl.n){L p q c0 c1 c2 c3 z sb sn sx lv pk bd:Int}:
  jf c.fixed c.tp c.sl c.ns c.mode c.R c.Q c.len c.words L p q c0 c1 c2 c3 z r t c.X c.T c.l c.k c.P c.tk sb sn sx lv pk bd W=some (c.fixed,c.tp,c.sl,c.ns,c.mode,c.R,c.Q,c.len,c.words,L,p,q,c0,c1,c2,IntKind.i64.wrap (c3+1),z,(md c.fl r (fill c.R (seg W (c.off 5) c.X.length)) t).1,bD3 c W r t):=by
 have n:=h.num;have nR:=n.R;have n1:=n.xtR;obtain⟨f1,f2⟩:=aF9 h hW hr ht;have h5:=hW.in' h (i:=5) (by omega);have l5:(seg W (c.off 5) c.X.length).length=c.X.length:=iu h5;unfold jf;rw[aW5 (ii:=5) (i:=5) h hW rfl (by omega)];simp only[Option.bind_some];rw[show c.sz 5=c.X.length from rfl,aQ6 nR (by omega)];simp only[Option.bind_some];rw[cs5 h hW hr f1 ht];rfl
def co2 (c:Cx)(W:List Int)(p:Int):List Int:=bD3 c (put W (c.off 2) (ki c W p).1) (ki c W p).1 (ki c W p).2.1
theorem wO (h:c.Ok){W:List Int}(hW:Wd c W)(p:Int):Wd c (put W (c.off 2) (ki c W p).1):=by
 obtain⟨_,f2,_⟩:=jd h hW p;have h2:=qx (c:=c) (i:=2) (j:=9) (by omega);have s2:c.sz 2=c.R.toNat:=rfl;exact hW.put h (by omega)
theorem cD8 (h:c.Ok){W:List Int}(hW:Wd c W){i0 L p q c0 c1 c2 c3 z sb sn sx lv pk bd:Int}(hl:0≤lv)(hp:lv≤pk)(hb:lv+c.fl.n≤bd)(hbd:bd≤1048576):
  jp i0 c.fixed c.tp c.sl c.ns c.mode c.R c.Q c.len c.words L p q c0 c1 c2 c3 z c.X c.T c.l c.k c.P c.tk sb sn sx lv pk bd W=some (c.fixed,c.tp,c.sl,c.ns,c.mode,c.R,c.Q,c.len,c.words,L,p,q,c0,IntKind.i64.wrap (c1+1),c2,IntKind.i64.wrap (c3+1),z,lv,max pk (lv+c.fl.n),bd,co2 c W p):=by
 obtain⟨f1,f2,f3⟩:=jd h hW p;unfold jp;rw[h.of];simp only[Option.bind_some];rw[rA (by omega) hl hb hbd];simp only[Option.bind_some];rw[cg1 h hW];simp only[Option.bind_some];rw[cr1 h (wO h hW p) f2 f3];simp only[Option.bind_some];rw[uw (by omega) (by omega) (by omega) (by omega)];simp only[Option.bind_some];rw[show lv+(c.fl.n:Int)-c.fl.n=lv by omega];rfl
def bL3 (c:Cx)(W:List Int)(p:Int):List Int:=bD3 c (bp0 c (put W (c.off 2) (ki c W p).1) ((ki c W p).1.take c.X.length)) (ki c W p).1 (ki c W p).2.1
theorem cy9 (h:c.Ok){W:List Int}(hW:Wd c W){i0 L p q c0 c1 c2 c3 z sb sn sx lv pk bd:Int}(hl:0≤lv)(hp:lv≤pk)(hb:lv+(c.fl.n+c.fk.n)≤bd)(hbd:bd≤1048576):
  mn i0 c.fixed c.tp c.sl c.ns c.mode c.R c.Q c.len c.words L p q c0 c1 c2 c3 z c.X c.T c.l c.k c.P c.tk sb sn sx lv pk bd W=some (c.fixed,c.tp,c.sl,c.ns,c.mode,c.R,c.Q,c.len,c.words,L,p,q,c0,IntKind.i64.wrap (c1+1),IntKind.i64.wrap (c2+1),IntKind.i64.wrap (IntKind.i64.wrap (c3+1)+1),rg (qE c (put W (c.off 2) (ki c W p).1) ((ki c W p).1.take c.X.length)).1 0,lv,max pk (lv+(c.fl.n+c.fk.n)),bd,bL3 c W p):=by
 have n:=h.num;have nR:=n.R;have n1:=n.xtR;have nn:=n.n;have nm:=n.m;obtain⟨f1,f2,f3⟩:=jd h hW p;have w1:=wO h hW p;have hx:((ki c W p).1.take c.X.length).length=c.X.length:=by rw[List.length_take];omega
 unfold mn;rw[h.of];simp only[Option.bind_some];rw[bD (n:=(c.fl.n:Int)+(c.fk.n:Int)) (by omega),rA (by omega) hl hb hbd];simp only[Option.bind_some];rw[cg1 h hW];simp only[Option.bind_some];rw[kg (by omega),gw,show((c.X.length:Int)).toNat-0=c.X.length by omega,List.drop_zero,cz1 h w1 hx];simp only[Option.bind_some];rw[cr1 h (ac0 h w1 hx).2 f2 f3];simp only[Option.bind_some];rw[uw (by omega) (by omega) (by omega) (by omega)];simp only[Option.bind_some];rw[show lv+((c.fl.n:Int)+c.fk.n)-(c.fl.n+c.fk.n)=lv by omega];rfl
def bi9 (c:Cx)(W:List Int)(p:Int):List Int:=bV2 c.fl (fill c.R (seg W (c.off 1) c.X.length++(seg W 0 c.T.length++[IntKind.u64.wrap p])))
def cr9 (c:Cx)(W:List Int)(p:Int):List Int:=put (put W (c.off 2) (bi9 c W p)) (c.off 1) ((bi9 c W p).take c.X.length)
def bd3 (c:Cx)(W:List Int)(p:Int):Nat→List Int
 |0=>W
 |i+1=>cr9 c (bd3 c W p i) (p+i)
theorem bS2 {R:Int}{r:List Int}(h:r.length=R.toNat):fill R r=r:=by
 unfold fill;rw[h,Nat.sub_self];simp
theorem ap5 (h:c.Ok){W:List Int}(hW:Wd c W)(p:Int):qG c.R c.l (fill c.R (seg W (c.off 1) c.X.length++(seg W 0 c.T.length++[IntKind.u64.wrap p])))=some (0,bi9 c W p)∧(bi9 c W p).length=c.R.toNat:=by
 obtain⟨f1,_,_⟩:=jd h hW p;have:=bx1 h.pl (r:=fill c.R (seg W (c.off 1) c.X.length++(seg W 0 c.T.length++[IntKind.u64.wrap p]))) (Nat.le_of_eq f1);rw[bS2 f1]at this;exact this
theorem bn7 (h:c.Ok){W:List Int}(hW:Wd c W)(p:Int):Wd c (put W (c.off 2) (bi9 c W p))∧Wd c (cr9 c W p):=by
 have n:=h.num;have nR:=n.R;have n1:=n.xtR;obtain⟨_,f2⟩:=ap5 h hW p;have h1:=qx (c:=c) (i:=1) (j:=9) (by omega);have h2:=qx (c:=c) (i:=2) (j:=9) (by omega);have s1:c.sz 1=c.X.length:=rfl;have s2:c.sz 2=c.R.toNat:=rfl;have w1:=hW.put h (w:=bi9 c W p) (o:=c.off 2) (by omega);exact⟨w1,w1.put h (by rw[List.length_take];omega)⟩
theorem aP2 (h:c.Ok){W:List Int}(hW:Wd c W)(p:Int): ∀i,Wd c (bd3 c W p i)
 |0=>hW
 |i+1=>(bn7 h (aP2 h hW p i) _).2
theorem bX2 (h:c.Ok){W:List Int}(hW:Wd c W){m:Nat}{L p q c0 c1 c2 c3 z sb sn sx lv pk bd:Int}(hm:m≤65536)(hp:0≤p∧p≤65536)(hc:0≤c0∧c0≤4611686018427387904):
  jm (m:Int) c.fixed c.tp c.sl c.ns c.mode c.R c.Q c.len c.words L p q c0 c1 c2 c3 z c.X c.T c.l c.k c.P c.tk sb sn sx lv pk bd W=some (c.fixed,c.tp,c.sl,c.ns,c.mode,c.R,c.Q,c.len,c.words,L,p,q,c0+m,c1,c2,c3,z,bd3 c W p m):=by
 have n:=h.num;have nR:=n.R;have n1:=n.xtR;have nx:=n.x;unfold jm
 have key:cw (iX (m:Int) c.X c.T c.l c.k c.P c.tk sb sn sx lv pk bd) iJ (0,c.fixed,c.tp,c.sl,c.ns,c.mode,c.R,c.Q,c.len,c.words,L,p,q,c0+((0:Nat):Int),c1,c2,c3,z,bd3 c W p 0)=some (c.fixed,c.tp,c.sl,c.ns,c.mode,c.R,c.Q,c.len,c.words,L,p,q,c0+m,c1,c2,c3,z,bd3 c W p m):=by
  refine qD (n:=m) (fun i=>(c.fixed,c.tp,c.sl,c.ns,c.mode,c.R,c.Q,c.len,c.words,L,p,q,c0+(i:Int),c1,c2,c3,z,bd3 c W p i)) (by omega) (fun i hi=> ?_) ?_
  ·have hWi:=aP2 h hW p i;obtain⟨g1,g2⟩:=ap5 h hWi (p+i);obtain⟨w1,w2⟩:=bn7 h hWi (p+i);have l1:(seg (bd3 c W p i) (c.off 1) c.X.length).length=c.X.length:=iu (hWi.in' h (i:=1) (by omega));simp only[iX];rw[decide_eq_true (show(i:Int)<(m:Int)by omega),cond_true,aW5 (ii:=1) (i:=1) h hWi rfl (by omega)];simp only[Option.bind_some];rw[show c.sz 1=c.X.length from rfl,bD (n:=p+(i:Int)) (by omega),bF2 h hWi nR (by rw[l1];simp;omega)];simp only[Option.bind_some];rw[g1];simp only[Option.bind_some];rw[aI7 (ii:=2) (i:=2) h hWi rfl (by omega) (by rw[show c.sz 2=c.R.toNat from rfl];exact Nat.le_of_eq g2)];simp only[Option.bind_some];rw[kg (by omega),gw,show((c.X.length:Int)).toNat-0=c.X.length by omega,List.drop_zero,aI7 (ii:=1) (i:=1) h w1 rfl (by omega) (by rw[List.length_take,show c.sz 1=c.X.length from rfl];omega)];simp only[Option.bind_some];rw[bD (n:=(i:Int)+1) (by omega),bD (n:=c0+(i:Int)+1) (by omega),show c0+(i:Int)+1=c0+((i+1:Nat):Int)by omega]
   rfl
  ·simp only[iX];rw[decide_eq_false (by omega),cond_false]
 rw[show c0+((0:Nat):Int)=c0 by omega,show bd3 c W p 0=W from rfl]at key;rw[key];rfl
end
def qS (a n:Int):Bool:=if a<1 then false else if 9<a then false else if a=1 then decide (1≤n∧n<65536)else if a≤4 then decide (0≤n∧n<1048576)else decide (n=0)
theorem bn5 (a n:Int):tg a n=some (qS a n):=by
 unfold tg qS th;by_cases h1:a<1
 ·rw[decide_eq_true h1,if_pos h1];rfl
 rw[decide_eq_false h1,if_neg h1];by_cases h2:9<a
 ·rw[decide_eq_true h2,if_pos h2];rfl
 rw[decide_eq_false h2,if_neg h2];show cond (decide (a=1)) _ _=_;by_cases h3:a=1
 ·rw[decide_eq_true h3,if_pos h3];by_cases h4:1≤n
  ·rw[decide_eq_true h4];simp[h4]
  ·rw[decide_eq_false h4];simp[h4]
 rw[decide_eq_false h3,if_neg h3,decide_eq_true (show 1≤a by omega)];by_cases h4:a≤4
 ·rw[decide_eq_true h4,if_pos h4];by_cases h5:0≤n
  ·rw[decide_eq_true h5];simp[h5]
  ·rw[decide_eq_false h5];simp[h5]
 ·rw[decide_eq_false h4,if_neg h4];rfl
section
variable {c:Cx}
def sp (c:Cx)(k:Nat):Nat:=c.off 8+k*(c.X.length+1)
def jg (c:Cx)(W:List Int)(k:Nat):Int:=rg W (sp c k:Int)
def ap7 (c:Cx)(W:List Int):List Int:=(List.range c.ns.toNat).map fun(k:Nat)=>jg c W k-1
structure Dy where
 L:Int
 p:Int
 q:Int
 c0:Int
 c1:Int
 c2:Int
 c3:Int
 z:Int
 lv:Int
 pk:Int
 W:List Int
def jh (c:Cx)(W:List Int):Nat:=(List.range c.ns.toNat).countP fun(k:Nat)=>decide (0<jg c W k)
structure Inv (c:Cx)(s:Dy):Prop where
 w:Wd c s.W
 L:0≤s.L∧s.L≤65535
 p:0≤s.p∧s.p≤s.L
 q: -1≤s.q∧s.q≤s.L
 tag: ∀k,k<c.ns.toNat→0≤jg c s.W k∧jg c s.W k≤s.L+1
 lv:s.lv=c.fixed+c.sl*jh c s.W
 pk:s.lv≤s.pk∧s.pk≤c.words
theorem ap3 (h:c.Ok)(hm:c.mode≠3){k:Nat}(hk:k<c.ns.toNat):sp c k+(c.X.length+1)≤c.off 9∧c.ns.toNat*(c.X.length+1)+c.off 8=c.off 9∧c.ns.toNat≤524288:=by
 have n:=h.num;have hsl:=n.sl;rw[if_neg hm]at hsl;have hns:=h.ns
 have e:(c.sl*c.ns).toNat=c.ns.toNat*(c.X.length+1):=by
  have:c.sl*c.ns=((c.ns.toNat*(c.X.length+1):Nat):Int):=by
   rw[Int.natCast_mul,hsl,Int.toNat_of_nonneg hns.1,Int.mul_comm]
   congr 1
  rw[this];rfl
 have h9:c.off 9=c.off 8+c.ns.toNat*(c.X.length+1):=by rw[be3,e]
 have h1:(k+1)*(c.X.length+1)≤c.ns.toNat*(c.X.length+1):=Nat.mul_le_mul_right _ hk;rw[Nat.succ_mul]at h1;have h2:=h.off9_le;have h3:=n.words;have h4:c.ns.toNat*2≤c.ns.toNat*(c.X.length+1):=Nat.mul_le_mul_left _ (by have:=n.x;omega);unfold sp;omega
theorem xr (h:c.Ok)(hm:c.mode≠3){k:Nat}(hk:k<c.ns.toNat):eo (c.off 8:Int) c.ns (c.X.length:Int) (k:Int)=some (sp c k:Int):=by
 obtain⟨h1,h2,h3⟩:=ap3 h hm hk;have h4:=h.off9_le;have h5:=h.num.words;have h6:=h.num.x;unfold sp at h1;unfold eo fq;simp only[Option.bind_some];have e:(k:Int)*((c.X.length:Int)+1)=((k*(c.X.length+1):Nat):Int):=by rw[Int.natCast_mul];congr 1
 rw[bD (n:=(c.X.length:Int)+1) (by omega),e,bD (n:=((k*(c.X.length+1):Nat):Int)) (by omega),bD (by omega)];unfold sp
 congr 1
theorem aF6 (h:c.Ok)(hm:c.mode≠3){W:List Int}(hW:Wd c W){k:Nat}(hk:k<c.ns.toNat):gB (sp c k:Int) c.tk W=some (jg c W k,0):=by
 obtain⟨h1,_,_⟩:=ap3 h hm hk;obtain⟨h2,h3⟩:=hW.tk h;exact bQ4 (by omega) h2 h3
theorem aQ5 (h:c.Ok)(hm:c.mode≠3){W:List Int}(hW:Wd c W)(ht: ∀k,k<c.ns.toNat→0≤jg c W k∧jg c W k≤65536):iT (c.off 8:Int) c.ns (c.X.length:Int) c.tk W=some (ap7 c W):=by
 unfold iT;have hns:=h.ns
 have key:cw (iU (c.off 8:Int) c.ns (c.X.length:Int) c.tk W) iJ (0,(List.range 0).map fun(k:Nat)=>jg c W k-1)=some (ap7 c W):=by
  refine qD (n:=c.ns.toNat) (fun i=>(List.range i).map fun(k:Nat)=>jg c W k-1) (by omega) (fun i hi=> ?_) ?_
  ·have hti:=ht i hi;unfold iU;simp only;rw[decide_eq_true (by omega),cond_true,xr h hm hi];simp only[Option.bind_some];rw[aF6 h hm hW hi];simp only[Option.bind_some];rw[gv (by simp;omega) (by omega),bD (n:=(i:Int)+1) (by omega),bD (n:=jg c W i) (by omega),bD (n:=jg c W i-1) (by omega),List.range_succ,List.map_append];rfl
  ·unfold iU;simp only;rw[decide_eq_false (by omega),cond_false];rfl
 have key:cw (iU (c.off 8:Int) c.ns (c.X.length:Int) c.tk W) iJ (0,[])=_:=key;rw[key];rfl
theorem cf9 {W:List Int}{k:Nat}(hk:k<c.ns.toNat):(ap7 c W)[k]?=some (jg c W k-1):=by
 unfold ap7;rw[List.getElem?_map,List.getElem?_range hk];rfl
theorem ap8 {W:List Int}:(ap7 c W).length=c.ns.toNat:=by unfold ap7;simp
theorem bd8 {l:List Int}{L:Int}(hl:l.length<1000000)(h: ∀t∈l,-1≤t∧t≤L):ib l L=some false:=by
 unfold ib kl
 have key:cw (ic l L) iJ 0=some (.inr ()):=by
  refine uv (n:=l.length) (by omega) (fun i hi=> ?_) ?_
  ·have:=h l[i] (List.getElem_mem hi);unfold ic pe;rw[decide_eq_true (by omega),cond_true,iz hi];simp only[Option.bind_some];rw[decide_eq_false (by omega),cond_false];simp only[Option.bind_some];rw[decide_eq_false (by omega),cond_false,bD (by omega)];rfl
  ·unfold ic;rw[decide_eq_false (by omega),cond_false]
 rw[key];rfl
theorem aX5 {L p q:Int}{l:List Int}(hL:0≤L∧L≤65535)(hp:0≤p∧p≤L)(hq: -1≤q∧q≤L)(hl:l.length<1000000)(h: ∀t∈l,-1≤t∧t≤L):qb L p q l=some (.inr (p,q,L,l)):=by
 unfold qb wQ pe;rw[decide_eq_true (show 0≤L by omega),decide_eq_true (show L<65536 by omega)];simp only[cond_true,Option.bind_some,Bool.not_true,cond_false];rw[decide_eq_false (show¬(1048576<(l.length:Int))by omega),decide_eq_false (show¬p= -1 by omega),decide_eq_false (show¬p< -1 by omega),decide_eq_false (show¬L<p by omega),decide_eq_false (show¬q< -1 by omega),decide_eq_false (show¬L<q by omega)];simp only[cond_false,Option.bind_some];rw[bd8 hl h];simp only[Option.bind_some,cond_false];unfold i8;rw[gv (by omega) (by omega)];rfl
end
section
variable {c:Cx}
def doF (c:Cx)(a n:Int)(s:Dy):Int×Dy:=
 if qS a n=false∨7<a then(2,s)
 else if(2≤a∧a≤4)∧c.ns≤n then(2,s)
 else if a=1 then(if s.L-s.p<n then(17,s)else(0,{s with p:=s.p+n,c0:=s.c0+n,W:=bd3 c s.W s.p n.toNat}))
 else if a=2 then(if 0≤jg c s.W n.toNat-1 then(15,s)else(0,{s with lv:=s.lv+c.sl,pk:=max s.pk (s.lv+c.sl),W:=put s.W (sp c n.toNat) (IntKind.u64.wrap (IntKind.i64.wrap (s.p+1))::seg s.W (c.off 1) c.X.length)}))
 else if a=3 then(if jg c s.W n.toNat-1<0 then(16,s)else(0,{s with p:=jg c s.W n.toNat-1,W:=put s.W (c.off 1) (seg s.W (sp c n.toNat+1) c.X.length)}))
 else if a=4 then(if jg c s.W n.toNat-1<0 then(16,s)else(0,{s with lv:=s.lv-c.sl,W:=put s.W (sp c n.toNat) (iD (c.X.length+1))}))
 else if a=5 then(if s.q≠ -1 then(18,s)else if s.p≠s.L then(17,s)else(0,{s with q:=s.p,c2:=s.c2+1,c3:=s.c3+1,z:=rg (qE c s.W (seg s.W (c.off 1) c.X.length)).1 0,pk:=max s.pk (s.lv+c.fk.n),W:=bp0 c s.W (seg s.W (c.off 1) c.X.length)}))
 else if a=6 then(if s.q≠ -1 then(18,s)else if s.p≠s.L-1 then(17,s)else(0,{s with q:=s.p,c1:=s.c1+1,c2:=s.c2+1,c3:=s.c3+1+1,z:=rg (qE c (put s.W (c.off 2) (ki c s.W s.p).1) ((ki c s.W s.p).1.take c.X.length)).1 0,pk:=max s.pk (s.lv+(c.fl.n+c.fk.n)),W:=bL3 c s.W s.p}))
 else(if s.q≤0 then(18,s)else if s.p≠s.q-1 then(17,s)else(0,{s with q:=s.p,c1:=s.c1+1,c3:=s.c3+1,pk:=max s.pk (s.lv+c.fl.n),W:=co2 c s.W s.p}))
def bG3 (c:Cx)(r:Int×Dy):Int×Int×Int×Int×Int×Int×Int×Int×Int×Int×Int×Int×Int×Int×Int×Int×Int×Int×Int×Int×Int×List Int:=
 (r.1,c.fixed,c.tp,c.sl,c.ns,c.mode,c.R,c.Q,c.len,c.words,r.2.L,r.2.p,r.2.q,r.2.c0,r.2.c1,r.2.c2,r.2.c3,r.2.z,r.2.lv,r.2.pk,c.words,r.2.W)
def Cnt (B:Int)(s:Dy):Prop:=(0≤s.c0∧s.c0≤B)∧(0≤s.c1∧s.c1≤B)∧(0≤s.c2∧s.c2≤B)∧(0≤s.c3∧s.c3≤B)
theorem bP7 (c:Cx)(W:List Int):jh c W≤c.ns.toNat:=by
 unfold jh;exact Nat.le_trans List.countP_le_length (by simp)
theorem aD5 (h:c.Ok){s:Dy}(hi:Inv c s):0≤s.lv∧s.lv+c.tp≤c.words∧c.words≤1048576∧0≤c.tp:=by
 have n:=h.num;have h1:=hi.lv;have h2:=bP7 c s.W;have h3:=h.fit;have h4:=n.fixed;have h5:=h.ns;have h6:=n.sl;have h7:1≤c.sl:=by rw[h6];have:=n.R;split<;>omega
 have h8:c.sl*(jh c s.W:Int)≤c.sl*c.ns:=Int.mul_le_mul_of_nonneg_left (by omega) (by omega);have h9:0≤c.sl*(jh c s.W:Int):=Int.mul_nonneg (by omega) (by omega);have h10:0≤c.tp:=by rw[n.tp];split<;>omega
 have:=n.R;have:=n.Q;have:=n.words;refine⟨by omega,by omega,by omega,h10⟩
theorem bh5 (h:c.Ok){s:Dy}(hi:Inv c s)(hu:jh c s.W<c.ns.toNat):s.lv+c.sl≤c.words:=by
 have n:=h.num;have h1:=hi.lv;have h3:=h.fit;have h5:=h.ns;have h6:=n.sl;have h7:1≤c.sl:=by rw[h6];have:=n.R;split<;>omega
 have h8:c.sl*((jh c s.W:Int)+1)≤c.sl*c.ns:=Int.mul_le_mul_of_nonneg_left (by omega) (by omega);have h10:0≤c.tp:=by rw[n.tp];split<;>omega
 rw[Int.mul_add,Int.mul_one]at h8;omega
theorem bR4 {l:List Nat}{P:Nat→Bool}{k:Nat}(hk:k∈l)(hP:P k=false):l.countP P<l.length:=by
 rcases Nat.lt_or_ge (l.countP P) l.length with h|h
 ·exact h
 ·have:=List.countP_eq_length.1 (Nat.le_antisymm List.countP_le_length h) k hk;rw[hP]at this;cases this
theorem bg6 {W:List Int}{k:Nat}(hk:k<c.ns.toNat)(ht:jg c W k≤0):jh c W<c.ns.toNat:=by
 have:=bR4 (l:=List.range c.ns.toNat) (P:=fun(k:Nat)=>decide (0<jg c W k)) (k:=k) (List.mem_range.2 hk) (decide_eq_false (by omega));rw[List.length_range]at this;exact this
theorem bH0 {k:Nat}{sb sx:Int}(hk:k<c.ns.toNat):ke sb c.ns sx (k:Int)=some true:=by
 unfold ke;rw[decide_eq_true (by omega),cond_true,decide_eq_true (by omega)]
theorem cw9 (h:c.Ok)(hm:c.mode≠3){s:Dy}(hi:Inv c s){k:Nat}(hk:k<c.ns.toNat)(ht:jg c s.W k≤0):
  ld (k:Int) c.fixed c.tp c.sl c.ns c.mode c.R c.Q c.len c.words s.L s.p s.q s.c0 s.c1 s.c2 s.c3 s.z c.X c.T c.l c.k c.P c.tk (c.off 8:Int) c.ns (c.X.length:Int) s.lv s.pk c.words s.W=some (s.lv+c.sl,max s.pk (s.lv+c.sl),c.words,put s.W (sp c k) (IntKind.u64.wrap (IntKind.i64.wrap (s.p+1))::seg s.W (c.off 1) c.X.length)):=by
 have n:=h.num;have hW:=hi.w;obtain⟨g1,g2,g3⟩:=aD5 h hi;have g4:=bh5 h hi (bg6 hk ht);have hsl:=n.sl;rw[if_neg hm]at hsl;have hx:=n.x;have hp:=hi.p;have hL:=hi.L;have ht0:=(hi.tag k hk).1;obtain⟨s1,s2,s3⟩:=ap3 h hm hk;obtain⟨t1,t2⟩:=hW.tk h;have l1:(seg s.W (c.off 1) c.X.length).length=c.X.length:=iu (hW.in' h (i:=1) (by omega));unfold ld;rw[rA (by omega) g1 g4 (by omega)];simp only[Option.bind_some];rw[aW5 (ii:=1) (i:=1) h hW rfl (by omega)];simp only[Option.bind_some];rw[show c.sz 1=c.X.length from rfl];unfold qO;rw[bH0 hk];simp only[Option.bind_some,Bool.not_true,cond_false];rw[xr h hm hk];simp only[Option.bind_some];rw[aF6 h hm hW hk];simp only[Option.bind_some];rw[decide_eq_false (show¬s.p<0 by omega),cond_false,decide_eq_false (show¬65536≤s.p by omega)];simp only[Option.bind_some,cond_false];rw[l1,decide_eq_false (fun k=>k rfl),cond_false,decide_eq_false (show¬(jg c s.W k≠0)by omega),cond_false,gv (by omega) (by omega)]
 unfold Cx.tk;rw[sU (by simp[l1];omega) t1 t2];rfl
theorem ce1 (h:c.Ok)(hm:c.mode≠3){s:Dy}(hi:Inv c s){k:Nat}(hk:k<c.ns.toNat)(ht:0<jg c s.W k):
  jo (k:Int) c.fixed c.tp c.sl c.ns c.mode c.R c.Q c.len c.words s.L s.p s.q s.c0 s.c1 s.c2 s.c3 s.z c.X c.T c.l c.k c.P c.tk (c.off 8:Int) c.ns (c.X.length:Int) s.lv s.pk c.words s.W=some (put s.W (c.off 1) (seg s.W (sp c k+1) c.X.length)):=by
 have n:=h.num;have hW:=hi.w;have hL:=hi.L;have ht1:=(hi.tag k hk).2;obtain⟨s1,s2,s3⟩:=ap3 h hm hk;obtain⟨t1,t2⟩:=hW.tk h;have l1:(seg s.W (sp c k+1) c.X.length).length=c.X.length:=iu (by omega);unfold jo po;rw[bH0 hk];simp only[Option.bind_some,Bool.not_true,cond_false];rw[xr h hm hk];simp only[Option.bind_some];rw[aF6 h hm hW hk];simp only[Option.bind_some];rw[decide_eq_false (show¬jg c s.W k=0 by omega),cond_false,bD (n:=(sp c k:Int)+1) (by omega),show(sp c k:Int)+1=((sp c k+1:Nat):Int)by omega];unfold Cx.tk;rw[xe (by omega) t1 t2];simp only[Option.bind_some];rw[show((c.off 9:Nat):Int)=c.tk from rfl,aI7 (ii:=1) (i:=1) h hW rfl (by omega) (by rw[l1];exact Nat.le_refl _)];rfl
theorem cz4 (h:c.Ok)(hm:c.mode≠3){s:Dy}(hi:Inv c s){k:Nat}(hk:k<c.ns.toNat)(ht:0<jg c s.W k)(hlv:c.sl≤s.lv):
  mp (k:Int) c.fixed c.tp c.sl c.ns c.mode c.R c.Q c.len c.words s.L s.p s.q s.c0 s.c1 s.c2 s.c3 s.z c.X c.T c.l c.k c.P c.tk (c.off 8:Int) c.ns (c.X.length:Int) s.lv s.pk c.words s.W=some (s.lv-c.sl,s.pk,c.words,put s.W (sp c k) (iD (c.X.length+1))):=by
 have n:=h.num;have hW:=hi.w;have hx:=n.x;have hsl:=n.sl;rw[if_neg hm]at hsl;obtain⟨g1,g2,g3⟩:=aD5 h hi;have hpk:=hi.pk;obtain⟨s1,s2,s3⟩:=ap3 h hm hk;obtain⟨t1,t2⟩:=hW.tk h;unfold mp re;rw[bH0 hk];simp only[Option.bind_some,Bool.not_true,cond_false];rw[xr h hm hk];simp only[Option.bind_some];rw[aF6 h hm hW hk];simp only[Option.bind_some];rw[decide_eq_false (show¬jg c s.W k=0 by omega),cond_false];unfold fq;simp only[Option.bind_some];rw[bD (n:=(c.X.length:Int)+1) (by omega),gdz (by omega),show List.replicate (((c.X.length:Int)+1).toNat) (0:Int)=iD (c.X.length+1)from rfl];unfold Cx.tk;rw[sU (by rw[fi];omega) t1 t2];simp only[Option.bind_some];rw[uw (by omega) hlv hpk.1 (by omega)];rfl
end
def cu9 (a n p q L tot:Int)(l:List Int):Int×Int×Int×Int×Int×List Int:=
 if qS a n=false∨7<a then(2,p,q,L,tot,l)
 else if(2≤a∧a≤4)∧(l.length:Int)≤n then(2,p,q,L,tot,l)
 else if a=1 then(if L-p<n then(17,p,q,L,tot,l)else(0,p+n,q,L,tot+n,l))
 else if a=2 then(if 0≤rg l n then(15,p,q,L,tot,l)else(0,p,q,L,tot,l.set n.toNat p))
 else if a=3 then(if rg l n<0 then(16,p,q,L,tot,l)else(0,rg l n,q,L,tot,l))
 else if a=4 then(if rg l n<0 then(16,p,q,L,tot,l)else(0,p,q,L,tot,l.set n.toNat (-1)))
 else if a=5 then(if q≠ -1 then(18,p,q,L,tot,l)else if p≠L then(17,p,q,L,tot,l)else(0,p,p,L,tot,l))
 else if a=6 then(if q≠ -1 then(18,p,q,L,tot,l)else if p≠L-1 then(17,p,q,L,tot,l)else(0,p,p,L,tot,l))
 else(if q≤0 then(18,p,q,L,tot,l)else if p≠q-1 then(17,p,q,L,tot,l)else(0,p,p,L,tot,l))
theorem nbz :Nat.beq 0 0=true:=rfl
theorem nbs (n:Nat):Nat.beq (n+1) 0=false:=rfl
theorem ad0 {a n:Int}(h: ¬(qS a n=false∨7<a)):qS a n=true∧(a=1∨a=2∨a=3∨a=4∨a=5∨a=6∨a=7):=by
 have h1:qS a n=true:=by
  cases hr:qS a n with
  |true=>rfl
  |false=>exact(h (.inl hr)).elim
 refine⟨h1, ?_⟩;have h2: ¬a<1:=fun h3=>by unfold qS at h1;rw[if_pos h3]at h1;cases h1
 omega
theorem ad1 {a n:Int}(h:qS a n=true)(ha:1≤a∧a≤4):0≤n∧n<1048576∧(a=1→1≤n∧n<65536):=by
 unfold qS at h;rw[if_neg (by omega),if_neg (by omega)]at h;by_cases h1:a=1
 ·rw[if_pos h1]at h;have:=of_decide_eq_true h;omega
 ·rw[if_neg h1,if_pos (by omega)]at h;have:=of_decide_eq_true h;omega
theorem bH3 {a n p q L tot:Int}{l:List Int}(hL:0≤L∧L≤65535)(hp:0≤p∧p≤L)(hq: -1≤q∧q≤L)(ht:0≤tot∧tot≤1000000000000):jw a n p q L tot l=some (cu9 a n p q L tot l):=by
 unfold jw cu9;rw[bn5];simp only[Option.bind_some];by_cases h1:qS a n=false∨7<a
 ·rw[if_pos h1]
  have e:(cond (!qS a n) (some true) (some (decide (7<a))))=some true:=by
   rcases h1 with h1|h1
   ·rw[h1];rfl
   ·rw[decide_eq_true h1];cases qS a n<;>rfl
  rw[e];rfl
 rw[if_neg h1];obtain⟨h2,hk⟩:=ad0 h1;have h3: ¬7<a:=fun h=>h1 (.inr h)
 rw[h2,decide_eq_false h3];simp only[Bool.not_true,cond_false,Option.bind_some];by_cases h4:(2≤a∧a≤4)∧(l.length:Int)≤n
 ·rw[if_pos h4,decide_eq_true h4.1.1,decide_eq_true h4.1.2,decide_eq_true h4.2];rfl
 rw[if_neg h4]
 have e:(cond (decide (2≤a)) (cond (decide (a≤4)) (cond (decide ((l.length:Int)≤n)) (some (Sum.inl ())) (some (Sum.inr ()))) (some (Sum.inr ()))) (some (Sum.inr ())):Option (Unit⊕Unit))=some (.inr ()):=by
  by_cases h5:2≤a
  ·rw[decide_eq_true h5];by_cases h6:a≤4
   ·rw[decide_eq_true h6,decide_eq_false (fun h7=>h4 ⟨⟨h5,h6⟩,h7⟩)];rfl
   ·rw[decide_eq_false h6];rfl
  ·rw[decide_eq_false h5];rfl
 rw[e];simp only[Option.bind_some,dw,pf]
 have slot:(2≤a∧a≤4)→0≤n∧n.toNat<l.length∧ix n l.length=some n.toNat∧l[n.toNat]?=some (rg l n):=fun hs=>by
  have hn:=ad1 h2 ⟨by omega,hs.2⟩
  have hlt:n.toNat<l.length:=by
   have: ¬(l.length:Int)≤n:=fun h7=>h4 ⟨hs,h7⟩
   omega
  have en:n=((n.toNat:Nat):Int):=by omega
  refine⟨hn.1,hlt, ?_, ?_⟩
  ·conv=>lhs;rw[en]
   exact dk hlt
  ·have:=jx hlt;rw[←en]at this;exact this
 rcases hk with rfl|rfl|rfl|rfl|rfl|rfl|rfl
 ·have hn:=ad1 h2 (by omega);rw[show ix 1 8=some 1 from rfl];simp only[Option.bind_some,Nat.reduceSub,nbz,nbs,cond_true,cond_false];rw[if_pos trivial];unfold my;rw[bD (n:=L-p) (by omega),ck];by_cases h5:L-p<n
  ·rw[if_pos h5,if_pos h5];rfl
  ·rw[if_neg h5,if_neg h5,bD (n:=p+n) (by omega),bD (n:=tot+n) (by omega)];rfl
 ·obtain⟨s1,s2,s3,s4⟩:=slot (by omega);rw[show ix 2 8=some 2 from rfl];simp only[Option.bind_some,Nat.reduceSub,nbz,nbs,cond_true,cond_false];rw[if_neg (by decide),if_pos trivial];unfold pg;rw[s3];simp only[Option.bind_some];rw[s4];simp only[Option.bind_some,ck];by_cases h5:0≤rg l n
  ·rw[if_pos h5,if_pos h5];rfl
  ·rw[if_neg h5,if_neg h5];rfl
 ·obtain⟨s1,s2,s3,s4⟩:=slot (by omega);rw[show ix 3 8=some 3 from rfl];simp only[Option.bind_some,Nat.reduceSub,nbz,nbs,cond_true,cond_false];rw[if_neg (by decide),if_neg (by decide),if_pos trivial];unfold mz;rw[s3];simp only[Option.bind_some];rw[s4];simp only[Option.bind_some,ck];by_cases h5:rg l n<0
  ·rw[if_pos h5,if_pos h5];rfl
  ·rw[if_neg h5,if_neg h5];rfl
 ·obtain⟨s1,s2,s3,s4⟩:=slot (by omega);rw[show ix 4 8=some 4 from rfl];simp only[Option.bind_some,Nat.reduceSub,nbz,nbs,cond_true,cond_false];rw[if_neg (by decide),if_neg (by decide),if_neg (by decide),if_pos trivial];unfold qd;rw[s3];simp only[Option.bind_some];rw[s4];simp only[Option.bind_some,ck];by_cases h5:rg l n<0
  ·rw[if_pos h5,if_pos h5];rfl
  ·rw[if_neg h5,if_neg h5];rfl
 ·rw[show ix 5 8=some 5 from rfl];simp only[Option.bind_some,Nat.reduceSub,nbz,nbs,cond_true,cond_false];rw[if_neg (by decide),if_neg (by decide),if_neg (by decide),if_neg (by decide),if_pos trivial];unfold qe iS;rw[bD (n:=L-0) (by omega),ck];by_cases h5:q≠ -1
  ·rw[if_pos h5,if_pos h5];rfl
  ·rw[if_neg h5,if_neg h5,decide_eq_true (show q= -1 by omega),Bool.and_true,Int.sub_zero];by_cases h6:p=L
   ·rw[decide_eq_true h6,if_neg (fun k=>k h6)];rfl
   ·rw[decide_eq_false h6,if_pos h6];rfl
 ·rw[show ix 6 8=some 6 from rfl];simp only[Option.bind_some,Nat.reduceSub,nbz,nbs,cond_true,cond_false];rw[if_neg (by decide),if_neg (by decide),if_neg (by decide),if_neg (by decide),if_neg (by decide),if_pos trivial];unfold qc iS;rw[bD (n:=L-1) (by omega),ck];by_cases h5:q≠ -1
  ·rw[if_pos h5,if_pos h5];rfl
  ·rw[if_neg h5,if_neg h5,decide_eq_true (show q= -1 by omega),Bool.and_true];by_cases h6:p=L-1
   ·rw[decide_eq_true h6,if_neg (fun k=>k h6)];rfl
   ·rw[decide_eq_false h6,if_pos h6];rfl
 ·rw[show ix 7 8=some 7 from rfl];simp only[Option.bind_some,Nat.reduceSub,nbz,nbs,cond_true,cond_false];rw[if_neg (by decide),if_neg (by decide),if_neg (by decide),if_neg (by decide),if_neg (by decide),if_neg (by decide)];unfold mB;rw[ck];by_cases h5:q≤0
  ·rw[if_pos h5,if_pos h5];rfl
  ·rw[if_neg h5,if_neg h5,bD (n:=q-1) (by omega),ck];by_cases h6:p≠q-1
   ·rw[if_pos h6,if_pos h6];rfl
   ·rw[if_neg h6,if_neg h6];rfl
section
variable {c:Cx}
theorem bC6 {W:List Int}{L:Int}(ht: ∀k,k<c.ns.toNat→0≤jg c W k∧jg c W k≤L+1): ∀t∈ap7 c W,-1≤t∧t≤L:=fun t hm=>by
 unfold ap7 at hm;obtain⟨k,hk,rfl⟩:=List.mem_map.1 hm;have:=ht k (List.mem_range.1 hk);omega
theorem co3 {W:List Int}{n:Int}(h:0≤n)(hn:n.toNat<c.ns.toNat):rg (ap7 c W) n=jg c W n.toNat-1:=by
 have h1:=cf9 (c:=c) (W:=W) hn;have h2:=jx (r:=ap7 c W) (k:=n.toNat) (by rw[ap8];exact hn);rw[h1,Int.toNat_of_nonneg h]at h2;injection h2 with h2
 exact h2.symm
theorem Cnt.in' {B:Int}{s:Dy}(h:Cnt B s)(hB:B≤2305843009213693952):(0≤s.c0∧s.c0≤2305843009213693952)∧(0≤s.c1∧s.c1≤2305843009213693952)∧(0≤s.c2∧s.c2≤2305843009213693952)∧(0≤s.c3∧s.c3≤2305843009213693952):=by
 unfold Cnt at h;omega
theorem cg6 {W:List Int}{k:Nat}(hk:k<c.ns.toNat)(ht:0<jg c W k):0<jh c W:=by
 unfold jh;exact List.countP_pos_iff.2 ⟨k,List.mem_range.2 hk,decide_eq_true ht⟩
theorem ca9 (h:c.Ok){s:Dy}(hi:Inv c s)(hu:0<jh c s.W):c.sl≤s.lv:=by
 have n:=h.num;have h1:=hi.lv;have h4:=n.fixed;have h6:=n.sl;have h7:1≤c.sl:=by rw[h6];have:=n.R;split<;>omega
 have h8:c.sl*1≤c.sl*(jh c s.W:Int):=Int.mul_le_mul_of_nonneg_left (by omega) (by omega);have:=n.R;have:=n.Q;omega
theorem do2 (h:c.Ok)(hm:c.mode≠3){s:Dy}(hi:Inv c s){B:Int}(hc:Cnt B s)(hB:B≤2305843009213693952){a n:Int}:
  cv a n c.fixed c.tp c.sl c.ns c.mode c.R c.Q c.len c.words s.L s.p s.q s.c0 s.c1 s.c2 s.c3 s.z c.X c.T c.l c.k c.P c.tk (c.off 8:Int) c.ns (c.X.length:Int) s.lv s.pk c.words s.W=some (bG3 c (doF c a n s)):=by
 have nm:=h.num;have hW:=hi.w;have hL:=hi.L;have hp:=hi.p;have hq:=hi.q;have hpk:=hi.pk;have hns:=h.ns;obtain⟨k0,k1,k2,k3⟩:=hc.in' hB;obtain⟨g1,g2,g3,g4⟩:=aD5 h hi;have htp:=nm.tp;rw[if_neg hm]at htp
 have hlen:(ap7 c s.W).length<1000000:=by
  rw[ap8];rcases Nat.eq_zero_or_pos c.ns.toNat with h0|h0
  ·omega
  ·have:=(ap3 h hm h0).2.2;omega
 unfold cv mt;simp only[Option.bind_some];rw[decide_eq_false hm,cond_false];unfold eu;rw[aQ5 h hm hW (fun k hk=>by have:=hi.tag k hk;omega)];simp only[Option.bind_some];rw[aX5 hL hp hq hlen (bC6 hi.tag)];simp only[Option.bind_some,dw];rw[bH3 hL hp hq (by omega)];simp only[Option.bind_some];unfold cu9 doF;by_cases h1:qS a n=false∨7<a
 ·rw[if_pos h1,if_pos h1,decide_eq_true (by simp),cond_true];rfl
 rw[if_neg h1,if_neg h1];obtain⟨h2,hk⟩:=ad0 h1;rw[ap8,Int.toNat_of_nonneg hns.1];by_cases h4:(2≤a∧a≤4)∧c.ns≤n
 ·rw[if_pos h4,if_pos h4,decide_eq_true (by simp),cond_true];rfl
 rw[if_neg h4,if_neg h4]
 have slot:(2≤a∧a≤4)→n=((n.toNat:Nat):Int)∧n.toNat<c.ns.toNat∧rg (ap7 c s.W) n=jg c s.W n.toNat-1:=fun hs=>by
  have hn:=ad1 h2 ⟨by omega,hs.2⟩
  have hlt:n.toNat<c.ns.toNat:=by
   have: ¬c.ns≤n:=fun h7=>h4 ⟨hs,h7⟩
   omega
  exact⟨by omega,hlt,co3 hn.1 hlt⟩
 simp only[pV,cz,i8,Option.bind_some];have fitT: ∀l:List Int,l.length<1000000→gd (od (0+l.length) 8) (some l)=some l:=fun l hl=>gv (by omega) (by omega)
 have hset: ∀(i:Nat) (x:Int),((ap7 c s.W).set i x).length<1000000:=fun i x=>by simp only[List.length_set];exact hlen
 rcases hk with rfl|rfl|rfl|rfl|rfl|rfl|rfl
 ·have hn:=ad1 h2 (by omega);simp only[Int.reduceEq,reduceIte];by_cases h5:s.L-s.p<n
  ·rw[if_pos h5,if_pos h5,decide_eq_true (by simp),cond_true];rfl
  rw[if_neg h5,if_neg h5,decide_eq_false (by simp),cond_false,show ix 1 8=some 1 from rfl];simp only[Option.bind_some,Nat.reduceSub,nbz,nbs,cond_true,cond_false];have en:n=((n.toNat:Nat):Int):=by omega
  have ha:=bX2 h hW (m:=n.toNat) (L:=s.L) (p:=s.p) (q:=s.q) (c0:=s.c0) (c1:=s.c1) (c2:=s.c2) (c3:=s.c3) (z:=s.z) (sb:=(c.off 8:Int)) (sn:=c.ns) (sx:=(c.X.length:Int)) (lv:=s.lv) (pk:=s.pk) (bd:=c.words) (by omega) (by omega) (by omega);rw[←en]at ha;rw[ha];simp only[Option.bind_some];rw[fitT _ hlen];rfl
 ·obtain⟨en,hlt,ht⟩:=slot (by omega);simp only[Int.reduceEq,reduceIte];rw[ht];by_cases h5:0≤jg c s.W n.toNat-1
  ·rw[if_pos h5,if_pos h5,decide_eq_true (by simp),cond_true];rfl
  rw[if_neg h5,if_neg h5,decide_eq_false (by simp),cond_false,show ix 2 8=some 2 from rfl];simp only[Option.bind_some,Nat.reduceSub,nbz,nbs,cond_true,cond_false];have ha:=cw9 h hm hi hlt (by omega);rw[←en]at ha;rw[ha];simp only[Option.bind_some];rw[fitT _ (hset _ _)];rfl
 ·obtain⟨en,hlt,ht⟩:=slot (by omega);simp only[Int.reduceEq,reduceIte];rw[ht];by_cases h5:jg c s.W n.toNat-1<0
  ·rw[if_pos h5,if_pos h5,decide_eq_true (by simp),cond_true];rfl
  rw[if_neg h5,if_neg h5,decide_eq_false (by simp),cond_false,show ix 3 8=some 3 from rfl];simp only[Option.bind_some,Nat.reduceSub,nbz,nbs,cond_true,cond_false];have ha:=ce1 h hm hi hlt (by omega);rw[←en]at ha;rw[ha];simp only[Option.bind_some];rw[fitT _ hlen];rfl
 ·obtain⟨en,hlt,ht⟩:=slot (by omega);simp only[Int.reduceEq,reduceIte];rw[ht];by_cases h5:jg c s.W n.toNat-1<0
  ·rw[if_pos h5,if_pos h5,decide_eq_true (by simp),cond_true];rfl
  rw[if_neg h5,if_neg h5,decide_eq_false (by simp),cond_false,show ix 4 8=some 4 from rfl];simp only[Option.bind_some,Nat.reduceSub,nbz,nbs,cond_true,cond_false];have ha:=cz4 h hm hi hlt (by omega) (ca9 h hi (cg6 hlt (by omega)));rw[←en]at ha;rw[ha];simp only[Option.bind_some];rw[fitT _ (hset _ _)];rfl
 ·simp only[Int.reduceEq,reduceIte];by_cases h5:s.q≠ -1
  ·rw[if_pos h5,if_pos h5,decide_eq_true (by simp),cond_true];rfl
  rw[if_neg h5,if_neg h5];by_cases h6:s.p≠s.L
  ·rw[if_pos h6,if_pos h6,decide_eq_true (by simp),cond_true];rfl
  rw[if_neg h6,if_neg h6,decide_eq_false (by simp),cond_false,show ix 5 8=some 5 from rfl];simp only[Option.bind_some,Nat.reduceSub,nbz,nbs,cond_true,cond_false];rw[cA1 h hW g1 hpk.1 (by omega) g3];simp only[Option.bind_some];rw[fitT _ hlen,bD (n:=s.c2+1) (by omega),bD (n:=s.c3+1) (by omega)];rfl
 ·simp only[Int.reduceEq,reduceIte];by_cases h5:s.q≠ -1
  ·rw[if_pos h5,if_pos h5,decide_eq_true (by simp),cond_true];rfl
  rw[if_neg h5,if_neg h5];by_cases h6:s.p≠s.L-1
  ·rw[if_pos h6,if_pos h6,decide_eq_true (by simp),cond_true];rfl
  rw[if_neg h6,if_neg h6,decide_eq_false (by simp),cond_false,show ix 6 8=some 6 from rfl];simp only[Option.bind_some,Nat.reduceSub,nbz,nbs,cond_true,cond_false];rw[cy9 h hW g1 hpk.1 (by omega) g3];simp only[Option.bind_some];rw[fitT _ hlen,bD (n:=s.c1+1) (by omega),bD (n:=s.c2+1) (by omega),bD (n:=s.c3+1) (by omega),bD (n:=s.c3+1+1) (by omega)];rfl
 ·simp only[Int.reduceEq,reduceIte];by_cases h5:s.q≤0
  ·rw[if_pos h5,if_pos h5,decide_eq_true (by simp),cond_true];rfl
  rw[if_neg h5,if_neg h5];by_cases h6:s.p≠s.q-1
  ·rw[if_pos h6,if_pos h6,decide_eq_true (by simp),cond_true];rfl
  rw[if_neg h6,if_neg h6,decide_eq_false (by simp),cond_false,show ix 7 8=some 7 from rfl];simp only[Option.bind_some,Nat.reduceSub,nbz,nbs,cond_true,cond_false];rw[cD8 h hW g1 hpk.1 (by omega) g3];simp only[Option.bind_some];rw[fitT _ hlen,bD (n:=s.c1+1) (by omega),bD (n:=s.c3+1) (by omega)];rfl
end
section
variable {c:Cx}
def iB (c:Cx)(W W':List Int):Prop:= ∀i,c.off 8≤i→W'[i]?=W[i]?
theorem iB.refl (W:List Int):iB c W W:=fun _ _=>rfl
theorem iB.trans {W W' W'':List Int}(h:iB c W W')(h':iB c W' W''):iB c W W'':=fun i hi=>(h' i hi).trans (h i hi)
theorem iB.put (h:c.Ok){W W' w:List Int}{i:Nat}(hK:iB c W W')(hW:Wd c W')(hi:i<8)(hw:w.length≤c.sz i):iB c W (put W' (c.off i) w):=fun j hj=>by
 have h1:=qx (c:=c) (i:=i) (j:=8) hi;have h2:=hW.in' h (i:=i) (by omega);rw[bI5 (by omega) (.inr (by omega))];exact hK j hj
theorem iB.rg {W W':List Int}(h:iB c W W'){i:Nat}(hi:c.off 8≤i):rg W' (i:Int)=rg W (i:Int):=by
 unfold Go.V.rg;rw[Int.toNat_natCast,List.getD_eq_getElem?_getD,List.getD_eq_getElem?_getD,h i hi]
theorem iB.tag {W W':List Int}(h:iB c W W')(k:Nat):jg c W' k=jg c W k:=h.rg (by unfold sp;omega)
theorem iB.used {W W':List Int}(h:iB c W W'):jh c W'=jh c W:=by
 unfold jh
 congr 1
 funext k
 rw[h.tag k]
theorem iB.seg {W W':List Int}(h:iB c W W'){o n:Nat}(ho:c.off 8≤o):seg W' o n=seg W o n:=by
 apply List.ext_getElem?;intro i;rw[aF3,aF3];split
 ·exact h _ (by omega)
 ·rfl
theorem bx7 (h:c.Ok){W a:List Int}(hW:Wd c W)(ha:c.X.length+c.T.length≤a.length)(ha2:a.length≤max c.R.toNat c.Q.toNat):iB c W (am5 c W a):=by
 obtain⟨w1,w2,w3⟩:=pS h hW ha ha2;unfold am5;refine iB.put h (iB.put h (iB.put h (iB.refl W) hW (by omega) ?_) w1 (by omega) ?_) w2 (by omega) ?_
 ·exact ha2
 ·rw[List.length_take];exact Nat.min_le_left _ _
 ·rw[zc,iu (n:=c.T.length) (w2.in' h (i:=6) (by omega))];exact Nat.le_refl _
theorem bM8 (h:c.Ok){W x:List Int}(hW:Wd c W)(hx:x.length=c.X.length):iB c W (bp0 c W x):=by
 have n:=h.num;have nR:=n.R;have nQ:=n.Q;have n2:=n.xtQ;have nx:=n.x;have nm:=n.m;obtain⟨f1,f2,f3⟩:=yh h hW hx;obtain⟨w1,w2⟩:=ac0 h hW hx;obtain⟨_,r2,r3⟩:=rC h.pk f2 (a:=fill c.Q [1]) (t:=(qE c W x).2.1) (tQ (by simp;omega)) (Nat.le_of_eq f3.symm) (by omega);exact(iB.put h (iB.refl W) hW (i:=3) (by omega) (Nat.le_of_eq f2)).trans (bx7 h w1 (by omega) (by omega))
theorem bx9 (h:c.Ok){W r t:List Int}(hW:Wd c W)(hr:r.length=c.R.toNat)(ht:t.length=c.fl.n):iB c W (bD3 c W r t):=by
 have n:=h.num;have nR:=n.R;have n1:=n.xtR;have nx:=n.x;have nn:=n.n;obtain⟨f1,f2⟩:=aF9 h hW hr ht;obtain⟨_,r2,r3⟩:=rC h.pl hr f1 (Nat.le_of_eq ht.symm) (by omega);exact bx7 h hW (by omega) (by omega)
theorem bh1 (h:c.Ok){W:List Int}(hW:Wd c W)(p:Int):iB c W (put W (c.off 2) (ki c W p).1):=
 iB.put h (iB.refl W) hW (i:=2) (by omega) (Nat.le_of_eq (jd h hW p).2.1)
theorem bM9 (h:c.Ok){W:List Int}(hW:Wd c W)(p:Int):iB c W (co2 c W p)∧Wd c (co2 c W p):=by
 obtain⟨f1,f2,f3⟩:=jd h hW p;have w1:=wO h hW p;exact⟨(bh1 h hW p).trans (bx9 h w1 f2 f3),(aF9 h w1 f2 f3).2⟩
theorem bV9 (h:c.Ok){W:List Int}(hW:Wd c W)(p:Int):((ki c W p).1.take c.X.length).length=c.X.length:=by
 have n:=h.num;have nR:=n.R;have n1:=n.xtR;obtain⟨f1,f2,f3⟩:=jd h hW p;rw[List.length_take];omega
theorem bx8 (h:c.Ok){W:List Int}(hW:Wd c W)(p:Int):iB c W (bL3 c W p)∧Wd c (bL3 c W p):=by
 obtain⟨f1,f2,f3⟩:=jd h hW p;have w1:=wO h hW p;have hx:=bV9 h hW p;have w2:=(ac0 h w1 hx).2;exact⟨((bh1 h hW p).trans (bM8 h w1 hx)).trans (bx9 h w2 f2 f3),(aF9 h w2 f2 f3).2⟩
theorem ca0 (h:c.Ok){W:List Int}(hW:Wd c W)(p:Int):iB c W (cr9 c W p):=by
 obtain⟨_,f2⟩:=ap5 h hW p;obtain⟨w1,w2⟩:=bn7 h hW p;refine iB.put h (iB.put h (iB.refl W) hW (i:=2) (by omega) (Nat.le_of_eq f2)) w1 (i:=1) (by omega) ?_;rw[List.length_take];exact Nat.min_le_left _ _
theorem bM7 (h:c.Ok){W:List Int}(hW:Wd c W)(p:Int): ∀i,iB c W (bd3 c W p i)
 |0=>iB.refl W
 |i+1=>(bM7 h hW p i).trans (ca0 h (aP2 h hW p i) _)
theorem am9 {P P':Nat→Bool}{k:Nat}: ∀{n:Nat},k<n→P k=false→P' k=true→(∀j,j<n→j≠k→P' j=P j)→(List.range n).countP P'=(List.range n).countP P+1
 |n+1,hk,h0,h1,hne=>by
  rw[List.range_succ,List.countP_append,List.countP_append];by_cases hkn:k=n
  ·subst hkn
   have e:(List.range k).countP P'=(List.range k).countP P:=List.countP_congr fun j hj=>by
    have:=List.mem_range.1 hj;rw[hne j (by omega) (by omega)]
   rw[e];simp[h0,h1]
  ·rw[am9 (n:=n) (by omega) h0 h1 fun j hj hjk=>hne j (by omega) hjk];have:[n].countP P'=[n].countP P:=by simp[hne n (by omega) (by omega)]
   omega
theorem cq8 {j k:Nat}(h:j<k):sp c j+(c.X.length+1)≤sp c k:=by
 have h1:(j+1)*(c.X.length+1)≤k*(c.X.length+1):=Nat.mul_le_mul_right _ h;rw[Nat.succ_mul]at h1;unfold sp;omega
theorem bP3 {W w:List Int}{j k:Nat}(hlen:sp c k+w.length≤W.length)(hw:w.length=c.X.length+1)(hjk:j≠k):jg c (put W (sp c k) w) j=jg c W j:=by
 unfold jg rg;rw[Int.toNat_natCast,List.getD_eq_getElem?_getD,List.getD_eq_getElem?_getD,bI5 hlen];rcases Nat.lt_or_ge j k with h|h
 ·exact .inl (by have:=cq8 (c:=c) h;omega)
 ·exact .inr (by have:=cq8 (c:=c) (show k<j by omega);omega)
theorem aF7 {W w:List Int}{k:Nat}(hlen:sp c k+w.length≤W.length)(hw:w.length=c.X.length+1):jg c (put W (sp c k) w) k=w.getD 0 0:=by
 unfold jg rg;rw[Int.toNat_natCast,List.getD_eq_getElem?_getD,List.getD_eq_getElem?_getD,br0 hlen,if_pos ⟨Nat.le_refl _,by omega⟩,Nat.sub_self]
theorem an6 {s s':Dy}(hi:Inv c s)(hW:Wd c s'.W)(hk:iB c s.W s'.W)(hL:s'.L=s.L)(hp:0≤s'.p∧s'.p≤s.L)(hq: -1≤s'.q∧s'.q≤s.L)(hlv:s'.lv=s.lv)(hpk:s.pk≤s'.pk∧s'.pk≤c.words):Inv c s':=
 ⟨hW,by rw[hL];exact hi.L,by rw[hL];exact hp,by rw[hL];exact hq,fun k hkk=>by rw[hk.tag,hL];exact hi.tag k hkk,by rw[hlv,hk.used];exact hi.lv,by rw[hlv];exact⟨Int.le_trans hi.pk.1 hpk.1,hpk.2⟩⟩
theorem ci6 (h:c.Ok)(hm:c.mode≠3){s:Dy}(hi:Inv c s)(a n:Int):Inv c (doF c a n s).2:=by
 have nm:=h.num;have hW:=hi.w;have hL:=hi.L;have hp:=hi.p;have hq:=hi.q;have hpk:=hi.pk;have hns:=h.ns;have nx:=nm.x;obtain⟨g1,g2,g3,g4⟩:=aD5 h hi;have htp:=nm.tp;rw[if_neg hm]at htp;have hsl:=nm.sl;rw[if_neg hm]at hsl;have l1:(seg s.W (c.off 1) c.X.length).length=c.X.length:=iu (hW.in' h (i:=1) (by omega));unfold doF;by_cases h1:qS a n=false∨7<a
 ·rw[if_pos h1];exact hi
 rw[if_neg h1];obtain⟨h2,hk⟩:=ad0 h1;by_cases h4:(2≤a∧a≤4)∧c.ns≤n
 ·rw[if_pos h4];exact hi
 rw[if_neg h4]
 have slot:(2≤a∧a≤4)→n.toNat<c.ns.toNat:=fun hs=>by
  have hn:=ad1 h2 ⟨by omega,hs.2⟩;have: ¬c.ns≤n:=fun h7=>h4 ⟨hs,h7⟩
  omega
 rcases hk with rfl|rfl|rfl|rfl|rfl|rfl|rfl
 ·have hn:=ad1 h2 (by omega);simp only[Int.reduceEq,reduceIte];by_cases h5:s.L-s.p<n
  ·rw[if_pos h5];exact hi
  ·rw[if_neg h5];exact an6 hi (aP2 h hW _ _) (bM7 h hW _ _) rfl ⟨by show 0≤s.p+n;omega,by show s.p+n≤s.L;omega⟩ hq rfl ⟨Int.le_refl _,hpk.2⟩
 ·have hlt:=slot (by omega);simp only[Int.reduceEq,reduceIte];by_cases h5:0≤jg c s.W n.toNat-1
  ·rw[if_pos h5];exact hi
  rw[if_neg h5];generalize n.toNat=k at*;obtain⟨s1,s2,s3⟩:=ap3 h hm hlt;obtain⟨t1,t2⟩:=hW.tk h;have htk:=hi.tag k hlt;have hw:(IntKind.u64.wrap (IntKind.i64.wrap (s.p+1))::seg s.W (c.off 1) c.X.length).length=c.X.length+1:=by simp[l1]
  have hnew:=aF7 (c:=c) (W:=s.W) (k:=k) (w:=IntKind.u64.wrap (IntKind.i64.wrap (s.p+1))::seg s.W (c.off 1) c.X.length) (by omega) hw
  have hv:(IntKind.u64.wrap (IntKind.i64.wrap (s.p+1))::seg s.W (c.off 1) c.X.length).getD 0 0=s.p+1:=by
   show IntKind.u64.wrap (IntKind.i64.wrap (s.p+1))=_;rw[bD (by omega),ga (by omega)]
  rw[hv]at hnew;have hold: ∀j,j≠k→jg c (put s.W (sp c k) (IntKind.u64.wrap (IntKind.i64.wrap (s.p+1))::seg s.W (c.off 1) c.X.length)) j=jg c s.W j:=fun j hj=>bP3 (by omega) hw hj
  have hmore:=bh5 h hi (bg6 hlt (by omega))
  have hu:jh c (put s.W (sp c k) (IntKind.u64.wrap (IntKind.i64.wrap (s.p+1))::seg s.W (c.off 1) c.X.length))=jh c s.W+1:=by
   unfold jh;exact am9 hlt (decide_eq_false (by omega)) (decide_eq_true (by rw[hnew];omega)) fun j _ hj=>by rw[hold j hj]
  refine⟨hW.put h (by omega),hL,hp,hq,fun j hj=> ?_, ?_, ?_⟩
  ·by_cases hjk:j=k
   ·subst hjk;rw[hnew];show 0≤s.p+1∧s.p+1≤s.L+1;omega
   ·rw[hold j hjk];exact hi.tag j hj
  ·show s.lv+c.sl=c.fixed+c.sl*((jh c (put s.W (sp c k) _):Nat):Int);rw[hu,hi.lv];rw[show(((jh c s.W+1:Nat)):Int)=(jh c s.W:Int)+1 by omega,Int.mul_add,Int.mul_one,Int.add_assoc]
  ·show s.lv+c.sl≤max s.pk (s.lv+c.sl)∧max s.pk (s.lv+c.sl)≤c.words;omega
 ·have hlt:=slot (by omega);simp only[Int.reduceEq,reduceIte];by_cases h5:jg c s.W n.toNat-1<0
  ·rw[if_pos h5];exact hi
  rw[if_neg h5];obtain⟨s1,s2,s3⟩:=ap3 h hm hlt;obtain⟨t1,t2⟩:=hW.tk h;have htk:=hi.tag _ hlt;have l2:(seg s.W (sp c n.toNat+1) c.X.length).length=c.X.length:=iu (by omega);have h1o:=qx (c:=c) (i:=1) (j:=9) (by omega);have z1:c.sz 1=c.X.length:=rfl;exact an6 hi (hW.put h (by rw[l2];omega)) (iB.put h (iB.refl s.W) hW (i:=1) (by omega) (by rw[l2];exact Nat.le_refl _)) rfl ⟨by show 0≤jg c s.W n.toNat-1;omega,by show jg c s.W n.toNat-1≤s.L;omega⟩ hq rfl ⟨Int.le_refl _,hpk.2⟩
 ·have hlt:=slot (by omega);simp only[Int.reduceEq,reduceIte];by_cases h5:jg c s.W n.toNat-1<0
  ·rw[if_pos h5];exact hi
  rw[if_neg h5];generalize n.toNat=k at*;obtain⟨s1,s2,s3⟩:=ap3 h hm hlt;obtain⟨t1,t2⟩:=hW.tk h;have htk:=hi.tag k hlt;have hw:(iD (c.X.length+1)).length=c.X.length+1:=fi _;have hnew:=aF7 (c:=c) (W:=s.W) (k:=k) (w:=iD (c.X.length+1)) (by omega) hw;have hv:(iD (c.X.length+1)).getD 0 0=0:=rfl;rw[hv]at hnew;have hold: ∀j,j≠k→jg c (put s.W (sp c k) (iD (c.X.length+1))) j=jg c s.W j:=fun j hj=>bP3 (by omega) hw hj
  have hu:jh c s.W=jh c (put s.W (sp c k) (iD (c.X.length+1)))+1:=by
   unfold jh;exact am9 hlt (decide_eq_false (by omega)) (decide_eq_true (by omega)) fun j _ hj=>by rw[hold j hj]
  refine⟨hW.put h (by omega),hL,hp,hq,fun j hj=> ?_, ?_, ?_⟩
  ·by_cases hjk:j=k
   ·subst hjk;rw[hnew];show(0:Int)≤0∧0≤s.L+1;omega
   ·rw[hold j hjk];exact hi.tag j hj
  ·show s.lv-c.sl=c.fixed+c.sl*((jh c (put s.W (sp c k) (iD (c.X.length+1))):Nat):Int);rw[hi.lv,hu];rw[show(((jh c (put s.W (sp c k) (iD (c.X.length+1)))+1:Nat)):Int)=(jh c (put s.W (sp c k) (iD (c.X.length+1))):Int)+1 by omega,Int.mul_add,Int.mul_one];omega
  ·show s.lv-c.sl≤s.pk∧s.pk≤c.words;omega
 ·simp only[Int.reduceEq,reduceIte];by_cases h5:s.q≠ -1
  ·rw[if_pos h5];exact hi
  rw[if_neg h5];by_cases h6:s.p≠s.L
  ·rw[if_pos h6];exact hi
  rw[if_neg h6];exact an6 hi (ac0 h hW l1).2 (bM8 h hW l1) rfl hp ⟨by show-1≤s.p;omega,hp.2⟩ rfl ⟨Int.le_max_left _ _,by show max s.pk (s.lv+(c.fk.n:Int))≤c.words;omega⟩
 ·simp only[Int.reduceEq,reduceIte];by_cases h5:s.q≠ -1
  ·rw[if_pos h5];exact hi
  rw[if_neg h5];by_cases h6:s.p≠s.L-1
  ·rw[if_pos h6];exact hi
  rw[if_neg h6];exact an6 hi (bx8 h hW s.p).2 (bx8 h hW s.p).1 rfl hp ⟨by show-1≤s.p;omega,hp.2⟩ rfl ⟨Int.le_max_left _ _,by show max s.pk (s.lv+((c.fl.n:Int)+c.fk.n))≤c.words;omega⟩
 ·simp only[Int.reduceEq,reduceIte];by_cases h5:s.q≤0
  ·rw[if_pos h5];exact hi
  rw[if_neg h5];by_cases h6:s.p≠s.q-1
  ·rw[if_pos h6];exact hi
  rw[if_neg h6];exact an6 hi (bM9 h hW s.p).2 (bM9 h hW s.p).1 rfl hp ⟨by show-1≤s.p;omega,hp.2⟩ rfl ⟨Int.le_max_left _ _,by show max s.pk (s.lv+(c.fl.n:Int))≤c.words;omega⟩
theorem ci5 {s:Dy}{B:Int}(hc:Cnt B s)(a n:Int):Cnt (B+65536) (doF c a n s).2:=by
 have key:Cnt (B+65536) s:=by unfold Cnt at hc⊢;omega
 unfold doF;by_cases h1:qS a n=false∨7<a
 ·rw[if_pos h1];exact key
 rw[if_neg h1];obtain⟨h2,hk⟩:=ad0 h1;split
 ·exact key
 split
 ·rename_i ha;have hn:=ad1 h2 (by omega);split
  ·exact key
  ·unfold Cnt at hc⊢;simp only;omega
 repeat' split
 all_goals first|exact key|(unfold Cnt at hc⊢;simp only;omega)
end
theorem bQ1 {t r:List Int}{j:Nat}(h:j<t.length):(t++r)[0+j]?=some (rg t (j:Int)):=by
 rw[Nat.zero_add,List.getElem?_append_left h,jx h]
theorem aG6 {t r:List Int}{j:Nat}(h:j<r.length):(t++r)[t.length+j]?=some (rg r (j:Int)):=by
 rw[List.getElem?_append_right (Nat.le_add_right _ _),Nat.add_sub_cancel_left,jx h]
theorem bQ2 {t r:List Int}{j:Nat}{v:Int}:(t++r).set (t.length+j) v=t++r.set j v:=by
 rw[List.set_append_right _ _ (Nat.le_add_right _ _),Nat.add_sub_cancel_left]
def stK (t:List Int)(p d:Nat)(l:Nat→Int)(s:BS):Int×Int×Int×(List Int)×(List Int)×Int×Int×Int×Int×Int×Int×Int×Int:=
 ((p:Int)-1,(d:Int),(s.2.2:Int),t++s.1,s.2.1,l 0,l 1,l 2,l 3,l 4,l 5,l 6,l 7)
theorem cs6 {code:List vF}(hc:code.length≤1000){R:Int}(hR:1≤R∧R≤64){t w:List Int}{e0 e1:Int}(hN:t.length≤1000000)(hw:w.length=t.length+R.toNat):Backs (ey R (e0,w) (e1,code)) code (stK t) (bK0 t) (VdB R.toNat t.length) (inR R.toNat)where
 op:=by
  intro p d l s m o to h hg hk hd hv;obtain⟨h1,h2⟩:=mq hc h;obtain⟨v1,v2,v3,v4⟩:=hv;obtain⟨q1,q2⟩:=bA1 o s.1 s.2.1 (rg t ((s.2.2-1:Nat):Int));refine⟨?_,by unfold bK0;exact⟨by simp[v1,q1],by simp[v2,q2],by show m≤s.2.2-1;omega,by show s.2.2-1≤_;omega⟩⟩;obtain⟨kd,ka,kb,e1,e2,e3,g1,g2,g3⟩:=aP8 hg;unfold stK bK0;simp only[ey];rw[show((p+1:Nat):Int)-1=(p:Int)by omega,decide_eq_false (by omega),cond_false,h2];simp only[Option.bind_some];rw[h];simp only[Option.bind_some,dq];rw[decide_eq_false (by omega),cond_false,decide_eq_false (by omega),cond_false];simp only[af2,Option.bind_some];rw[bD (n:=(s.2.2:Int)-1) (by omega),show(s.2.2:Int)-1=((s.2.2-1:Nat):Int)by omega,bD (n:=(w.length:Int)-R) (by omega),show((w.length:Int)-R).toNat=t.length by omega,show((w.length:Int)).toNat-t.length=R.toNat by omega,Nat.sub_zero];have hn:s.2.2-1<t.length:=by omega
  generalize s.2.2-1=n at*;unfold bA0;simp only[e1,e2,e3,Int.toNat_natCast];rw[dk (show kd<s.2.1.length by omega)];simp only[Option.bind_some];rw[jx (show kd<s.2.1.length by omega)];simp only[Option.bind_some];rw[dk hn];simp only[Option.bind_some];rw[bQ1 hn];simp only[Option.bind_some];rw[dk g1];simp only[Option.bind_some];rw[aG6 (show kd<s.1.length by omega)];simp only[Option.bind_some];rw[dk g2];simp only[Option.bind_some];rw[bQ2];have hr1: ∀x:Int,(s.1.set kd x).length=s.1.length:=by simp
  have ha1:(s.2.1.set kd 0).length=s.2.1.length:=by simp
  rw[aG6 (show ka<(s.1.set kd (rg t (n:Int))).length by rw[hr1];omega)];simp only[Option.bind_some];rw[dk g3];simp only[Option.bind_some];rw[aG6 (show kb<(s.1.set kd (rg t (n:Int))).length by rw[hr1];omega)];simp only[Option.bind_some];rw[dk (show ka<(s.2.1.set kd 0).length by omega)];simp only[Option.bind_some];rw[jx (show ka<(s.2.1.set kd 0).length by omega)];simp only[Option.bind_some];generalize hP:par o _ _=P;generalize hA:(s.2.1.set kd 0).set ka _=A2;have hA2:A2.length=s.2.1.length:=by rw[←hA];simp
  rw[dk (show kb<A2.length by omega)];simp only[Option.bind_some];rw[jx (show kb<A2.length by omega)];simp only[Option.bind_some];rw[bD (n:=(p:Int)-1) (by omega)]
 rep:=by
  intro p q d l s m o e to h hk h' hd hv;obtain⟨h1,h2⟩:=mq hc h;obtain⟨h3,h4⟩:=mq hc h';unfold stK;simp only[ey];rw[show((p+1:Nat):Int)-1=(p:Int)by omega,decide_eq_false (by omega),cond_false,h2];simp only[Option.bind_some];rw[h];simp only[Option.bind_some,dq];rw[decide_eq_true hk,cond_true,bD (n:=((q+1:Nat):Int)-1) (by omega),show((q+1:Nat):Int)-1=(q:Int)by omega,h4];simp only[Option.bind_some];rw[h'];simp only[Option.bind_some,dq];rw[dk hd];simp only[Option.bind_some];rw[bD (n:=(p:Int)-1) (by omega),bD (n:=(d:Int)+1) (by omega)];rfl
 nxt:=by
  intro p d l s m o to h hto hk hd hl hl2 hv;obtain⟨h1,h2⟩:=mq hc h;have h8:=we (upd l d (l d-1)) hd;rw[qF]at h8;unfold upd at h8;unfold stK;simp only[ey];rw[show((p+1:Nat):Int)-1=(p:Int)by omega,decide_eq_false (by omega),cond_false,h2];simp only[Option.bind_some];rw[h];simp only[Option.bind_some,dq];rw[decide_eq_false (by omega),cond_false,decide_eq_true hk,cond_true,bD (n:=((d+1:Nat):Int)-1) (by omega),show((d+1:Nat):Int)-1=(d:Int)by omega,dk hd];simp only[Option.bind_some];rw[we l hd,ga (by omega),h8,decide_eq_true (by omega),cond_true];rw[bD (n:=((to+1:Nat):Int)-2) (by omega),show((to+1:Nat):Int)-2=(to:Int)-1 by omega];rfl
 out:=by
  intro p d l s m o to h hk hd hl hv;obtain⟨h1,h2⟩:=mq hc h;have h8:=we (upd l d (l d-1)) hd;rw[qF]at h8;unfold upd at h8;unfold stK;simp only[ey];rw[show((p+1:Nat):Int)-1=(p:Int)by omega,decide_eq_false (by omega),cond_false,h2];simp only[Option.bind_some];rw[h];simp only[Option.bind_some,dq];rw[decide_eq_false (by omega),cond_false,decide_eq_true hk,cond_true,bD (n:=((d+1:Nat):Int)-1) (by omega),show((d+1:Nat):Int)-1=(d:Int)by omega,dk hd];simp only[Option.bind_some];rw[we l hd,ga (by omega),h8,decide_eq_false (by omega),cond_false,bD (n:=(p:Int)-1) (by omega)];rfl
section
variable {R:Int} {l:List ec} {f:Fo}
theorem bI3 (h:Prg R l f){r a t w:List Int}{e0 e1:Int}(hr:r.length=R.toNat)(ha:a.length=R.toNat)(ht:f.n≤t.length)(ht2:t.length≤1000000)(hw:w.length=t.length+R.toNat):
  ∃b0 b1 b2 b3 b4 b5 b6 b7,cw (ey R (e0,w) (e1,f.bare.code 0)) iJ (IntKind.i64.wrap (((f.bare.code 0).length:Int)-1),0,(f.n:Int),t++r,a,0,0,0,0,0,0,0,0)=some (t++(md f r a t).1,(md f r a t).2.1,b0,b1,b2,b3,b4,b5,b6,b7):=by
 obtain⟨l',_,h2,h3⟩:=aC0 (m:=0) (l:=fun _=>0) (s:=((r,a,f.n):BS)) (d:=0) (p:=0) (A:=[]) (B:=[]) (aU0 (cs6 (e0:=e0) (e1:=e1) (t:=t) h.clen h.R1 ht2 hw)) f.bare (by simp) rfl (Fo.bare_ok f h.ok) f.bare_pos h.hi h.good ⟨hr,ha,by rw[Fo.bare_n];exact Nat.le_refl _,ht⟩;rw[Fo.bare_unroll]at h2 h3;have hl:=h.clen;rw[Fo.code_len]at hl
 have:=as4 h2 h.steps (c:=(t++(md f r a t).1,(md f r a t).2.1,l' 0,l' 1,l' 2,l' 3,l' 4,l' 5,l' 6,l' 7)) (by
  unfold stK;simp only[ey];rw[decide_eq_true (by omega),cond_true]
  rfl)
 have e:stK t (0+f.bare.len) 0 (fun _=>0) ((r,a,f.n):BS)=(IntKind.i64.wrap (((f.bare.code 0).length:Int)-1),0,(f.n:Int),t++r,a,0,0,0,0,0,0,0,0):=by
  unfold stK;rw[Fo.code_len,bD (by omega),Nat.zero_add];rfl
 rw[e]at this;exact⟨_,_,_,_,_,_,_,_,this⟩
end
section
variable {c:Cx}
def zp (c:Cx)(i:Nat):Nat:=c.off 8+i*c.sl.toNat
def mr (s:Dy):Int:=if s.q<0 then s.p else s.q
structure InvB (c:Cx)(s:Dy):Prop where
 w:Wd c s.W
 L:s.L=c.len
 p:0≤s.p∧s.p≤s.L
 q: -1≤s.q∧s.q≤s.L
 qp:0≤s.q→s.p=s.q
 lv:s.lv=c.fixed+c.sl*mr s
 pk:s.lv≤s.pk∧s.pk≤c.words
def xw (c:Cx)(W:List Int)(i:Nat):List Int:=seg W (zp c i) c.fl.n
def af3 (c:Cx)(W:List Int)(i:Nat):List Int:=seg W (zp c i+c.fl.n) c.R.toNat
def aT9 (c:Cx)(W:List Int)(i:Nat):BS:=md c.fl (af3 c W i) (fill c.R (seg W (c.off 5) c.X.length)) (xw c W i)
def plF (c:Cx)(a n:Int)(s:Dy):Int×Dy:=
 if a=8 then(if n≠0 then(2,s)else if 0≤s.q then(18,s)else if s.p=s.L then(17,s)else
  (0,{s with p:=s.p+1,c1:=s.c1+1,lv:=s.lv+c.sl,pk:=max s.pk (s.lv+c.sl),W:=put (put (put s.W (c.off 2) (ki c s.W s.p).1) (zp c s.p.toNat) ((ki c s.W s.p).2.1++(ki c s.W s.p).1)) (c.off 1) ((ki c s.W s.p).1.take c.X.length)}))
 else if a=5 then(if n≠0 then(2,s)else if 0≤s.q then(18,s)else if s.p≠s.L then(17,s)else
  (0,{s with q:=s.L,c2:=s.c2+1,c3:=s.c3+1,z:=rg (qE c s.W (seg s.W (c.off 1) c.X.length)).1 0,pk:=max s.pk (s.lv+c.fk.n),W:=bp0 c s.W (seg s.W (c.off 1) c.X.length)}))
 else if a=9 then(if n≠0 then(2,s)else if s.q<1 then(18,s)else
  (0,{s with p:=s.q-1,q:=s.q-1,c3:=s.c3+1,lv:=s.lv-c.sl,W:=put (am5 c s.W (aT9 c s.W (s.q-1).toNat).2.1) (c.off 1) ((aT9 c s.W (s.q-1).toNat).1.take c.X.length)}))
 else(2,s)
theorem ap0 (h:c.Ok)(hm:c.mode=3){i:Nat}(hi:i<c.ns.toNat):c.sl.toNat=c.fl.n+c.R.toNat∧c.sl=(c.fl.n:Int)+c.R∧zp c i+c.sl.toNat≤c.off 9∧c.off 8≤zp c i:=by
 have n:=h.num;have hsl:=n.sl;rw[if_pos hm]at hsl;have hns:=h.ns;have nR:=n.R
 have e:(c.sl*c.ns).toNat=c.ns.toNat*c.sl.toNat:=by
  have:c.sl*c.ns=((c.ns.toNat*c.sl.toNat:Nat):Int):=by
   rw[Int.natCast_mul,Int.toNat_of_nonneg hns.1,Int.toNat_of_nonneg (by omega),Int.mul_comm]
  rw[this];rfl
 have h9:c.off 9=c.off 8+c.ns.toNat*c.sl.toNat:=by rw[be3,e]
 have h1:(i+1)*c.sl.toNat≤c.ns.toNat*c.sl.toNat:=Nat.mul_le_mul_right _ hi;rw[Nat.succ_mul]at h1;unfold zp;omega
theorem bC1 (h:c.Ok)(hm:c.mode=3){i:Nat}(hi:i<c.ns.toNat){a0 a1 a4 a5 a6 a7 a8 a9 a10 a11 a12 a13 a14 a15 a16 a17:Int}{X T:List Int}{l k:List ec}{b0 b1 b2 b3:Int}{W:List Int}:jt (i:Int) a0 a1 c.sl a4 a5 a6 a7 a8 a9 a10 a11 a12 a13 a14 a15 a16 a17 X T l k c.P b0 b1 b2 b3 W=some (zp c i:Int):=by
 obtain⟨h1,h2,h3,h4⟩:=ap0 h hm hi;have h5:=h.off9_le;have n:=h.num;have h6:=n.words;have nR:=n.R;unfold jt;rw[show ix 8 c.P.length=some 8 from dk (k:=8) (by rw[Cx.P_len];omega)];simp only[Option.bind_some];rw[Cx.P_get (show 8<10 by omega)];simp only[Option.bind_some];have e:(i:Int)*c.sl=((i*c.sl.toNat:Nat):Int):=by rw[Int.natCast_mul,Int.toNat_of_nonneg (by omega)]
 unfold zp at h3;rw[e,bD (n:=((i*c.sl.toNat:Nat):Int)) (by omega),bD (by omega)];unfold zp
 congr 1
theorem bH2 (h:c.Ok)(hm:c.mode=3){s:Dy}(hi:InvB c s):0≤s.lv∧s.lv+c.tp≤c.words∧c.words≤1048576∧0≤c.tp∧(mr s<c.ns→s.lv+c.sl≤c.words)∧(0<mr s→c.sl≤s.lv)∧c.ns=s.L:=by
 have n:=h.num;have h1:=hi.lv;have h3:=h.fit;have h4:=n.fixed;have h5:=h.ns;have h6:=n.sl;rw[if_pos hm]at h6;have nR:=n.R;have nQ:=n.Q;have nw:=n.words;have hb:=h.base hm;have hL:=hi.L;have hp:=hi.p;have hq:=hi.q;have hh:0≤mr s∧mr s≤c.ns:=by unfold mr;split<;>omega
 have h7:1≤c.sl:=by omega
 have h8:c.sl*mr s≤c.sl*c.ns:=Int.mul_le_mul_of_nonneg_left hh.2 (by omega);have h9:0≤c.sl*mr s:=Int.mul_nonneg (by omega) hh.1;have h10:0≤c.tp:=by rw[n.tp];split<;>omega
 refine⟨by omega,by omega,by omega,h10,fun hlt=> ?_,fun hpos=> ?_,by omega⟩
 ·have h8:c.sl*(mr s+1)≤c.sl*c.ns:=Int.mul_le_mul_of_nonneg_left (by omega) (by omega);rw[Int.mul_add,Int.mul_one]at h8;omega
 ·have h8:c.sl*1≤c.sl*mr s:=Int.mul_le_mul_of_nonneg_left (by omega) (by omega);omega
theorem aL0 (h:c.Ok)(hm:c.mode=3){W:List Int}(hW:Wd c W){i:Nat}(hi:i<c.ns.toNat):
  seg W (zp c i) c.sl.toNat=xw c W i++af3 c W i∧(xw c W i).length=c.fl.n∧(af3 c W i).length=c.R.toNat∧(fill c.R (seg W (c.off 5) c.X.length)).length=c.R.toNat∧(aT9 c W i).1.length=c.R.toNat∧(aT9 c W i).2.1.length=c.R.toNat:=by
 obtain⟨h1,h2,h3,h4⟩:=ap0 h hm hi;obtain⟨t1,t2⟩:=hW.tk h;have n:=h.num;have nR:=n.R;have n1:=n.xtR;have nn:=n.n;have l5:(seg W (c.off 5) c.X.length).length=c.X.length:=iu (hW.in' h (i:=5) (by omega));have e1:(xw c W i).length=c.fl.n:=iu (by omega);have e2:(af3 c W i).length=c.R.toNat:=iu (by omega);have e3:(fill c.R (seg W (c.off 5) c.X.length)).length=c.R.toNat:=tQ (by omega);obtain⟨_,r2,r3⟩:=rC h.pl e2 e3 (t:=xw c W i) (Nat.le_of_eq e1.symm) (by omega);refine⟨?_,e1,e2,e3,r2,r3⟩;apply List.ext_getElem?;intro j;rw[aF3];by_cases hj:j<c.fl.n
 ·rw[if_pos (by omega),List.getElem?_append_left (by omega)];unfold xw;rw[aF3,if_pos hj]
 ·rw[List.getElem?_append_right (by omega),e1];unfold af3;rw[aF3];by_cases hj2:j<c.sl.toNat
  ·rw[if_pos hj2,if_pos (by omega)]
   congr 1
   omega
  ·rw[if_neg hj2,if_neg (by omega)]
theorem plain1 (h:c.Ok)(hm:c.mode=3){s:Dy}(hi:InvB c s){B:Int}(hc:Cnt B s)(hB:B≤2305843009213693952){a n:Int}:
  ni a n c.fixed c.tp c.sl c.ns c.mode c.R c.Q c.len c.words s.L s.p s.q s.c0 s.c1 s.c2 s.c3 s.z c.X c.T c.l c.k c.P c.tk s.lv s.pk c.words s.W=some (bG3 c (plF c a n s)):=by
 have nm:=h.num;have hW:=hi.w;have hL:=hi.L;have hp:=hi.p;have hq:=hi.q;have hpk:=hi.pk;have hns:=h.ns;have nR:=nm.R;have n1:=nm.xtR;have nx:=nm.x;have nt:=nm.t;have nn:=nm.n;have nlen:=nm.len;obtain⟨k0,k1,k2,k3⟩:=hc.in' hB;obtain⟨g1,g2,g3,g4,g5,g6,g7⟩:=bH2 h hm hi;have htp:=nm.tp;rw[if_pos hm]at htp;obtain⟨t1,t2⟩:=hW.tk h;unfold ni plF;by_cases a8:a=8
 ·subst a8;rw[decide_eq_true (show(8:Int)=8 from rfl),decide_eq_false (show¬(8:Int)=5 by decide)];simp only[cond_true,Option.bind_some,Bool.not_true,cond_false,reduceIte];by_cases hn:n≠0
  ·rw[if_pos hn,decide_eq_true hn];rfl
  rw[if_neg hn,decide_eq_false hn];simp only[cond_false,Option.bind_some];by_cases hq0:0≤s.q
  ·rw[if_pos hq0,decide_eq_true hq0];rfl
  rw[if_neg hq0,decide_eq_false hq0];simp only[cond_false,Option.bind_some];by_cases hpl:s.p=s.L
  ·rw[if_pos hpl,decide_eq_true hpl];rfl
  rw[if_neg hpl,decide_eq_false hpl];simp only[BEq.rfl,Bool.not_true,cond_false,Option.bind_some,dw];have hheld:mr s=s.p:=by unfold mr;rw[if_pos (by omega)]
  have hlt:s.p.toNat<c.ns.toNat:=by omega
  have ep:s.p=((s.p.toNat:Nat):Int):=by omega
  obtain⟨s1,s2,s3,s4⟩:=ap0 h hm hlt;obtain⟨f1,f2,f3⟩:=jd h hW s.p;have w1:=wO h hW s.p;have hbd:=g5 (by rw[hheld];omega);rw[rA (by omega) g1 hbd (by omega)];simp only[Option.bind_some];rw[cx2 h hW];simp only[Option.bind_some];have hse:=bC1 h hm hlt (a0:=c.fixed) (a1:=c.tp) (a4:=c.ns) (a5:=c.mode) (a6:=c.R) (a7:=c.Q) (a8:=c.len) (a9:=c.words) (a10:=s.L) (a11:=s.p) (a12:=s.q) (a13:=s.c0) (a14:=IntKind.i64.wrap (s.c1+1)) (a15:=s.c2) (a16:=s.c3) (a17:=s.z) (X:=c.X) (T:=c.T) (l:=c.l) (k:=c.k) (b0:=c.tk) (b1:=s.lv+c.sl) (b2:=max s.pk (s.lv+c.sl)) (b3:=c.words) (W:=put s.W (c.off 2) (ki c s.W s.p).1);rw[←ep]at hse;rw[hse];simp only[Option.bind_some];have hla:((ki c s.W s.p).2.1++(ki c s.W s.p).1).length=c.sl.toNat:=by rw[List.length_append];omega
  rw[gv (by omega) (by omega)];obtain⟨u1,u2⟩:=w1.tk h;unfold Cx.tk;rw[sU (by rw[hla];exact s3) u1 u2];simp only[Option.bind_some];rw[kg (by omega),gw,show((c.X.length:Int)).toNat-0=c.X.length by omega,List.drop_zero,show((c.off 9:Nat):Int)=c.tk from rfl,aO9 (ii:=1) (i:=1) h (w1.put h (by rw[hla];exact s3)) rfl (by omega) (by rw[List.length_take,show c.sz 1=c.X.length from rfl];omega)];simp only[Option.bind_some];rw[bD (n:=s.p+1) (by omega),bD (n:=s.c1+1) (by omega)];rfl
 rw[decide_eq_false a8,if_neg a8];simp only[cond_false,Option.bind_some];by_cases a5:a=5
 ·subst a5;rw[decide_eq_true (show(5:Int)=5 from rfl)];simp only[cond_true,Bool.not_true,cond_false,reduceIte];by_cases hn:n≠0
  ·rw[if_pos hn,decide_eq_true hn];rfl
  rw[if_neg hn,decide_eq_false hn];simp only[cond_false,Option.bind_some];by_cases hq0:0≤s.q
  ·rw[if_pos hq0,decide_eq_true hq0];rfl
  rw[if_neg hq0,decide_eq_false hq0];simp only[cond_false,Option.bind_some];by_cases hpl:s.p≠s.L
  ·rw[if_pos hpl,decide_eq_false hpl];rfl
  rw[if_neg hpl,decide_eq_true (show s.p=s.L by omega)];simp only[BEq.rfl,Bool.not_true,cond_false,Option.bind_some,dw];rw[cA0 h hW g1 hpk.1 (by omega) g3];simp only[Option.bind_some];rw[bD (n:=s.c2+1) (by omega),bD (n:=s.c3+1) (by omega)];rfl
 rw[decide_eq_false a5,if_neg a5];simp only[cond_false,Bool.not_false,cond_true];by_cases a9:a=9
 ·subst a9;rw[decide_eq_false (show¬((9:Int)≠9)from fun k=>k rfl)];simp only[reduceIte];by_cases hn:n≠0
  ·rw[if_pos hn,decide_eq_true hn];rfl
  rw[if_neg hn,decide_eq_false hn];simp only[cond_false,Option.bind_some];by_cases hq1:s.q<1
  ·rw[if_pos hq1,decide_eq_true hq1];rfl
  rw[if_neg hq1,decide_eq_false hq1];simp only[cond_false,Option.bind_some,dw];have hheld:mr s=s.q:=by unfold mr;rw[if_neg (by omega)]
  have hlt:(s.q-1).toNat<c.ns.toNat:=by omega
  have ep:s.q-1=(((s.q-1).toNat:Nat):Int):=by omega
  obtain⟨s1,s2,s3,s4⟩:=ap0 h hm hlt;obtain⟨b1,b2,b3,b4,b5,b6⟩:=aL0 h hm hW hlt;rw[bD (n:=s.q-1) (by omega)];have hse:=bC1 h hm hlt (a0:=c.fixed) (a1:=c.tp) (a4:=c.ns) (a5:=c.mode) (a6:=c.R) (a7:=c.Q) (a8:=c.len) (a9:=c.words) (a10:=s.L) (a11:=s.q-1) (a12:=s.q-1) (a13:=s.c0) (a14:=s.c1) (a15:=s.c2) (a16:=s.c3) (a17:=s.z) (X:=c.X) (T:=c.T) (l:=c.l) (k:=c.k) (b0:=c.tk) (b1:=s.lv) (b2:=s.pk) (b3:=c.words) (W:=s.W);rw[←ep]at hse;rw[hse];simp only[Option.bind_some]
  have hrd:ek (zp c (s.q-1).toNat:Int) c.sl c.tk s.W=some (0,xw c s.W (s.q-1).toNat++af3 c s.W (s.q-1).toNat):=by
   have:=xe (W:=s.W) (o:=zp c (s.q-1).toNat) (n:=c.sl.toNat) s3 t1 t2;rw[Int.toNat_of_nonneg (by omega),b1]at this;exact this
  rw[hrd];simp only[Option.bind_some];generalize (s.q-1).toNat=i at*;have hlen:(xw c s.W i++af3 c s.W i).length=c.fl.n+c.R.toNat:=by rw[List.length_append];omega
  have hwr:IntKind.i64.wrap (((xw c s.W i++af3 c s.W i).length:Int)-c.R)=(c.fl.n:Int):=by rw[hlen,bD (by omega)];omega
  simp only[hwr];rw[kg (by omega),gw,kg (by omega),gw,bp9 (ii:=5) (i:=5) h hW rfl (by omega)];simp only[Option.bind_some];have l5:(seg s.W (c.off 5) c.X.length).length=c.X.length:=iu (hW.in' h (i:=5) (by omega));rw[show c.sz 5=c.X.length from rfl,aQ6 nR (by omega)];simp only[Option.bind_some];rw[ar5 h.pl,h.pl.writes];simp only[Option.bind_some];rw[decide_eq_false (show¬((0:Int)≠0)by simp),cond_false];rw[decide_eq_false (show¬((((((xw c s.W i++af3 c s.W i).length:Int)).toNat-((c.fl.n:Int)).toNat:Nat):Int)≠c.R)by omega),cond_false,decide_eq_false (show¬(((fill c.R (seg s.W (c.off 5) c.X.length)).length:Int)≠c.R)by omega),cond_false,decide_eq_false (show¬(((((c.fl.n:Int)).toNat-0:Nat):Int)<(c.fl.n:Int))by omega),cond_false];obtain⟨z0,z1,z2,z3,z4,z5,z6,z7,hz⟩:=bI3 h.pl (e0:=0) (e1:=0) (t:=xw c s.W i) (r:=af3 c s.W i) (a:=fill c.R (seg s.W (c.off 5) c.X.length)) (w:=xw c s.W i++af3 c s.W i) b3 b4 (Nat.le_of_eq b2.symm) (by omega) (by rw[hlen,b2])
  rw[hz];simp only[Option.bind_some];have eK:md c.fl (af3 c s.W i) (fill c.R (seg s.W (c.off 5) c.X.length)) (xw c s.W i)=aT9 c s.W i:=rfl;rw[eK];generalize aT9 c s.W i=q1 at*;obtain⟨v1,v2,v3⟩:=pS h (a:=q1.2.1) hW (by omega) (by omega);rw[aO9 (ii:=4) (i:=4) h hW rfl (by omega) (by rw[show c.sz 4=max c.R.toNat c.Q.toNat from rfl];omega)];simp only[Option.bind_some];rw[kg (by omega),gw,show((c.X.length:Int)).toNat-0=c.X.length by omega,List.drop_zero,aO9 (ii:=5) (i:=5) h v1 rfl (by omega) (by rw[List.length_take,show c.sz 5=c.X.length from rfl];omega)];simp only[Option.bind_some];rw[bp9 (ii:=6) (i:=6) h v2 rfl (by omega)];simp only[Option.bind_some];rw[show c.sz 6=c.T.length from rfl];have hg:(seg (put (put s.W (c.off 4) q1.2.1) (c.off 5) (q1.2.1.take c.X.length)) (c.off 6) c.T.length).length=c.T.length:=iu (v2.in' h (i:=6) (by omega));rw[aB8 (f:=sJ c.X q1.2.1 _) (X:=c.X) (a:=q1.2.1) (g:=seg (put (put s.W (c.off 4) q1.2.1) (c.off 5) (q1.2.1.take c.X.length)) (c.off 6) c.T.length) (by omega) (by omega) (by omega) (fun s=>rfl)]
  simp only[Option.bind_some];rw[aO9 (ii:=6) (i:=6) h v2 rfl (by omega) (by rw[zc,hg];exact Nat.le_refl _)];simp only[Option.bind_some];have hlen2:(xw c s.W i++q1.1).length=c.fl.n+c.R.toNat:=by rw[List.length_append];omega
  rw[bD (n:=(c.fl.n:Int)+(c.X.length:Int)) (by omega),kg (by omega),gw,show((c.fl.n:Int)+(c.X.length:Int)).toNat-((c.fl.n:Int)).toNat=c.X.length by omega,Int.toNat_natCast];have hdr:(xw c s.W i++q1.1).drop c.fl.n=q1.1:=List.drop_left' b2;rw[hdr];have eB:put (put (put s.W (c.off 4) q1.2.1) (c.off 5) (q1.2.1.take c.X.length)) (c.off 6) (bE7 c.X.length (seg (put (put s.W (c.off 4) q1.2.1) (c.off 5) (q1.2.1.take c.X.length)) (c.off 6) c.T.length) q1.2.1)=am5 c s.W q1.2.1:=rfl;rw[eB,aO9 (ii:=1) (i:=1) h v3 rfl (by omega) (by rw[List.length_take,show c.sz 1=c.X.length from rfl];omega)];simp only[Option.bind_some];rw[uw (by omega) (g6 (by rw[hheld];omega)) hpk.1 (by omega)];simp only[Option.bind_some];rw[bD (n:=s.c3+1) (by omega)];rfl
 rw[if_neg a9,decide_eq_true a9];by_cases hn:n≠0
 ·rw[decide_eq_true hn];rfl
 ·rw[decide_eq_false hn];rfl
theorem do1 (h:c.Ok)(hm:c.mode=3){s:Dy}(hi:InvB c s){B:Int}(hc:Cnt B s)(hB:B≤2305843009213693952){a n:Int}:
  cD a n c.fixed c.tp c.sl c.ns c.mode c.R c.Q c.len c.words s.L s.p s.q s.c0 s.c1 s.c2 s.c3 s.z c.X c.T c.l c.k c.P c.tk s.lv s.pk c.words s.W=some (bG3 c (plF c a n s)):=by
 unfold cD ia;simp only[Option.bind_some];rw[decide_eq_true hm,cond_true,plain1 h hm hi hc hB];rfl
end
end Go.V
