/- A part of the proof. No condition. -/
import Derived.Test.YtlkdfancfgakdaaGreatL2
import Derived.Test.YtlkdfancfgakdaaGreatA7
import Derived.Test.YtlkdfancfgakdaaGreatD2
set_option linter.unusedVariables false
set_option linter.unusedSimpArgs false
set_option linter.unusedSectionVars false
namespace Go.V
open Go.Ab
open Option renaming some->O,none->Y
open Bool renaming true->Za,false->Zb
open Decidable renaming decide->Zc
variable {W at' ax r st t w:Zd}{s s':Dy}{b c d d' f i j k l:Nat}{a v x y:Int}{en:Bool}
set_option maxRecDepth 100000
section
open List renaming length_take -> aB
section
variable {c:Cx}
theorem aC8 (h:c.Ok)(D:c.mode=3)(hi:InvB c s)(a n:Int):InvB c (HA c a n s).2:=by
 have E:=h.num;have C:=hi.w;have F:=hi.L;have N:=hi.p;have S:=hi.q;have Q:=hi.pk;have U:=hi.qp;have M:=h.ns;have nR:=E.R;have n1:=E.xtR;have nx:=E.x;obtain⟨g1,g2,g3,g4,J,g6,g7⟩:=ag6 h D hi;have I:=E.tp;rw[zE D]at I;have V:(seg s.W (c.off 1) c.X.length).length=c.X.length:=dw (C.in' h (i:=1) (by omega));have z1:c.sz 1=c.X.length:=rfl;have o1:=i7 (c:=c) (i:=1) (j:=9) (by omega);unfold HA;by_cases a8:a=8
 .rw[zE a8];by_cases A:n≠0
  .rw[zE A];exact hi
  rw[zF A];by_cases u:0<=s.q
  .rw[zE u];exact hi
  rw[zF u];by_cases g:s.p=s.L
  .rw[zE g];exact hi
  rw[zF g];have e:sX s=s.p:=by unfold sX;rw[Zg]
  have B:s.p.toNat<c.ns.toNat:=by omega
  obtain⟨s1,s2,Z,s4⟩:=DX h D B;obtain⟨f1,f2,f3⟩:=ly h C s.p;have w1:=Bj h C s.p;have H:((stepR c s.W s.p).2.1++(stepR c s.W s.p).1).length=c.sl.toNat:=by rw[List.length_append];omega
  have w2:=w1.put h (w:=(stepR c s.W s.p).2.1++(stepR c s.W s.p).1) (o:=ob c s.p.toNat) (by rw[H];exact Z);have K:=J (by rw[e];omega);refine⟨w2.put h (by rw[aB];omega),F,⟨by show 0<=s.p+1;omega,by show s.p+1<=s.L;omega⟩,S,λz=> ?_, ?_, ?_⟩
  .have z:0<=s.q:=z;omega
  .show s.lv+c.sl=c.fixed+c.sl*(if s.q<0 then s.p+1 else s.q);rw[Zg,hi.lv,e,Int.mul_add,Int.mul_one];omega
  .show s.lv+c.sl<=max s.pk (s.lv+c.sl)/\max s.pk (s.lv+c.sl)<=c.words;omega
 rw[zF a8];by_cases a5:a=5
 .rw[zE a5];by_cases A:n≠0
  .rw[zE A];exact hi
  rw[zF A];by_cases u:0<=s.q
  .rw[zE u];exact hi
  rw[zF u];by_cases g:s.p≠s.L
  .rw[zE g];exact hi
  rw[zF g];refine⟨(EM h C V).2,F,N,⟨by show-1<=s.L;omega,Int.le_refl _⟩,λ_=>by show s.p=s.L;omega, ?_, ?_⟩
  .show s.lv=c.fixed+c.sl*(if s.L<0 then s.p else s.L);rw[Zh,hi.lv];unfold sX;rw[Zg,show s.p=s.L by omega]
  .show s.lv<=max s.pk (s.lv+(c.fk.n:Int))/\max s.pk (s.lv+(c.fk.n:Int))<=c.words;omega
 rw[zF a5];by_cases a9:a=9
 .rw[zE a9];by_cases A:n≠0
  .rw[zE A];exact hi
  rw[zF A];by_cases z:s.q<1
  .rw[zE z];exact hi
  rw[zF z];have B:(s.q-1).toNat<c.ns.toNat:=by omega
  obtain⟨b1,b2,b3,b4,b5,b6⟩:=Lc h D C B;obtain⟨v1,v2,v3⟩:=rW h (a:=(AE c s.W (s.q-1).toNat).2.1) C (by omega) (by omega);refine⟨v3.put h (by rw[aB];omega),F,⟨by show 0<=s.q-1;omega,by show s.q-1<=s.L;omega⟩,⟨by show-1<=s.q-1;omega,by show s.q-1<=s.L;omega⟩,λ_=>rfl, ?_, ?_⟩
  .show s.lv-c.sl=c.fixed+c.sl*(if s.q-1<0 then s.q-1 else s.q-1);have e:sX s=s.q:=by unfold sX;rw[Zh]
   rw[Zh,hi.lv,e,Int.mul_sub,Int.mul_one];omega
  .show s.lv-c.sl<=s.pk/\s.pk<=c.words;have:=E.sl;rw[zE D]at this;omega
 rw[zF a9];exact hi
theorem aC7 {B:Int}(g:IS B s)(a n:Int):IS (B+65536) (HA c a n s).2:=by
 have e:IS (B+65536) s:=by unfold IS at g⊢;omega
 unfold HA
 repeat' split
 all_goals first|exact e|(unfold IS at g⊢;simp only;omega)
def AG (c:Cx)(s:Dy):Int×Dy:=if c.mode≠2 then(19,s)else if 0<=s.q then(19,s)else if s.L=65535 then(14,s)else(0,{s with L:=s.L+1})
theorem PN {B:Int}(g:IS B s):IS (B+65536) (AG c s).2:=by
 have e:IS (B+65536) s:=by unfold IS at g⊢;omega
 unfold AG
 repeat' split
 all_goals first|exact e|(unfold IS at g⊢;simp only;omega)
theorem Vr (e:c.mode=3)(hi:InvB c s):InvB c (AG c s).2:=by
 unfold AG;rw[Zg];exact hi
theorem Vs (hi:Inv c s):Inv c (AG c s).2:=by
 unfold AG;split
 .exact hi
 split
 .exact hi
 split
 .exact hi
 .have:=hi.L;have:=hi.p;have:=hi.q;exact⟨hi.w,⟨by show 0<=s.L+1;omega,by show s.L+1<=65535;omega⟩,⟨hi.p.1,by show s.p<=s.L+1;omega⟩,⟨hi.q.1,by show s.q<=s.L+1;omega⟩,λk e=>by have:=hi.tag k e;exact⟨this.1,by show mb c s.W k<=s.L+1+1;omega⟩,hi.lv,hi.pk⟩
theorem Yn (g:Sd c s):Sd c (AG c s).2:=by
 intro e;unfold AG;rw[zE e];exact g e
theorem aW0 (a n:Int)(s:Dy):(Fp c a n s).2.L=s.L:=by
 unfold Fp;by_cases g:px a n=Zb∨7<a
 .rw[zE g]
 rw[zF g];by_cases o:(2<=a/\a<=4)/\c.ns<=n
 .rw[zE o]
 rw[zF o]
 have e: ∀{P:Prop} [Decidable P] {x y:Int×Dy},x.2.L=s.L->y.2.L=s.L->(if P then x else y).2.L=s.L:=by
  intro P _ x y q u;by_cases p:P
  .rw[zE p];exact q
  .rw[zF p];exact u
 exact e (e rfl rfl) (e (e rfl rfl) (e (e rfl rfl) (e (e rfl rfl) (e (e rfl (e rfl rfl)) (e (e rfl (e rfl rfl)) (e rfl (e rfl rfl)))))))
theorem av4 (e:Sd c s)(a n:Int):Sd c (Fp c a n s).2:=λg=>(aW0 a n s).trans (e g)
def at5 (c:Cx)(x:Int×Int)(s:Dy):Int×Dy:=if x.1=0 then AG c s else HA c x.1 x.2 s
theorem aY2 (u:0<=s.L/\s.L<=65535):mf c.fixed c.tp c.sl c.ns c.mode c.R c.Q c.len c.words s.L s.p s.q s.c0 s.c1 s.c2 s.c3 s.z c.X c.T c.l c.k c.P c.tk (c.off 8:Int) c.ns (c.X.length:Int) s.lv s.pk c.words s.W=O ((AG c s).1,c.fixed,c.tp,c.sl,c.ns,c.mode,c.R,c.Q,c.len,c.words,(AG c s).2.L,s.p,s.q,s.c0,s.c1,s.c2,s.c3,s.z):=by
 unfold mf AG;rw[ak];by_cases e:c.mode≠2
 .rw[zE e,zE e]
 rw[zF e,zF e,ak];by_cases g:0<=s.q
 .rw[zE g,zE g]
 rw[zF g,zF g,ak];by_cases o:s.L=65535
 .rw[zE o,zE o]
 rw[zF o,zF o,Zi]
def aa5 (c:Cx)(x:Int×Int)(s:Dy):Int×Dy:=if x.1=0 then AG c s else Fp c x.1 x.2 s
structure Well1 (c:Cx)(i:Nat)(s:Dy):Prop where
 inv:InvB c s
 cnt:IS (65536*i) s
structure Well2 (c:Cx)(i:Nat)(s:Dy):Prop where
 inv:Inv c s
 cnt:IS (65536*i) s
 len:Sd c s
theorem Well1.act (h:c.Ok)(g:c.mode=3)(w:Well1 c i s)(x:Int×Int):Well1 c (i+1) (at5 c x s).2:=by
 have e:(65536:Int)*((i+1:Nat):Int)=65536*i+65536:=by omega
 unfold at5;split
 .exact⟨Vr g w.inv,by rw[e];exact PN w.cnt⟩
 .exact⟨aC8 h g w.inv _ _,by rw[e];exact aC7 w.cnt _ _⟩
theorem Well2.act (h:c.Ok)(g:c.mode≠3)(w:Well2 c i s)(x:Int×Int):Well2 c (i+1) (aa5 c x s).2:=by
 have e:(65536:Int)*((i+1:Nat):Int)=65536*i+65536:=by omega
 unfold aa5;split
 .exact⟨Vs w.inv,by rw[e];exact PN w.cnt,Yn w.len⟩
 .exact⟨av3 h g w.inv _ _,by rw[e];exact av2 w.cnt _ _,av4 w.len _ _⟩
def aQ1 (f:(Int×Int)->Dy->Int×Dy)(l:List (Int×Int))(s:Dy):Nat->Dy
 |0=>s
 |i+1=>(f (l.getD i (0,0)) (aQ1 f l s i)).2
theorem W5 (s:Dy)(h:s.c0=0/\s.c1=0/\s.c2=0/\s.c3=0):IS (65536*(0:Nat)) s:=by
 unfold IS;omega
theorem Qn (h:c.Ok)(e:c.mode=3)(l:List (Int×Int)): ∀i,Well1 c i (aQ1 (at5 c) l (new1 c) i)
 |0=>⟨ai3 h e,W5 _ ⟨rfl,rfl,rfl,rfl⟩⟩
 |i+1=>(Qn h e l i).act h e _
theorem Qo (h:c.Ok)(e:c.mode≠3)(l:List (Int×Int)): ∀i,Well2 c i (aQ1 (aa5 c) l (new2 c) i)
 |0=>⟨ai4 h e,W5 _ ⟨rfl,rfl,rfl,rfl⟩,λ_=>rfl⟩
 |i+1=>(Qo h e l i).act h e _
def ID (c:Cx)(s:Dy):Int×Int×(Zd)×Zd:=if s.q≠0 then(0,19,[],[])else(s.z,0,seg s.W (c.off 5) c.X.length,seg s.W (c.off 6) c.T.length)
theorem aD5 (h:c.Ok)(g:Wd c s.W):qs c.fixed c.tp c.sl c.ns c.mode c.R c.Q c.len c.words s.L s.p s.q s.c0 s.c1 s.c2 s.c3 s.z c.X c.T c.l c.k c.P c.tk s.lv s.pk c.words s.W=O (ID c s):=by
 unfold qs ID;rw[ak];by_cases e:s.q≠0
 .rw[zE e,zE e]
 rw[zF e,zF e,S9 (ii:=5) (i:=5) h g rfl (by omega)];simp only[zG];rw[S9 (ii:=6) (i:=6) h g rfl (by omega)];rfl
theorem Xe (h:c.Ok)(g:Wd c s.W):jt c.fixed c.tp c.sl c.ns c.mode c.R c.Q c.len c.words s.L s.p s.q s.c0 s.c1 s.c2 s.c3 s.z c.X c.T c.l c.k c.P c.tk (c.off 8:Int) c.ns (c.X.length:Int) s.lv s.pk c.words s.W=O (ID c s):=by
 unfold jt ID;rw[ak];by_cases e:s.q≠0
 .rw[zE e,zE e]
 rw[zF e,zF e,O8 (ii:=5) (i:=5) h g rfl (by omega)];simp only[zG];rw[O8 (ii:=6) (i:=6) h g rfl (by omega)];rfl
theorem Qb {l:Zd}{f:Int->Option (Int⊕(Bool⊕Unit))}(g:l.length<1000000000)(e: ∀s,f s=cond (Zc (s<((l.length:Nat):Int))) ((rd l s).bind λx=>(rd l s).bind λy=>cond (Zc (x≠y)) (O (.inr (.inl Zb))) (O (.inl (IntKind.i64.wrap (s+1))))) (O (.inr (.inr ())))):aw f gv 0=O (.inr ()):=by
 refine yr (n:=l.length) (by omega) (λi hi=> ?_) ?_
 .rw[e];rw[Zf,zC,dn hi];simp only[zG];rw[dne,zD,Zi];rfl
 .rw[e];rw[Ze,zD]
theorem aQ3 {z:Int}{l k:Zd}(g:l.length<1000000000)(e:k.length<1000000000):fd z l k z l k=O Za:=by
 unfold fd;rw[dne,dne,dne,zD,zD,zD,Qb (f:=Ff l l) (l:=l) g λs=>rfl];simp only[zG,cv];rw[Qb (f:=Fg k k) (l:=k) e λs=>rfl];rfl
end
end
section
section
variable {c:Cx}
end
end
section
section
variable {a0:Int} {a1 a2:Zd} {a3:Int} {a4:List bg} {a5:Int} {a6:List bg} {a7 a8:Int}
theorem aE7 (q: ∀o∈a4,NR o)(u: ∀o∈a6,NR o):rc a0 a1 a2 a3 a4 a5 a6 a7 a8=O Zb∨(rc a0 a1 a2 a3 a4 a5 a6 a7 a8=O Za/\OpsOk a4/\OpsOk a6/\a1.length<=200/\a2.length<=200):=by
 unfold rc CU;by_cases c1:(a4.length:Int)<=60
 .by_cases c2:(a6.length:Int)<=60
  .by_cases c3:(a1.length:Int)<=200
   .by_cases c4:(a2.length:Int)<=200
    .have g:OpsOk a4:=⟨by omega,q⟩;have p:OpsOk a6:=⟨by omega,u⟩;rw[zB c1,zB c2,zB c3,zB c4];simp only[zC,zG,Bool.not_true,zD];rw[an1 g p (by omega) (by omega)];simp only[zG,ak]
     have e: ∀b:Bool,(O b=O Zb)∨(O b=O Za/\OpsOk a4/\OpsOk a6/\a1.length<=200/\a2.length<=200):=λb=>by
      cases b
      .exact .inl rfl
      .exact .inr ⟨rfl,g,p,by omega,by omega⟩
     repeat' split
     all_goals exact e _
    .rw[zB c1,zB c2,zB c3,zA c4];exact .inl rfl
   .rw[zB c1,zB c2,zA c3];exact .inl rfl
  .rw[zB c1,zA c2];exact .inl rfl
 .rw[zA c1];exact .inl rfl
end
end
section
def UK (a:Int):Prop:=0<=a/\a<18446744073709551616
theorem wU (n:Int):IntKind.u64.wrap n=n % 18446744073709551616:=rfl
variable {x s d0 d1 d2 d3 d4 d5 d6 d7 c0 c1 c2 c3 c4 c5 c6 c7 r0 r1 r2 r3 r4 r5 r6 r7 x0 x1 x2 x3 x4 x5 x6 x7 y0 y1 y2 y3 y4 y5 y6 y7 p0 p1 p2 p3 p4 p5 p6 p7:Int}
end
section
section
variable {l:List bg} {R:Int} {f:Fo}
end
section
variable {l:List bg} {m:Zd}
def MOf (l:List bg)(m:Zd):Prop:= ∀(A B:List bg) (o e:bg) (b:Fo),l=A++o::(b.src++e::B)->b.Ok->o.1=7->e.1=0->m[A.length]?=O ((A.length+1+b.len:Nat):Int)
theorem mOf (E:MOK l m):MOf l m:=λA B o e b q z F D=>by
 have u:l.length=A.length+1+(b.len+(B.length+1)):=by rw[q];simp[Fo.src_len];omega
 have p:A.length<l.length:=by omega
 have g:l[A.length]=o:=by
  have:l[A.length]?=O o:=by rw[q,List.getElem?_append_right (Nat.le_refl _),Nat.sub_self];rfl
  rw[List.getElem?_eq_getElem p]at this;injection this
 have C:l.drop (A.length+1)=b.src++e::B:=by rw[q,List.drop_append,List.drop_of_length_le (by omega),show A.length+1-A.length=1 by omega];rfl
 have:=E.at' A.length p (by rw[g];exact F) b.src e B C D (Fo.scan0 z);rw[Fo.src_len]at this;exact this
theorem pa : ∀g:Fo,g.unroll.length=g.n
 | .nil=>rfl
 | .op o r=>by simp only[Fo.unroll,Fo.n,List.length_cons,pa r];omega
 | .rep o b e r=>by simp[Fo.unroll,Fo.n,pa r,pa b,Nat.mul_comm]
end
section
variable {l:List bg} {R:Int} {f:Fo}
end
end
section
def ck (r:Zd):Prop:= ∀x∈r,UK x
theorem w0 :UK 0:=by unfold UK;omega
theorem RX (n:Int):UK (IntKind.u64.wrap n):=by rw[wU];unfold UK;omega
theorem Pa (h:ck r)(k:Int):UK (rg r k):=by
 unfold rg;rw[List.getD_eq_getElem?_getD];by_cases e:k.toNat<r.length
 .rw[List.getElem?_eq_getElem e];exact h _ (List.getElem_mem e)
 .rw[List.getElem?_eq_none (by omega)];exact w0
theorem ck.set (h:ck r)(e:UK v)(k:Nat):ck (r.set k v):=λx g=>by
 rcases List.mem_or_eq_of_mem_set g with h1|h1
 .exact h x h1
 .rw[h1];exact e
theorem ck.app {s:Zd}(h:ck r)(k:ck s):ck (r++s):=λx e=>(List.mem_append.1 e).elim (h x) (k x)
theorem ck.rep (n:Nat):ck (List.replicate n 0):=λx e=>by rw[(List.mem_replicate.1 e).2];exact w0
theorem ck.fill {R:Int}(h:ck r):ck (fill R r):=h.app (ck.rep _)
theorem ck.drop (h:ck r)(n:Nat):ck (r.drop n):=λx e=>h x (List.mem_of_mem_drop e)
theorem ck.take (h:ck r)(n:Nat):ck (r.take n):=λx e=>h x (List.mem_of_mem_take e)
theorem aH4 {o:bg}(e:NR o)(g:UK x)(p:UK y):UK (app o x y):=by
 unfold Go.V.app;unfold NR at e
 repeat' split
 all_goals first|exact RX _|exact g|exact w0|(unfold UK;omega)
def aX4 (n:Nat)(l:List bg):Prop:= ∀o∈l,OB n o/\NR o
theorem Nt (l:List bg): ∀s:FS,(FJ L7 l s).1.length=s.1.length:=by
 induction l with
 |nil=>intro s;rfl
 |cons o l e=>intro s;show(FJ L7 l (L7 o s)).1.length=_;rw[e];unfold L7;simp
theorem aM4 (l:List bg): ∀s:FS,ck s.1->(∀o∈l,NR o)->ck (FJ L7 l s).1:=by
 induction l with
 |nil=>intro s h _;exact h
 |cons o l p=>
  intro s h e;exact p (L7 o s) (h.set (aH4 (e o (by simp)) (Pa h _) (Pa h _)) _) (λx g=>e x (by simp[g]))
section
variable {l:List bg} {R:Int} {f:Fo}
theorem E8 : ∀(g:Fo),g.Ok->∀o∈g.unroll,o∈g.src/\0<o.1/\o.1<7
 | .nil,_,o,ho=>by cases ho
 | .op x r,h,o,ho=>by
  rcases List.mem_cons.1 ho with rfl|ho
  .exact⟨by simp[Fo.src],h.1⟩
  .obtain⟨p,q⟩:=E8 r h.2 o ho;exact⟨by simp[Fo.src,p],q⟩
 | .rep x b e r,h,o,ho=>by
  simp only[Fo.unroll]at ho;rcases List.mem_append.1 ho with ho|ho
  .obtain⟨u,z,ho⟩:=List.mem_flatten.1 ho;rw[(List.mem_replicate.1 z).2]at ho;obtain⟨p,q⟩:=E8 b h.2.1 o ho;exact⟨by simp[Fo.src,p],q⟩
  .obtain⟨p,q⟩:=E8 r h.2.2 o ho;exact⟨by simp[Fo.src,p],q⟩
theorem Prg.goodU (h:Prg R l f):aX4 R.toNat f.unroll:=λo p=>by
 obtain⟨e,g⟩:=E8 f h.ok o p;rw[h.src]at e;exact⟨h.regs o e g,h.ops.v o e⟩
theorem Prg.ulen (h:Prg R l f):f.unroll.length=f.n/\f.n<=65536:=⟨pa f,h.n⟩
theorem S6 (l:List bg): ∀s:TS,(FJ vh l s).1.length=s.1.length/\(FJ vh l s).2.1.length=s.2.1.length/\(FJ vh l s).2.2=s.2.2+l.length:=by
 induction l with
 |nil=>intro s;exact⟨rfl,rfl,rfl⟩
 |cons o l q=>
  intro s;obtain⟨e,g,p⟩:=q (vh o s);exact⟨e.trans (by unfold vh;simp),g.trans (by unfold vh;simp),p.trans (by unfold vh;simp;omega)⟩
theorem aM6 (l:List bg): ∀s:TS,ck s.1->ck s.2.1->(∀o∈l,NR o)->ck (FJ vh l s).1/\ck (FJ vh l s).2.1:=by
 induction l with
 |nil=>intro s h k _;exact⟨h,k⟩
 |cons o l p=>
  intro s h k e;exact p (vh o s) (h.set (aH4 (e o (by simp)) (Pa h _) (Pa h _)) _) (k.set (Pa h _) _) (λx g=>e x (by simp[g]))
end
end
section
open List renaming replicate -> aB
theorem IJ {a:Zd}(h:k<a.length):a.set k (rg a (k:Int))=a:=by
 have:=lm h;rw[List.getElem?_eq_getElem h]at this;injection this with this
 rw[<-this];exact List.set_getElem_self h
theorem aP6 {o:bg}{a:Zd}{t:Int}(g:ck r)(e:ck a)(p:UK t):ck (GJ o r a t).1/\ck (GJ o r a t).2:=by
 unfold GJ;exact⟨g.set p _,((e.set w0 _).set (RX _) _).set (RX _) _⟩
section
variable {l:List bg} {R:Int} {f:Fo}
theorem au1 (C:ck t)(l:List bg): ∀s:BS,ck s.1->ck s.2.1->(EH (tx t) l s).1.length=s.1.length/\(EH (tx t) l s).2.1.length=s.2.1.length/\(EH (tx t) l s).2.2=s.2.2-l.length/\ck (EH (tx t) l s).1/\ck (EH (tx t) l s).2.1:=by
 induction l with
 |nil=>intro s h k;exact⟨rfl,rfl,rfl,h,k⟩
 |cons o l B=>
  intro s h k;obtain⟨p,q,u,z,A⟩:=B s h k;have e:=JG o (EH (tx t) l s).1 (EH (tx t) l s).2.1 (rg t (((EH (tx t) l s).2.2-1:Nat):Int));have g:=aP6 (o:=o) z A (Pa C (((EH (tx t) l s).2.2-1:Nat):Int));refine⟨e.1.trans p,e.2.trans q, ?_,g.1,g.2⟩;show(EH (tx t) l s).2.2-1=_;rw[u,List.length_cons];omega
theorem IB (h:Prg R l f)(z:ck r)(A:ck t):ck (wl f r t).1/\ck (wl f r t).2.1/\(wl f r t).1.length=r.length/\(wl f r t).2.1.length=t.length:=by
 obtain⟨e,g⟩:=aM6 f.unroll (r,t,0) z A (λo u=>(h.goodU o u).2);obtain⟨p,q,_⟩:=S6 f.unroll (r,t,0);exact⟨e,g,p,q⟩
def P4 (R:Int)(f:Fo)(r w:Zd):Zd:=(ny f (wl f (fill R r) (aB f.n 0)).1 (fill R w) (wl f (fill R r) (aB f.n 0)).2.1).2.1
theorem Lx (h:Prg R l f)(F:r.length<=R.toNat)(q:w.length<=R.toNat)(u:ck r)(z:ck w):(P4 R f r w).length=R.toNat/\ck (P4 R f r w):=by
 obtain⟨o,p,D,E⟩:=IB h (r:=fill R r) (t:=aB f.n 0) u.fill (ck.rep _);obtain⟨A,e,B,C,g⟩:=au1 p f.unroll ((wl f (fill R r) (aB f.n 0)).1,fill R w,f.n) o z.fill;exact⟨e.trans (ja q),g⟩
theorem Ob (h:Prg R l f)(g:ck r):(GN f r).length=r.length/\ck (GN f r):=⟨Nt _ _,aM4 _ _ g λo e=>(h.goodU o e).2⟩
theorem aM5 (l:List bg): ∀(r t:Zd) (k n:Nat),(FJ vh l (r,t,k)).1=(FJ L7 l (r,n)).1:=by
 induction l with
 |nil=>intro r t k n;rfl
 |cons o l e=>intro r t k n;exact e _ _ _ _
theorem P7 (f:Fo)(r t:Zd):(wl f r t).1=GN f r:=aM5 _ _ _ _ _
end
end
section
open List renaming length_take -> aD
open Nat renaming le_refl -> aB, lt_or_gt_of_ne -> bB
theorem ck.put (h:ck W)(k:ck w)(o:Nat):ck (put W o w):=(h.take o).app (k.app (h.drop _))
theorem ck.seg (h:ck W)(o n:Nat):ck (seg W o n):=(h.drop o).take n
theorem aK4 (x:Nat)(g a:Zd):ck (BJ x g a):=λv e=>by
 unfold BJ at e;obtain⟨i,_,rfl⟩:=List.mem_map.1 e;exact RX _
section
variable {c:Cx}
structure Has (c:Cx)(W st ax at':Zd):Prop where
 wd:Wd c W
 w:ck W
 t:seg W 0 c.T.length=c.T
 s:seg W (c.off 1) c.X.length=st
 x:seg W (c.off 5) c.X.length=ax
 a:seg W (c.off 6) c.T.length=at'
theorem Qf (h:c.Ok)(e:Wd c W)(hi:i<9)(g:w.length<=c.sz i):c.off i+w.length<=W.length:=by
 have:=e.in' h hi;omega
theorem Has.put (h:c.Ok)(H:Has c W st ax at')(hi:i<9)(B:w.length<=c.sz i)(C:ck w)(o:i≠0)(p:i≠1)(q:i≠5)(u:i≠6):Has c (put W (c.off i) w) st ax at':=by
 have A:=Qf h H.wd hi B
 have e: ∀j n,j≠i->n<=c.sz j->j<9->seg (Go.V.put W (c.off i) w) (c.off j) n=seg W (c.off j) n:=λj n z E D=>by
  refine sR A ?_;rcases bB z with g|hgt
  .exact .inl (by have:=i7 (c:=c) g;omega)
  .exact .inr (by have:=i7 (c:=c) hgt;omega)
 refine⟨H.wd.put h (by have:=i7 (c:=c) (show i<9 from hi);omega),H.w.put C _, ?_, ?_, ?_, ?_⟩
 .have:=e 0 c.T.length (Ne.symm o) (aB _) (by omega);exact this.trans H.t
 .exact(e 1 c.X.length (Ne.symm p) (aB _) (by omega)).trans H.s
 .exact(e 5 c.X.length (Ne.symm q) (aB _) (by omega)).trans H.x
 .exact(e 6 c.T.length (Ne.symm u) (aB _) (by omega)).trans H.a
theorem BY (h:c.Ok)(o:Wd c W){n:Nat}(e:j≠i)(hi:i<9)(q:j<9)(u:n<=c.sz j)(p:w.length<=c.sz i):seg (put W (c.off i) w) (c.off j) n=seg W (c.off j) n:=by
 refine sR (Qf h o hi p) ?_;rcases bB e with g|hgt
 .exact .inl (by have:=i7 (c:=c) g;omega)
 .exact .inr (by have:=i7 (c:=c) hgt;omega)
theorem Has.put1 (h:c.Ok)(H:Has c W st ax at')(g:w.length=c.X.length)(o:ck w):Has c (Go.V.put W (c.off 1) w) w ax at':=by
 have e:w.length<=c.sz 1:=Nat.le_of_eq g;refine⟨H.wd.put h (by have:=i7 (c:=c) (show 1<9 by omega);omega),H.w.put o _,(BY h H.wd (i:=1) (j:=0) (by omega) (by omega) (by omega) (aB _) e).trans H.t, ?_,(BY h H.wd (i:=1) (j:=5) (by omega) (by omega) (by omega) (aB _) e).trans H.x,(BY h H.wd (i:=1) (j:=6) (by omega) (by omega) (by omega) (aB _) e).trans H.a⟩;rw[<-g];exact xF (Qf h H.wd (by omega) e)
theorem Has.back (h:c.Ok){a:Zd}(H:Has c W st ax at')(N:c.X.length+c.T.length<=a.length)(A:a.length<=max c.R.toNat c.Q.toNat)(F:ck a):Has c (BK c W a) st (a.take c.X.length) (BJ c.X.length at' a):=by
 have H4:=H.put h (i:=4) (by omega) (w:=a) A F (by omega) (by omega) (by omega) (by omega);unfold BK;generalize Go.V.put W (c.off 4) a=W1 at*;have E:(a.take c.X.length).length<=c.sz 5:=by rw[aD];exact Nat.min_le_left _ _
 have M:(a.take c.X.length).length=c.X.length:=by rw[aD];omega
 have u:=H4.wd.put h (o:=c.off 5) (w:=a.take c.X.length) (by have:=i7 (c:=c) (show 5<9 by omega);omega);have p:=λj (B:j≠5) (z:j<9)=>BY h H4.wd (i:=5) (j:=j) B (by omega) z (aB _) E
 have K:seg (Go.V.put W1 (c.off 5) (a.take c.X.length)) (c.off 5) c.X.length=a.take c.X.length:=by
  have:=xF (Qf h H4.wd (i:=5) (by omega) E);rw[M]at this;exact this
 have L:=(p 6 (by omega) (by omega)).trans H4.a;have I:=(p 0 (by omega) (by omega)).trans H4.t;have J:=(p 1 (by omega) (by omega)).trans H4.s;have a5:ck (Go.V.put W1 (c.off 5) (a.take c.X.length)):=H4.w.put (F.take _) _;generalize Go.V.put W1 (c.off 5) (a.take c.X.length)=W2 at*;have e:seg W2 (c.off 6) c.T.length=at':=L;rw[e];have C:at'.length=c.T.length:=by rw[<-e];exact dw (u.in' h (i:=6) (by omega))
 have D:(BJ c.X.length at' a).length=c.T.length:=by rw[xp,C]
 have g:(BJ c.X.length at' a).length<=c.sz 6:=Nat.le_of_eq D;have q:=λj (B:j≠6) (z:j<9)=>BY h u (i:=6) (j:=j) B (by omega) z (aB _) g
 refine⟨u.put h (by have:=i7 (c:=c) (show 6<9 by omega);omega),a5.put (aK4 _ _ _) _,(q 0 (by omega) (by omega)).trans I,(q 1 (by omega) (by omega)).trans J,(q 5 (by omega) (by omega)).trans K, ?_⟩;have:=xF (Qf h u (i:=6) (by omega) g);rw[D]at this;exact this
def xL (c:Cx)(t:Int)(x:Zd):Zd:=x++(c.T++[IntKind.u64.wrap t])
def ya (c:Cx)(t:Int)(x:Zd):Zd:=(GN c.fl (fill c.R (xL c t x))).take c.X.length
def lossV (c:Cx)(x:Zd):Int:=rg (GN c.fk (fill c.Q (x++(c.T++[])))) 0
def ve (c:Cx)(t:Int)(x e:Zd):Zd:=P4 c.R c.fl (xL c t x) e
def zO (c:Cx)(x:Zd):Zd:=P4 c.Q c.fk (x++(c.T++[])) [1]
theorem Cx.Ok.lens (h:c.Ok):((c.X.length:Int)+c.T.length+1<=c.R/\(c.X.length:Int)+c.T.length<=c.Q)/\(1<=c.R/\c.R<=64)/\(1<=c.Q/\c.Q<=64)/\1<=c.X.length/\c.X.length<=64/\c.T.length<=64:=by
 have n:=h.num;have e:=Ho h.hc;exact⟨Ps (by have:=n.x;omega) (by have:=n.t;omega) e.2,n.R,n.Q,n.x.1,n.x.2,n.t⟩
theorem BL (t:Int){x:Zd}(e:x.length=c.X.length):(xL c t x).length=c.X.length+c.T.length+1:=by unfold xL;simp[e];omega
theorem QU {t:Int}{x:Zd}(g:ck x)(wT:ck c.T):ck (xL c t x):=g.app (wT.app λv e=>by rw[List.mem_singleton.1 e];exact RX _)
variable (h:c.Ok) (wT:ck c.T)
include h wT
theorem CK {t:Int}{x:Zd}(o:x.length=c.X.length)(p:ck x):(ya c t x).length=c.X.length/\ck (ya c t x):=by
 obtain⟨⟨z,A⟩,u,q,x1,x2,B⟩:=h.lens;obtain⟨e,g⟩:=Ob h.pl (r:=fill c.R (xL c t x)) (QU p wT).fill;rw[ja (by rw[BL t o];omega)]at e;unfold ya;exact⟨by rw[aD,e];omega,g.take _⟩
theorem GK {t:Int}{x e:Zd}(g:x.length=c.X.length)(p:ck x)(z:e.length=c.X.length)(o:ck e):(ve c t x e).length=c.R.toNat/\ck (ve c t x e):=by
 obtain⟨⟨A,B⟩,u,q,x1,x2,C⟩:=h.lens;exact Lx h.pl (by rw[BL t g];omega) (by omega) (QU p wT) o
theorem aY7 :ck [1]:=λv e=>by rw[List.mem_singleton.1 e];unfold UK;omega
theorem Lw {x:Zd}(g:x.length=c.X.length)(o:ck x):(zO c x).length=c.Q.toNat/\ck (zO c x):=by
 obtain⟨⟨u,z⟩,q,p,x1,x2,A⟩:=h.lens;exact Lx h.pk (by simp[g];omega) (by simp;omega) (o.app (wT.app λv e=>by cases e)) (aY7 h wT)
end
end
section
open Nat renaming le_of_eq -> aB
section
variable {c:Cx} (h:c.Ok) (wT:ck c.T) {W st ax at':Zd}
def oc (c:Cx)(t:Int)(x:Zd):TS:=wl c.fl (fill c.R (xL c t x)) (cq c.fl.n)
include h wT
theorem Has.lens (H:Has c W st ax at'):st.length=c.X.length/\ax.length=c.X.length/\at'.length=c.T.length/\ck st/\ck ax/\ck at':=by
 refine⟨?_, ?_, ?_, ?_, ?_, ?_⟩
 .rw[<-H.s];exact dw (H.wd.in' h (i:=1) (by omega))
 .rw[<-H.x];exact dw (H.wd.in' h (i:=5) (by omega))
 .rw[<-H.a];exact dw (H.wd.in' h (i:=6) (by omega))
 .rw[<-H.s];exact H.w.seg _ _
 .rw[<-H.x];exact H.w.seg _ _
 .rw[<-H.a];exact H.w.seg _ _
theorem B1 {t:Int}{x:Zd}(q:x.length=c.X.length)(u:ck x):ck (oc c t x).1/\ck (oc c t x).2.1/\(oc c t x).1.length=c.R.toNat/\(oc c t x).2.1.length=c.fl.n/\(oc c t x).1.take c.X.length=ya c t x:=by
 obtain⟨⟨B,C⟩,A,z,x1,x2,D⟩:=h.lens;obtain⟨e,g,o,p⟩:=IB h.pl (r:=fill c.R (xL c t x)) (t:=cq c.fl.n) (QU u wT).fill (ck.rep _);refine⟨e,g,o.trans (ja (by rw[BL t q];omega)),p.trans (cg _), ?_⟩;unfold oc ya;rw[P7]
omit wT in
theorem Has.stepR (H:Has c W st ax at')(p:Int):stepR c W p=oc c p st:=by
 unfold Go.V.stepR oc xL;rw[H.s,H.t]
omit wT in
theorem Has.lossR (H:Has c W st ax at')(x:Zd):lossR c W x=wl c.fk (fill c.Q (x++(c.T++[]))) (cq c.fk.n):=by
 unfold Go.V.lossR;rw[H.t]
theorem Has.lossV (H:Has c W st ax at')(x:Zd):rg (Go.V.lossR c W x).1 0=lossV c x:=by
 rw[H.lossR h,P7];rfl
theorem Has.taped (H:Has c W st ax at')(p:Int):Has c (Go.V.put W (c.off 2) (Go.V.stepR c W p).1) st ax at':=by
 obtain⟨o,B,C,q,D,E⟩:=H.lens h wT;obtain⟨e,u,g,z,A⟩:=B1 h wT (t:=p) o q;rw[H.stepR h];exact H.put h (i:=2) (by omega) (aB g) e (by omega) (by omega) (by omega) (by omega)
theorem Has.endd (H:Has c W st ax at'){x:Zd}(o:x.length=c.X.length)(p:ck x):Has c (Kp c W x) st ((zO c x).take c.X.length) (BJ c.X.length at' (zO c x)):=by
 obtain⟨⟨F,I⟩,D,C,x1,x2,J⟩:=h.lens;have E:(x++(c.T++[])).length=c.X.length+c.T.length:=by simp[o]
 have z:ck (x++(c.T++[])):=p.app (wT.app λv u=>by cases u);obtain⟨q,A,g,B⟩:=IB h.pk (r:=fill c.Q (x++(c.T++[]))) (t:=cq c.fk.n) z.fill (ck.rep _);rw[ja (by omega)]at g;obtain⟨p1,p2⟩:=Lw h wT o p;unfold Kp;rw[H.lossR h];have H3:=H.put h (i:=3) (by omega) (aB g) q (by omega) (by omega) (by omega) (by omega);have e:(ny c.fk (wl c.fk (fill c.Q (x++(c.T++[]))) (cq c.fk.n)).1 (fill c.Q [1]) (wl c.fk (fill c.Q (x++(c.T++[]))) (cq c.fk.n)).2.1).2.1=zO c x:=rfl;rw[e];exact H3.back h (by omega) (by omega) p2
theorem Has.turn (H:Has c W st ax at'){p:Int}{x:Zd}(g:x.length=c.X.length)(u:ck x):Has c (Ou c W (oc c p x).1 (oc c p x).2.1) st ((ve c p x ax).take c.X.length) (BJ c.X.length at' (ve c p x ax)):=by
 obtain⟨⟨F,I⟩,A,z,x1,x2,J⟩:=h.lens;obtain⟨B,o,C,D,q,E⟩:=H.lens h wT;obtain⟨p1,p2⟩:=GK h wT (t:=p) g u o q;unfold Ou;rw[H.x];have e:(ny c.fl (oc c p x).1 (fill c.R ax) (oc c p x).2.1).2.1=ve c p x ax:=rfl;rw[e];exact H.back h (by omega) (by omega) p2
theorem Has.adv1 (H:Has c W st ax at')(p:Int):Has c (Go.V.adv1 c W p) (ya c p st) ax at':=by
 obtain⟨⟨J,K⟩,C,B,x1,x2,L⟩:=h.lens;obtain⟨o,D,E,q,F,I⟩:=H.lens h wT
 have e:LA c W p=GN c.fl (fill c.R (xL c p st)):=by
  unfold LA xL;rw[H.s,H.t]
 obtain⟨g,u⟩:=Ob h.pl (r:=fill c.R (xL c p st)) (QU q wT).fill;rw[ja (by rw[BL p o];omega)]at g;obtain⟨z,A⟩:=CK h wT (t:=p) o q;unfold Go.V.adv1;rw[e];exact(H.put h (i:=2) (by omega) (aB g) u (by omega) (by omega) (by omega) (by omega)).put1 h z A
def IK (c:Cx)(t:Int)(x:Zd):Nat->Zd
 |0=>x
 |i+1=>ya c (t+(i:Int)) (IK c t x i)
theorem Has.advW (H:Has c W st ax at')(p:Int): ∀i,Has c (Go.V.advW c W p i) (IK c p st i) ax at'
 |0=>H
 |i+1=>(Has.advW H p i).adv1 h wT _
theorem E5 {t:Int}{x:Zd}(e:x.length=c.X.length)(g:ck x): ∀i,(IK c t x i).length=c.X.length/\ck (IK c t x i)
 |0=>⟨e,g⟩
 |i+1=>CK h wT (E5 e g i).1 (E5 e g i).2
theorem Has.rev (H:Has c W st ax at')(p:Int):Has c (YL c W p) st ((ve c p st ax).take c.X.length) (BJ c.X.length at' (ve c p st ax)):=by
 obtain⟨e,o,q,g,u,z⟩:=H.lens h wT;unfold YL;have:=(H.taped h wT p).turn h wT (p:=p) e g;rw[H.stepR h]at this⊢;exact this
theorem Has.both (H:Has c W st ax at')(p:Int):Has c (Pk c W p) st ((ve c p st ((zO c (ya c p st)).take c.X.length)).take c.X.length) (BJ c.X.length (BJ c.X.length at' (zO c (ya c p st))) (ve c p st ((zO c (ya c p st)).take c.X.length))):=by
 obtain⟨e,D,E,g,F,I⟩:=H.lens h wT;obtain⟨z,A,B,C,o⟩:=B1 h wT (t:=p) e g;obtain⟨q,u⟩:=CK h wT (t:=p) e g;unfold Pk;have H2:=H.taped h wT p;rw[H.stepR h]at H2⊢;rw[o];exact(H2.endd h wT q u).turn h wT (p:=p) e g
end
end
section
open Nat renaming le_refl -> aB
def ch :Nat->Nat->Nat
 |_,0=>1
 |0,_+1=>0
 |n+1,k+1=>ch n k+ch n (k+1)
theorem QX (n:Nat):ch n 0=1:=by cases n<;>rfl
theorem LW (n k:Nat):ch (n+1) (k+1)=ch n k+ch n (k+1):=rfl
theorem QY : ∀n k,ch (n+1) (k+1)*(k+1)=ch n k*(n+1)
 |0,0=>rfl
 |0,k+1=>by rw[LW];simp[ch]
 |n+1,0=>by
  have h:=QY n 0;rw[QX]at h;rw[LW (n+1) 0,QX];omega
 |n+1,k+1=>by
  have e:=QY n k;have g:=QY n (k+1);rw[LW (n+1) (k+1),Nat.add_mul,g,show k+1+1=(k+1)+1 from rfl,Nat.mul_add (ch (n+1) (k+1)),e,Nat.mul_one,LW n k,Nat.mul_add (ch n k+ch n (k+1)) (n+1) 1,Nat.add_mul];omega
theorem U2 : ∀{n k:Nat},k<=n->1<=ch n k
 |n,0,_=>by rw[QX];exact aB _
 |n+1,k+1,h=>by rw[LW];have:=U2 (n:=n) (k:=k) (by omega);omega
theorem QZ : ∀{n k:Nat},n<k->ch n k=0
 |0,k+1,_=>rfl
 |n+1,k+1,h=>by rw[LW,QZ (by omega),QZ (by omega)]
theorem Ww (n:Nat):ch n n=1:=by
 induction n with
 |zero=>rfl
 |succ n e=>rw[LW,e,QZ (by omega)]
theorem Jf : ∀s a b,a+b=s->ch s a=ch s b
 |0,a,b,h=>by rw[show a=0 by omega,show b=0 by omega]
 |s+1,0,b,h=>by rw[show b=s+1 by omega,QX,Ww]
 |s+1,a+1,0,h=>by rw[show a=s by omega,QX,Ww]
 |s+1,a+1,b+1,h=>by
  rw[LW,LW,Jf s a (b+1) (by omega),Jf s (a+1) b (by omega)];omega
theorem aV8 (d i:Nat):ch (d+i) i<=ch (d+(i+1)) (i+1):=by
 rw[show d+(i+1)=(d+i)+1 by omega,LW];omega
theorem ac9 (d:Nat)(h:i<=j):ch (d+i) i<=ch (d+j) j:=by
 induction j with
 |zero=>rw[show i=0 by omega];exact aB _
 |succ j e=>
  by_cases hi:i=j+1
  .rw[hi];exact aB _
  .exact Nat.le_trans (e (by omega)) (aV8 d j)
theorem Mf {s:Nat}(e:1<=s): ∀l,l+1<=ch (s+l) l
 |0=>by rw[QX];exact aB _
 |l+1=>by
  rw[show s+(l+1)=(s+l)+1 by omega,LW];have:=Mf e l;have:=U2 (n:=s+l) (k:=l+1) (by omega);omega
def AO :Nat:=1099511627776
def XV (n k:Int):Int:=if n<0∨k<0∨n<k then 0 else((min AO (ch n.toNat k.toNat):Nat):Int)
theorem au5 (hi:1<=i):ch (d+(i-1)) (i-1)*(d+i) / i=ch (d+i) i:=by
 have:=QY (d+(i-1)) (i-1);rw[show i-1+1=i by omega,show d+(i-1)+1=d+i by omega]at this;rw[<-this];exact Nat.mul_div_cancel _ (by omega)
structure IsRep (l s r:Nat):Prop where
 up:l<=ch (s+r) r
 low: ∀x,x<r->ch (s+x) x<l
theorem IsRep.eq {s r e:Nat}(h:IsRep l s r)(g:IsRep l s e):r=e:=by
 rcases Nat.lt_trichotomy r e with k|k|k
 .have:=g.low _ k;have:=h.up;omega
 .exact k
 .have:=h.low _ k;have:=g.up;omega
theorem IsRep.le {s r:Nat}(h:IsRep l s r)(e:1<=s):r<=l:=by
 rcases Nat.lt_or_ge l r with k|k
 .have:=h.low _ k;have:=Mf e l;omega
 .exact k
theorem aP8 {s r:Nat}(h:l<=ch (s+r) r)(h':r=0∨ch (s+(r-1)) (r-1)<l):IsRep l s r:=
 ⟨h,λx e=>by
  rcases h' with h'|h'
  .omega
  .exact Nat.lt_of_le_of_lt (ac9 s (show x<=r-1 by omega)) h'⟩
def spI (n c r:Int):Int:=max 1 (max (XV (c+r-2) c) (n-XV (c+r-1) (c-1)))
theorem QW {n:Nat}(h:k<=n):XV (n:Int) (k:Int)=((min AO (ch n k):Nat):Int):=by
 unfold XV;rw[Zh];rfl
theorem aL4 (n k:Int):0<=XV n k/\XV n k<=1099511627776:=by
 unfold XV AO;split<;>omega
theorem aQ6 {n r:Nat}(D:2<=n)(C:1<=c)(p:IsRep n c r)(B:n<=65536):1<=spI n c r/\spI n c r<=n-1/\(c=1->spI n c r=n-1):=by
 have r1:1<=r:=by
  rcases Nat.eq_zero_or_pos r with h|h
  .have:=p.up;rw[h,QX]at this;omega
  .exact h
 have o:=p.low (r-1) (by omega)
 have a1:XV ((c:Int)+r-2) c<=(n:Int)-1:=by
  unfold XV;split
  .omega
  .rename_i h;rw[show((c:Int)+r-2).toNat=c+r-2 by omega,Int.toNat_natCast];have z:ch (c+(r-1)) (r-1)=ch (c+(r-1)) c:=Jf _ _ _ (by omega)
   have A:ch (c+r-2) c<=ch (c+(r-1)) c:=by
    obtain⟨e,rfl⟩: ∃e,c=e+1:=⟨c-1,by omega⟩
    rw[show e+1+(r-1)=(e+1+r-2)+1 by omega,LW];omega
   omega
 have u:1<=XV ((c:Int)+r-1) (c-1):=by
  rw[show(c:Int)+r-1=((c+r-1:Nat):Int)by omega,show(c:Int)-1=((c-1:Nat):Int)by omega,QW (by omega)];have:=U2 (n:=c+r-1) (k:=c-1) (by omega);unfold AO;omega
 unfold spI;refine⟨by omega,by omega,λg=> ?_⟩;subst g
 have q:XV (((1:Nat):Int)+r-1) (((1:Nat):Int)-1)=1:=by
  rw[show(((1:Nat):Int))+r-1=((r:Nat):Int)by omega,show(((1:Nat):Int))-1=((0:Nat):Int)by omega,QW (by omega),QX];rfl
 rw[q];omega
end
section
open List renaming getElem_mem -> aB
structure Mc where
 L:Int
 p:Int
 q:Int
 t:Zd
def LY (a:Int×Int)(m:Mc):Option Mc:=
 if a.1=1 then(if 1<=a.2/\a.2<=65535/\m.p+a.2<=m.L then O {m with p:=m.p+a.2}else Y)
 else if a.1=2 then(if 0<=a.2/\a.2<m.t.length/\m.t.getD a.2.toNat 0<0 then O {m with t:=m.t.set a.2.toNat m.p}else Y)
 else if a.1=3 then(if 0<=a.2/\a.2<m.t.length/\0<=m.t.getD a.2.toNat 0 then O {m with p:=m.t.getD a.2.toNat 0}else Y)
 else if a.1=4 then(if 0<=a.2/\a.2<m.t.length/\0<=m.t.getD a.2.toNat 0 then O {m with t:=m.t.set a.2.toNat (-1)}else Y)
 else if a.1=5 then(if a.2=0/\m.q= -1/\m.p=m.L then O {m with q:=m.p}else Y)
 else if a.1=6 then(if a.2=0/\m.q= -1/\m.p=m.L-1 then O {m with q:=m.p}else Y)
 else if a.1=7 then(if a.2=0/\0<m.q/\m.p=m.q-1 then O {m with q:=m.p}else Y)
 else Y
inductive Run (nx:Mc->Option (Int×Int)):Mc->List (Int×Int)->Mc->Prop
 |nil (m:Mc):Run nx m [] m
 |cons {m m' m'':Mc} {a:Int×Int} {l:List (Int×Int)}:nx m=O a->LY a m=O m'->Run nx m' l m''->Run nx m (a::l) m''
theorem Run.append {g:Mc->Option (Int×Int)}{m m' e:Mc}{l l':List (Int×Int)}(h:Run g m l m')(o:Run g m' l' e):Run g m (l++l') e:=by
 induction h with
 |nil=>exact o
 |cons a b _ p=>exact .cons a b (p o)
theorem Run.one {e:Mc->Option (Int×Int)}{m m':Mc}{a:Int×Int}(g:e m=O a)(o:LY a m=O m'):Run e m [a] m':= .cons g o (.nil _)
def rS (t:Zd):Int:=t.foldl max (-1)
def CJ (t:Zd)(x:Int):Nat:=t.findIdx λy=>Zc (y=x)
def Fs (t:Zd):Nat:=t.countP λy=>Zc (y<0)
def OD (t:Zd):Nat:=t.findIdx λy=>Zc (y<0)
def JJ (l s:Nat):Nat:=((List.range (l+1)).find? λr=>Zc (l<=ch (s+r) r)).getD 0
theorem Xd (l:Nat){s:Nat}(o:1<=s):IsRep l s (JJ l s):=by
 unfold JJ;cases h:(List.range (l+1)).find? λr=>Zc (l<=ch (s+r) r)with
 |none=>
  have:=List.find?_eq_none.1 h l (List.mem_range.2 (by omega));have:=Mf o l;simp only[decide_eq_true_eq]at*;omega
 |some r=>
  obtain⟨e,g⟩:=List.find?_range_eq_some.1 h;refine⟨of_decide_eq_true e,λx p=> ?_⟩;have:=g.2 x p;simp only[Bool.not_eq_true',decide_eq_false_iff_not]at this;omega
def DO (m:Mc):Option (Int×Int):=
 let e:=if m.q<0 then m.L else m.q
 if 0<=m.q/\e<=rS m.t then O (4,CJ m.t (rS m.t))
 else if m.q=0 then Y
 else if m.q<0/\m.p=m.L then O (5,0)
 else if m.p=e-1 then(if 0<=m.q then O (7,0)else O (6,0))
 else if rS m.t<0 then(if e<=m.p then Y else O (2,0))
 else if m.p<rS m.t∨e<=m.p then O (3,CJ m.t (rS m.t))
 else if rS m.t<m.p/\0<Fs m.t then O (2,OD m.t)
 else if rS m.t<m.p then O (1,e-1-m.p)
 else O (1,spI (e-rS m.t) (Fs m.t+1) (JJ (e-rS m.t).toNat (Fs m.t+1)))
theorem yp (t:Zd): ∀x,x<=t.foldl max x/\(∀y∈t,y<=t.foldl max x)/\(t.foldl max x=x∨t.foldl max x∈t):=by
 induction t with
 |nil=>exact λx=>⟨Int.le_refl _,λy hy=>by(cases hy), .inl rfl⟩
 |cons z t g=>
  intro x;obtain⟨o,e,h3⟩:=g (max x z);rw[List.foldl_cons];refine⟨by omega,λy hy=> ?_, ?_⟩
  .rcases List.mem_cons.1 hy with rfl|hy
   .omega
   .exact e y hy
  .rcases h3 with h3|h3
   .rw[h3];rcases Int.le_total x z with k|k
    .exact .inr (by rw[Int.max_eq_right k];exact List.mem_cons_self ..)
    .exact .inl (Int.max_eq_left k)
   .exact .inr (List.mem_cons_of_mem _ h3)
theorem KY (o: -1<=x)(e: ∀y∈t,y<=x)(g:x= -1∨x∈t):rS t=x:=by
 obtain⟨a,b,c⟩:=yp t (-1);unfold rS
 have u:t.foldl max (-1)<=x:=by
  rcases c with c|c
  .omega
  .exact e _ c
 have v:x<=t.foldl max (-1):=by
  rcases g with h|h
  .omega
  .exact b _ h
 omega
theorem aR4 (g:0<=x)(e: ∀y∈t,y<x):rS t<x:=by
 obtain⟨a,b,c⟩:=yp t (-1);unfold rS;rcases c with c|c
 .omega
 .exact e _ c
theorem Ju (h:y∈t.set k a):y∈t∨y=a:=List.mem_or_eq_of_mem_set h
theorem aF5 (o:0<=a)(e:k<t.length)(h: ∀y∈t,y<a):rS (t.set k a)=a:=
 KY (by omega) (λy g=>by rcases Ju g with k|k;exact Int.le_of_lt (h y k);omega) (.inr (List.mem_set e a))
theorem aE6 (e:k<t.length)(h: ∀y∈t,y<a):CJ (t.set k a) a=k:=by
 unfold CJ;rw[List.findIdx_eq (by rw[List.length_set];exact e)];refine⟨by simp,λj g=> ?_⟩;have:=h t[j] (aB _);rw[List.getElem_set_ne (by omega)];exact zA (by omega)
theorem aq8 (h:0<Fs t): ∃e:OD t<t.length,t[OD t]<0:=by
 unfold Fs at h;obtain⟨y,o,g⟩:=List.countP_pos_iff.1 h;have e:OD t<t.length:=List.findIdx_lt_length_of_exists ⟨y,o,g⟩;refine⟨e,of_decide_eq_true (List.findIdx_getElem (w:=e))⟩
theorem aw9 (g:0<=a)(e:k<t.length)(h:t[k]<0):Fs (t.set k a)+1=Fs t:=by
 unfold Fs;rw[List.countP_set e,zB h,zA (show¬a<0 by omega)];have:0<t.countP λy=>Zc (y<0):=List.countP_pos_iff.2 ⟨_,aB e,zB h⟩
 simp only[if_true,Bool.false_eq_true,if_false];omega
end
variable {m':Mc}
section
open Int renaming reduceEq -> aB, toNat_natCast -> aD
open List renaming length_set -> bB, getD_eq_getElem?_getD -> bD, getElem_mem -> cB
def spF (n c:Nat):Nat:=(spI n c (JJ n c)).toNat
theorem ao7 {n:Nat}(p:2<=n)(e:1<=c)(o:n<=65536):1<=spF n c/\spF n c+1<=n/\(c=1->spF n c+1=n)/\((spF n c:Nat):Int)=spI n c (JJ n c):=by
 obtain⟨q,u,g⟩:=aQ6 p e (Xd n e) o;unfold spF;exact⟨by omega,by omega,λh=>by have:=g h;omega,by omega⟩
def hld (t:Zd):List Bool:=t.map λy=>Zc (0<=y)
def pt :Nat->Bool->Nat->Nat->Nat->List Bool->Bool->List (Int×Int)
 |0,_,_,_,_,_,_=>[]
 |f+1,Zb,n,c,_,h,e=>if n=1 then [(if e then 6 else 7,0)]else(2,((h.findIdx λb=> !b:Nat):Int))::pt f Za n c (h.findIdx λb=> !b) (h.set (h.findIdx λb=> !b) Za) e
 |f+1,Za,n,c,k,h,e=>if n<=1 then [(7,0),(4,(k:Int))]else(1,(spF n c:Int))::(pt f Zb (n-spF n c) (c-1) 0 h e++(3,(k:Int))::pt f Za (spF n c) c k h Zb)
theorem ay0 (t:Zd):((hld t).findIdx λb=> !b)=OD t:=by
 unfold hld OD;rw[List.findIdx_map]
 congr 1
 funext y
 show(!Zc (0<=y))=Zc (y<0);by_cases h:0<=y
 .rw[zB h,Ze];rfl
 .rw[zA h,Zf];rfl
theorem ax9 (t:Zd)(k:Nat)(e:0<=a):hld (t.set k a)=(hld t).set k Za:=by
 unfold hld;rw[List.map_set,zB e]
theorem Ta (e:k<t.length):(t.set k a).getD k 0=a:=by
 rw[bD,List.getElem?_set_self e];rfl
structure At30 (L q a:Int)(n:Nat)(last:Bool):Prop where
 fa:0<=a
 fn:1<=n/\n<=65535
 fe:(if q<0 then L else q)=a+n
 fl:last=Za->q= -1
 fm:last=Zb->0<=q
 fL:a+n<=L
theorem an6 : ∀(f:Nat),(∀(n c k:Nat) (t:Zd) (e:Bool) (L q a:Int),2*n<=f->At30 L q a n e->(∀y∈t,y<a)->(∀y∈t,-1<=y)->Fs t=c->(2<=n->1<=c)->Run DO ⟨L,a,q,t⟩ (pt f Zb n c k (hld t) e) ⟨L,a,a,t⟩)/\
  (∀(n c k:Nat) (t:Zd) (e:Bool) (L q a:Int),2*n<=f+1->At30 L q a n e->(n=1->e=Zb)->(∀y∈t,y<a)->(∀y∈t,-1<=y)->(z:k<t.length)->t[k]<0->Fs t=c->Run DO ⟨L,a,q,t.set k a⟩ (pt f Za n c k (hld (t.set k a)) e) ⟨L,a,a,t⟩)
 |0=>⟨λn c k t e L q a A M=>by have:=M.fn;omega,λn c k t e L q a A M=>by have:=M.fn;omega⟩
 |f+1=>by
  obtain⟨ihp,J⟩:=an6 f;refine⟨λn c k t e L q a hf N o u Q S=> ?_,λn c k t e L q a hf N V o u z H Q=> ?_⟩
  .obtain⟨C,hn,p,K,F,hL⟩:=N;have g:=aR4 (t:=t) C o;unfold pt;by_cases A:n=1
   .rw[zE A];cases e with
    |true=>
     have hq:=K rfl;rw[Zg]at p;rw[zE rfl];refine .one (m':=⟨L,a,a,t⟩) ?_ ?_
     .unfold DO;simp only;rw[zE (show q<0 by omega),Zh,Zh,Zh,Zg,Zh]
     .unfold LY;simp only[aB,true_and,if_true,if_false];rw[Zg]
    |false=>
     have hq:=F rfl;rw[Zh]at p;rw[zF (by decide)];refine .one (m':=⟨L,a,a,t⟩) ?_ ?_
     .unfold DO;simp only;rw[zF (show¬q<0 by omega),Zh,Zh,Zh,Zg,Zg]
     .unfold LY;simp only[aB,true_and,if_true,if_false];rw[Zg]
   .rw[zF A,ay0,<-ax9 t _ C];have E:0<Fs t:=by have:=S (by omega);omega
    obtain⟨hv,I⟩:=aq8 E;refine .cons (m':=⟨L,a,q,t.set (OD t) a⟩) ?_ ?_ (J n c (OD t) t e L q a (by omega) ⟨C,hn,p,K,F,hL⟩ (λh=>absurd h A) o u hv I Q)
    .unfold DO;simp only;rw[p,Zh,zF (by split at p<;>omega),zF (by split at p<;>omega),Zh];by_cases ht:rS t<0
     .rw[zE ht,Zh]
      have:OD t=0:=by
       unfold OD;rw[List.findIdx_eq (by omega)];refine⟨zB ?_,λj hj=>by omega⟩;have:=(yp t (-1)).2.1 _ (cB (show 0<t.length by omega));unfold rS at ht;omega
      rw[this];rfl
     .rw[zF ht,Zh,zE ⟨by omega,E⟩]
    .unfold LY;simp only[aB,true_and,if_false,if_true,aD];rw[bD,List.getElem?_eq_getElem hv,zE ⟨by omega,by omega,I⟩]
  .obtain⟨C,hn,p,K,F,hL⟩:=N;have g:=aF5 C z o;have B:=aE6 z o;have hfre:=aw9 C z H;have hsl:k<(t.set k a).length:=by rw[bB];exact z
   have D:(t.set k a).set k (-1)=t:=by
    have Z:t[k]= -1:=by have:=u _ (cB z);omega
    rw[List.set_set,<-Z,List.set_getElem_self]
   unfold pt;by_cases A:n<=1
   .have hn1:n=1:=by omega
    have hq:=F (V hn1);rw[Zh]at p;rw[zE A];refine .cons (m':=⟨L,a,a,t.set k a⟩) ?_ ?_ (.one (m':=⟨L,a,a,t⟩) ?_ ?_)
    .unfold DO;simp only[g];rw[zF (show¬q<0 by omega),Zh,Zh,Zh,Zg,Zg]
    .unfold LY;simp only[aB,true_and,if_false,if_true];rw[Zg]
    .unfold DO;simp only[g,B];rw[zF (show¬a<0 by omega),Zg]
    .unfold LY;simp only[aB,true_and,if_false,if_true,aD,Ta z,D];rw[zE (by rw[bB];omega)]
   .rw[zF A];obtain⟨m1,m2,m3,m4⟩:=ao7 (n:=n) (c:=c) (by omega) (by omega) (by omega);generalize hm':spF n c=m at*;refine .cons (m':=⟨L,a+m,q,t.set k a⟩) ?_ ?_ (.append (m':=⟨L,a+m,a+m,t.set k a⟩) (ihp (n-m) (c-1) 0 (t.set k a) e L q (a+m) (by omega) ⟨by omega,by omega,by omega,K,F,by omega⟩ (λy hy=>(Ju hy).elim (λh=>by have:=o y h;omega) λh=>by omega) (λy hy=>(Ju hy).elim (λh=>u y h) λh=>by omega) (by omega) (λh=> ?_)) (.cons (m':=⟨L,a,a+m,t.set k a⟩) ?_ ?_ (J m c k t Zb L (a+m) a (by omega) ⟨C,by omega,by rw[Zh],(λh=>by cases h),λ_=>by omega,by omega⟩ (λ_=>rfl) o u z H Q)))
    .unfold DO;simp only[g];rw[p,Zh,zF (by split at p<;>omega),zF (by split at p<;>omega),Zh,Zh,Zh,Zh,Zh];rw[show a+(n:Int)-a=(n:Int)by omega,aD,show((Fs (t.set k a):Nat):Int)+1=(c:Int)by omega,show Fs (t.set k a)+1=c by omega,m4]
    .unfold LY;simp only[aB,true_and,if_true];rw[Zg]
    .by_cases U:c=1
     .have:=m3 U;omega
     .omega
    .unfold DO;simp only[g,B];rw[zF (show¬a+(m:Int)<0 by omega),Zh,Zh,Zh,Zh,Zh,Zg]
    .unfold LY;simp only[aB,true_and,if_false,if_true,aD,Ta z];rw[zE (by rw[bB];omega)]
end
section
open Int renaming toNat_natCast -> bD
open List renaming getElem?_eq_getElem -> aB, getElem?_eq_none -> cB, map_congr_left -> cD
open Nat renaming mul_div_cancel -> aD, pow_succ -> bB, mul_le_mul_left -> dB, one_lt_two_pow -> dD, pow_le_pow_right -> eD
structure IsStr (k s d:Nat):Prop where
 pw: ∃e,d=2 ^ e
 gt:k<s*d
 lo:d=1∨s*(d / 2)<=k
theorem IsStr.pos {s:Nat}(h:IsStr k s d):1<=d:=by
 obtain⟨e,rfl⟩:=h.pw;exact Nat.one_le_two_pow
theorem IsStr.eq {s:Nat}(h:IsStr k s d)(o:IsStr k s d'):d=d':=by
 have p: ∀{d d':Nat},IsStr k s d->IsStr k s d'->¬d<d':=λ{d d'} h o q=>by
  obtain⟨e,rfl⟩:=h.pw;obtain⟨g,rfl⟩:=o.pw;have D:e<g:=(Nat.pow_lt_pow_iff_right (by omega)).1 q;have u:2 ^ e<=2 ^ (g-1):=eD (by omega) (by omega)
  have z:2 ^ g / 2=2 ^ (g-1):=by
   conv=>lhs;rw[show g=(g-1)+1 by omega,bB]
   exact aD _ (by omega)
  have A:=h.gt;have B:s*2 ^ e<=s*2 ^ (g-1):=dB _ u;have C:1<2 ^ g:=dD (by omega);rcases o.lo with h6|h6
  .omega
  .rw[z]at h6;omega
 have:=p h o;have:=p o h;omega
def zT (k s:Nat):Nat:=2 ^ (((List.range 17).find? λe=>Zc (k<s*2 ^ e)).getD 0)
theorem yU {s:Nat}(u:k<65536)(z:1<=s):IsStr k s (zT k s):=by
 unfold zT;cases h:(List.range 17).find? λe=>Zc (k<s*2 ^ e)with
 |none=>
  have:=List.find?_eq_none.1 h 16 (List.mem_range.2 (by omega));simp only[decide_eq_true_eq]at this;omega
 |some e=>
  obtain⟨g,o⟩:=List.find?_range_eq_some.1 h;have g:=of_decide_eq_true g;refine⟨⟨e,rfl⟩,g, ?_⟩;rcases Nat.eq_zero_or_pos e with he|he
  .left;subst he;rfl
  .right;have p:=o.2 (e-1) (by omega);simp only[Bool.not_eq_true',decide_eq_false_iff_not]at p;show s*(2 ^ e / 2)<=k
   have q:2 ^ e / 2=2 ^ (e-1):=by
    conv=>lhs;rw[show e=(e-1)+1 by omega,bB]
    exact aD _ (by omega)
   rw[q];omega
theorem IsStr.next {s:Nat}(h:IsStr k s d)(o:IsStr (k+1) s d'):d ∣ d':=by
 obtain⟨e,rfl⟩:=h.pw;obtain⟨g,rfl⟩:=o.pw;refine Nat.pow_dvd_pow 2 ?_;rcases Nat.lt_or_ge g e with u|hge
 .exfalso;have p:2 ^ g<=2 ^ (e-1):=eD (by omega) (by omega)
  have q:2 ^ e / 2=2 ^ (e-1):=by
   conv=>lhs;rw[show e=(e-1)+1 by omega,bB]
   exact aD _ (by omega)
  have A:1<2 ^ e:=dD (by omega);have z:s*2 ^ g<=s*2 ^ (e-1):=dB _ p;have B:=o.gt;rcases h.lo with h7|h7
  .omega
  .rw[q]at h7;omega
 .exact hge
def aA7 (d:Nat)(t:Zd):Zd:=t.filter λx=>Zc (0<=x/\x % (d:Int)≠0)
def Vz (d:Nat)(t:Zd):Option Int:=(aA7 d t).min?
def uP (e:Bool)(m:Mc):Option (Int×Int):=
 let d:=zT m.L.toNat m.t.length
 if m.q<0 then
  (if m.p<m.L then O (1,m.L-m.p)
  else match Vz d m.t with
   |some x=>O (4,CJ m.t x)
   |none=>if m.L % (d:Int)=0/\m.L∉m.t/\(-1:Int)∈m.t then O (2,CJ m.t (-1))else if e then O (5,0)else Y)
 else if 0<=rS m.t/\m.q<=rS m.t then O (4,CJ m.t (rS m.t))
 else if m.q=0 then Y
 else if m.p=m.q-1 then O (7,0)
 else if 0<=rS m.t/\(m.p<rS m.t∨m.q<=m.p)then O (3,CJ m.t (rS m.t))
 else if m.p<m.q then O (1,m.q-1-m.p)
 else Y
structure Gd (k:Nat)(t:Zd)(d:Nat):Prop where
 ins: ∀x∈t,x= -1∨(0<=x/\x<k/\x % (d:Int)=0)
 all: ∀j:Nat,j<k->j % d=0->(j:Int)∈t
 one: ∀i j (hi:i<t.length) (hj:j<t.length),t[i]=t[j]->0<=t[i]->i=j
theorem GU (h:x∈t): ∃e:CJ t x<t.length,t[CJ t x]=x:=by
 have e:CJ t x<t.length:=List.findIdx_lt_length_of_exists ⟨x,h,zB rfl⟩;exact⟨e,of_decide_eq_true (List.findIdx_getElem (w:=e))⟩
def frd (d n:Nat)(t:Zd):Zd:=t.map λx=>if 0<=x/\x<(n:Int)/\x % (d:Int)≠0 then-1 else x
def SY (d:Nat):Nat->Zd->List (Int×Int)×Zd
 |0,t=>([],t)
 |n+1,t=>if n % d≠0/\(n:Int)∈(SY d n t).2 then((SY d n t).1++[(4,(CJ (SY d n t).2 n:Int))],(SY d n t).2.set (CJ (SY d n t).2 n) (-1))else SY d n t
theorem aX1 (t:Zd):frd d 0 t=t:=by
 unfold frd
 conv=>rhs;rw[<-List.map_id t]
 refine cD λx e=> ?_
 rw[Zh];rfl
theorem Jk {n:Nat}(hi:i<t.length):(frd d n t)[i]?=O (if 0<=t[i]/\t[i]<(n:Int)/\t[i] % (d:Int)≠0 then-1 else t[i]):=by
 unfold frd;rw[List.getElem?_map,aB hi];rfl
theorem vu {n:Nat}:(frd d n t).length=t.length:=by unfold frd;rw[List.length_map]
theorem WD {n:Nat}(o:0<=x):x∈frd d n t↔x∈t/\¬(x<(n:Int)/\x % (d:Int)≠0):=by
 unfold frd;rw[List.mem_map];constructor
 .rintro⟨y,g,e⟩;by_cases h:0<=y/\y<(n:Int)/\y % (d:Int)≠0
  .rw[zE h]at e;omega
  .rw[zF h]at e;subst e;exact⟨g,by omega⟩
 .rintro⟨g,h⟩;exact⟨x,g,zF (by omega)⟩
theorem SZ {n:Nat}(z: ∀i j (hi:i<t.length) (C:j<t.length),t[i]=t[j]->0<=t[i]->i=j)(D:n % d≠0)(A:(n:Int)∈frd d n t):(frd d n t).set (CJ (frd d n t) n) (-1)=frd d (n+1) t:=by
 obtain⟨p,e⟩:=GU A;generalize CJ (frd d n t) n=k at*;have u:k<t.length:=by rw[vu]at p;exact p
 have o:=Jk (d:=d) (n:=n) u;rw[aB p,e]at o;injection o with o
 have q:t[k]=(n:Int):=by
  by_cases h:0<=t[k]/\t[k]<(n:Int)/\t[k] % (d:Int)≠0
  .rw[zE h]at o;omega
  .rw[zF h]at o;exact o.symm
 apply List.ext_getElem?;intro i;by_cases hi:i<t.length
 .rw[Jk hi,List.getElem?_set];by_cases g:k=i
  .subst g;rw[zE rfl,zE p,q,zE ⟨by omega,by omega,by omega⟩]
  .rw[zF g,Jk hi];have B:t[i]≠(n:Int):=λh=>g (z k i u hi (by rw[q,h]) (by omega))
   by_cases h:0<=t[i]/\t[i]<(n:Int)/\t[i] % (d:Int)≠0
   .rw[zE h,Zg]
   .rw[zF h,Zh]
 .rw[cB (by rw[List.length_set,vu];omega),cB (by rw[vu];omega)]
theorem ae5 {n:Nat}(h: ¬(n % d≠0/\(n:Int)∈frd d n t)):frd d n t=frd d (n+1) t:=by
 unfold frd at*;refine cD λx o=> ?_
 by_cases g:0<=x/\x<(n:Int)/\x % (d:Int)≠0
 .rw[zE g,Zg]
 .rw[zF g,zF];intro p;have e:x=(n:Int):=by omega
  subst e;refine h ⟨by omega, ?_⟩;exact List.mem_map.2 ⟨_,o,zF g⟩
theorem Tv :x∈aA7 d t↔x∈t/\0<=x/\x % (d:Int)≠0:=by
 unfold aA7;rw[List.mem_filter,decide_eq_true_eq]
theorem Tu (h:x∈t)(e:0<=x/\x % (d:Int)≠0)(g: ∀y∈t,0<=y->y % (d:Int)≠0->x<=y):Vz d t=O x:=by
 unfold Vz;rw[List.min?_eq_some_iff];exact⟨Tv.2 ⟨h,e⟩,λy o=>by have:=Tv.1 o;exact g y this.1 this.2.1 this.2.2⟩
theorem NQ (h: ∀y∈t,0<=y->y % (d:Int)=0):Vz d t=Y:=by
 unfold Vz
 have:aA7 d t=[]:=List.filter_eq_nil_iff.2 λx e=>by
  have:=h x e;simp only[decide_eq_true_eq];omega
 rw[this];rfl
theorem an5 {k d s:Nat}{t:Zd}{en:Bool}(u:d=zT k s)(z:t.length=s)(p: ∀i j (hi:i<t.length) (D:j<t.length),t[i]=t[j]->0<=t[i]->i=j): ∀n,(SY d n t).2=frd d n t/\Run (uP en) ⟨k,k,-1,t⟩ (SY d n t).1 ⟨k,k,-1,frd d n t⟩
 |0=>by rw[aX1];exact⟨rfl, .nil _⟩
 |n+1=>by
  obtain⟨g,o⟩:=an5 (en:=en) u z p n;unfold SY;rw[g];by_cases h:n % d≠0/\(n:Int)∈frd d n t
  .rw[zE h,SZ p h.1 h.2];refine⟨rfl,o.append (.one ?_ ?_)⟩
   .unfold uP;simp only;rw[Zg,Zh,vu,z,bD,<-u,Tu h.2 (by omega) λy B A C=>by have:=(WD A).1 B;omega]
   .obtain⟨q,e⟩:=GU h.2;unfold LY;simp only[Int.reduceEq,if_false,if_true,bD];rw[List.getD_eq_getElem?_getD,aB q,e];simp only[Option.getD_some];rw[Zg,SZ p h.1 h.2]
  .rw[zF h,<-ae5 h];exact⟨g,o⟩
theorem NP : ∀(N:Nat) (l:List Nat),l.Nodup->(∀x∈l,x<N)->l.length<=N
 |0,l,_,h=>by
  cases l with
  |nil=>exact Nat.le_refl _
  |cons x r=>have:=h x (List.mem_cons_self ..);omega
 |N+1,l,o,h=>by
  by_cases p:N∈l
  .have:=NP N (l.erase N) (o.erase N) λx g=>by
    have q:=h x (List.mem_of_mem_erase g);have u:x≠N:=λe=>by subst e;exact(List.Nodup.not_mem_erase o) g
    omega
   rw[List.length_erase_of_mem p]at this;omega
  .have:=NP N l o λx g=>by
    have q:=h x g;have u:x≠N:=λe=>p (e▸g)
    omega
   omega
end
section
open Go.IntKind renaming wrap -> zH, i64 -> zI, u64 -> zJ
open Int renaming natCast_add -> aB, eq_ofNat_of_zero_le -> cB
open IntKind renaming bits -> cD
open Nat renaming min_eq_left -> aD, mul_le_mul -> bB, min_eq_right -> bD, add_sub_cancel -> dB
theorem wUn {n:Nat}(h:n<18446744073709551616):zH zJ (n:Int)=(n:Int):=io (by omega)
theorem ba0 {n:Nat}(h:n<=9223372036854775807):zH zI (n:Int)=(n:Int):=ae (by omega)
theorem Ke {a:Nat}(p:a<18446744073709551616):Aj .u64 (· &&& ·) (a:Int) 4294967295=((a % 4294967296:Nat):Int):=by
 have e:BitVec.ofInt 64 (a:Int)&&& BitVec.ofInt 64 4294967295=BitVec.ofNat 64 (a % 4294967296):=by
  apply BitVec.eq_of_toNat_eq;rw[BitVec.toNat_and,BitVec.toNat_ofInt,BitVec.toNat_ofInt,BitVec.toNat_ofNat];have g:((a:Int) % ((2 ^ 64:Nat):Int)).toNat=a:=by omega
  have o:((4294967295:Int) % ((2 ^ 64:Nat):Int)).toNat=2 ^ 32-1:=by decide
  rw[g,o,Nat.and_two_pow_sub_one_eq_mod];omega
 unfold Aj;show zH zJ ((BitVec.ofInt 64 (a:Int)&&& BitVec.ofInt 64 4294967295).toNat:Int)=_;rw[e,BitVec.toNat_ofNat,Zj];omega
theorem SU (a:Nat):Int.fdiv (a:Int) (2 ^ (min (Int.toNat 32) (cD .u64)))=((a / 4294967296:Nat):Int):=by
 rw[show(2:Int) ^ (min (Int.toNat 32) (cD .u64))=4294967296 from rfl,Int.fdiv_eq_ediv_of_nonneg _ (by omega)];rfl
theorem aY3 {a:Nat}(o:a<=1099511627776)(g:b<=4194304):tD (a:Int) (b:Int)=O (0,((a*b:Nat):Int)):=by
 have u:a / 4294967296*b<=256*4194304:=bB (by omega) g;have z:a % 4294967296*b<=4294967295*4194304:=bB (by omega) g;have A:a*b<=1099511627776*4194304:=bB o g;have e: ∀{n:Nat},n<18446744073709551616->IntKind.u64.wrap (n:Int)=(n:Int):=λh=>io (by omega)
 unfold tD;rw[SU a,SU b,Ke (a:=a) (by omega),Ke (a:=b) (by omega),show b / 4294967296=0 by omega,show b % 4294967296=b by omega];simp only[<-Int.natCast_mul];rw[e (n:=a % 4294967296*b) (by omega),e (n:=a / 4294967296*b) (by omega),e (n:=a / 4294967296*0) (by omega),e (n:=a % 4294967296*0) (by omega),e (n:=a*b) (by omega),SU];simp only[<-aB];generalize a / 4294967296*b=p at*;generalize a % 4294967296*b=q at*;rw[e (n:=p+q / 4294967296) (by omega),SU,Ke (by omega)];simp only[<-aB,Nat.mul_zero,Nat.add_zero,Nat.zero_add];rw[e (n:=(p+q / 4294967296) % 4294967296) (by omega),SU,e (n:=(p+q / 4294967296) / 4294967296) (by omega)];simp only[<-aB];rw[e (by omega),show(p+q / 4294967296) / 4294967296+(p+q / 4294967296) % 4294967296 / 4294967296=0 by omega];rfl
theorem aV9 {a:Nat}(e:a<18446744073709551616)(g:1<=b):tC 0 (a:Int) (b:Int)=O (((a / b:Nat):Int),((a % b:Nat):Int)):=by
 unfold tC;have:=Nat.div_le_self a b;rw[Ze,zD,Ze,zD,zB rfl,zC,Zf,dh,dh,show Int.tdiv (a:Int) (b:Int)=((a / b:Nat):Int)from rfl,show Int.tmod (a:Int) (b:Int)=((a % b:Nat):Int)from rfl,wUn (Nat.lt_of_le_of_lt this e)]
theorem eg {a:Nat}(e:a<=1099511627776)(g:b<=4194304)(hi:1<=i/\i<=4194304):wq (a:Int) (b:Int) (i:Int)=O ((min AO (a*b / i):Nat):Int):=by
 have o:a*b<=1099511627776*4194304:=bB e g;have p:a*b / i<=a*b:=Nat.div_le_self _ _;unfold wq AO;rw[io (n:=(a:Int)) (by omega),io (n:=(b:Int)) (by omega),io (n:=(i:Int)) (by omega),aY3 e g];simp only[zG];rw[Ze,zD,aV9 (by omega) hi.1];simp only[zG];generalize a*b / i=q at*;by_cases h:1099511627776<q
 .rw[Zf,zC,aD (by omega)];rfl
 .rw[Ze,zD,bD (by omega),Zi]
theorem aL5 (hi:1<=i)(e:ch (d+(i-1)) (i-1)<AO):min AO (min AO (ch (d+(i-1)) (i-1))*(d+i) / i)=min AO (ch (d+i) i):=by
 rw[bD (Nat.le_of_lt e),au5 hi]
theorem U5 {n:Nat}(B:2*k<=n)(C:n<=2097152): ∀f:Int×Int->Option ((Int×Int)⊕Int),(∀i c:Nat,1<=i->i<=k->c<AO->c<=AO->f ((i:Int),(c:Int))=O (.inl (((i+1:Nat):Int),((min AO (c*(n-k+i) / i):Nat):Int))))->(∀i c:Nat,(k<i∨AO<=c)->i<=k+1->c<=AO->f ((i:Int),(c:Int))=O (.inr (c:Int)))->aw f gv (1,1)=O ((min AO (ch n k):Nat):Int):=by
 intro f z A;refine WT (λs=> ∃i:Nat,s=((i:Int),((min AO (ch (n-k+(i-1)) (i-1)):Nat):Int))/\1<=i/\i<=k+1) (λs=>k+1-s.1.toNat) ⟨1, ?_,by omega,by omega⟩ (by simp;omega) ?_
 .rw[show 1-1=0 from rfl,QX];rfl
 .rintro s ⟨i,rfl,g,q⟩;by_cases hi:i<=k/\ch (n-k+(i-1)) (i-1)<AO
  .left;refine⟨_,z i _ g hi.1 (by omega) (Nat.min_le_left _ _),⟨i+1, ?_,by omega,by omega⟩,by simp only;omega⟩;rw[aL5 g hi.2];rfl
  .right;rw[A i _ (by omega) q (Nat.min_le_left _ _)]
   congr 2
   have e:n-k+k=n:=by omega
   by_cases o:i=k+1
   .subst o;rw[dB,e]
   .have p:AO<=ch (n-k+(i-1)) (i-1):=by omega
    have u:=ac9 (n-k) (show i-1<=k by omega);rw[e]at u;rw[aD p,aD (by omega)]
theorem au4 (n k:Nat)(e:k<=n):ch n (min k (n-k))=ch n k:=by
 rcases Nat.le_total k (n-k)with h|h
 .rw[aD h]
 .rw[bD h];exact Jf n _ _ (by omega)
theorem Dc {n k:Int}(C:n<=2097152):qG n k=O (XV n k):=by
 unfold qG XV;by_cases g:n<0
 .rw[zB g,zE (.inl g)];rfl
 by_cases p:k<0
 .rw[zA g,zB p,zE (.inr (.inl p))];rfl
 by_cases q:n<k
 .rw[zA g,zA p,zB q,zE (.inr (.inr q))];rfl
 rw[zA g,zA p,zA q,Zh];simp only[zD];obtain⟨n,rfl⟩:=cB (show 0<=n by omega);obtain⟨k,rfl⟩:=cB (show 0<=k by omega)
 have A:min (k:Int) (zH zI ((n:Int)-(k:Int)))=((min k (n-k):Nat):Int):=by
  rw[Zi];omega
 have u:=U5 (n:=n) (k:=min k (n-k)) (by omega) (by omega) (sd (n:Int) (k:Int)) (λi c B e z o=>by
  unfold sd;unfold AO at z o;simp only[A];rw[Zf,zC,zB (show(c:Int)<1099511627776 by omega),zC,ae (n:=(n:Int)-((min k (n-k):Nat):Int)) (by omega),ae (n:=(n:Int)-((min k (n-k):Nat):Int)+(i:Int)) (by omega),show(n:Int)-((min k (n-k):Nat):Int)+(i:Int)=((n-min k (n-k)+i:Nat):Int)by omega,eg o (by omega) (by omega)];simp only[zG];rw[Zi]
  rfl) (λi c h hi z=>by
  unfold sd;unfold AO at h;simp only[A];rcases h with h|h
  .rw[Ze,zD]
  .by_cases e:(i:Int)<=((min k (n-k):Nat):Int)
   .rw[zB e,zC,Ze,zD]
   .rw[zA e,zD])
 rw[u,au4 n k (by omega)];rfl
theorem az1 {r s:Nat}(g:1<=s/\s<=1048576)(e:r<=65536):wL (r:Int) (s:Int)=O ((min AO (ch (s+r) r):Nat):Int):=by
 unfold wL;rw[Ze,zD,Zi,Dc (by omega),show(s:Int)+(r:Int)=((s+r:Nat):Int)by omega,QW (by omega),Jf (s+r) s r rfl];rfl
theorem YK {s:Nat}(D:l<65536)(q:1<=s/\s<=1048576): ∃r:Nat,Cn (l:Int) (s:Int)=O ((r:Int),0)/\IsRep l s r:=by
 unfold Cn D8;rw[Ze,zD,Ze,zD,Zf,zC,Zf];simp only[zG,Bool.not_true,zD];unfold D7
 obtain⟨c,e,r,rfl,A⟩:=xD (f:=Ad (l:Int) (s:Int)) (a:=(0,(l:Int))) (λa=> ∃g hi:Nat,a=((g:Int),(hi:Int))/\g<=hi/\hi<=l/\l<=ch (s+hi) hi/\(g=0∨ch (s+(g-1)) (g-1)<l)) (λa=>(a.2-a.1).toNat) (λc=> ∃r:Nat,c=(r:Int)/\IsRep l s r) ⟨0,l,rfl,by omega,by omega,by have:=Mf q.1 l;omega, .inl rfl⟩ (by simp;omega) (by
  rintro a ⟨g,hi,rfl,B,C,o,p⟩;unfold Ad CV;simp only;by_cases h:g<hi
  .have u:zH zI (Int.tdiv (zH zI ((g:Int)+(hi:Int))) 2)=(((g+hi) / 2:Nat):Int):=by
    rw[ae (n:=(g:Int)+(hi:Int)) (by omega),<-aB,show Int.tdiv ((g+hi:Nat):Int) 2=(((g+hi) / 2:Nat):Int)from rfl,ba0 (by omega)]
   rw[Zf,zC,u,az1 q (by omega)];simp only[zG];by_cases z:l<=ch (s+(g+hi) / 2) ((g+hi) / 2)
   .rw[zB (by unfold AO;omega),zC];exact .inl ⟨_,rfl,⟨g,(g+hi) / 2,rfl,by omega,by omega,z,p⟩,by simp only;omega⟩
   .rw[zA (by unfold AO;omega),zD,Zi];exact .inl ⟨_,rfl,⟨(g+hi) / 2+1,hi,rfl,by omega,by omega,o, .inr (by rw[dB];omega)⟩,by simp only;omega⟩
  .rw[Ze,zD];have:g=hi:=by omega
   subst this
   exact .inr ⟨_,rfl,g,rfl,aP8 o p⟩)
 rw[e];exact⟨r,rfl,A⟩
theorem Yd (a b:Int):vn [1,a,b]=O (max 1 (max a b)):=by
 have e:vn [1,a,b]=O (max (max (max 1 1) a) b):=rfl;rw[e]
 congr 1
 omega
theorem ao8 {n:Nat}(q:2<=n/\n<65536)(e:1<=c/\c<=1048576):AL (n:Int) (c:Int)=O (spI n c (JJ n c),0):=by
 obtain⟨r,o,p⟩:=YK (l:=n) (s:=c) q.2 e;have g:=Xd n e.1;have:r=JJ n c:=p.eq g;subst this;have D:=g.le e.1;have C:=aL4 ((c:Int)+(JJ n c:Int)-1) ((c:Int)-1);have u:zH zI ((c:Int)+(JJ n c:Int))=(c:Int)+(JJ n c:Int):=ae (by omega);have z:zH zI ((c:Int)+(JJ n c:Int)-2)=(c:Int)+(JJ n c:Int)-2:=ae (by omega);have A:zH zI ((c:Int)+(JJ n c:Int)-1)=(c:Int)+(JJ n c:Int)-1:=ae (by omega);have B:zH zI ((c:Int)-1)=(c:Int)-1:=ae (by omega);unfold AL;rw[Ze,zD,o];simp only[zG];rw[zA (by simp),zD,u,z,A,B,Dc (by omega),Dc (by omega)];simp only[zG];rw[Zi,Yd];rfl
end
section
open List renaming findIdx_append -> aB, findIdx_eq_length_of_false -> aD, findIdx_singleton -> bB
theorem aF4 (l:Zd)(x:Int):rS (l++[x])=max (rS l) x:=by
 unfold rS;rw[List.foldl_append];rfl
theorem aq1 (l:Zd): -1<=rS l:=(yp l (-1)).1
theorem aR5 (l:Zd)(h:y∈l):y<=rS l:=(yp l (-1)).2.1 _ h
theorem RR {l:Zd}(h:0<=rS l):rS l∈l:=by
 rcases(yp l (-1)).2.2 with k|k
 .unfold rS at*;omega
 .exact k
theorem aE4 {l:Zd}(h:x∉l):CJ (l++[x]) x=l.length:=by
 unfold CJ;have o:l.findIdx (λy=>Zc (y=x))=l.length:=aD λy g=>zA λe=>h (e▸g)
 rw[aB,Zh,bB,zB rfl];simp
theorem aE5 {l:Zd}(h:y∈l):CJ (l++[x]) y=CJ l y:=by
 unfold CJ;have:=(GU h).1;unfold CJ at this;rw[aB,zE this]
theorem aw8 (l:Zd)(x:Int):Fs (l++[x])=Fs l+(if x<0 then 1 else 0):=by
 unfold Fs;rw[List.countP_append,List.countP_singleton];by_cases h:x<0
 .rw[zB h,zE rfl,zE h]
 .rw[zA h,zF (by simp),zF h]
theorem WE (l:Zd):Fs l<=l.length:=List.countP_le_length
theorem aX2 {l:Zd}(h:Fs l=0): ∀y∈l,0<=y:=λy e=>by
 have:=List.countP_eq_zero.1 h y e;simp only[decide_eq_true_eq]at this;omega
theorem aF9 {l:Zd}(h:Fs l=0)(e:x<0):OD (l++[x])=l.length:=by
 unfold OD;have o:l.findIdx (λy=>Zc (y<0))=l.length:=aD λy g=>zA (by have:=aX2 h y g;omega)
 rw[aB,Zh,bB,zB e];simp
theorem RW {l:Zd}(h:0<Fs l):OD (l++[x])=OD l:=by
 unfold OD;have:=(aq8 h).1;unfold OD at this;rw[aB,zE this]
def Uy (t:Zd):Int:=rS t
def UA (t:Zd):Int:=if rS t<0 then 0 else(CJ t (rS t):Int)
def Uz (t:Zd):Int:=(Fs t:Int)
def aq9 (t:Zd):Int:=if Fs t=0 then-1 else(OD t:Int)
theorem az2 {L p q:Int}(I:t.length<1000000000):wM L p q t=O (p,q,t,(if q<0 then L else q),Uy t,UA t,Uz t,aq9 t):=by
 unfold wM
 have E:((cond (Zc (q<0)) (O ((p,q,t,p,q,t,L))) (O ((p,q,t,p,q,t,q)))):Option (Int×Int×(Zd)×Int×Int×(Zd)×Int))=O (p,q,t,p,q,t,(if q<0 then L else q)):=by
  rw[ak];split<;>rfl
 rw[E];simp only[zG];generalize (if q<0 then L else q)=e
 have z:=pi (f:=qP (p,q,t,p,q,t,e)) (n:=t.length) (λi=>(p,q,t,p,q,t,e,Uy (t.take i),UA (t.take i),Uz (t.take i),aq9 (t.take i))) (c:=(p,q,t,p,q,t,e,Uy t,UA t,Uz t,aq9 t)) (by omega)
  (λi hi=>by
   have g:(t.take i).length=i:=by rw[List.length_take];omega
   have F:=WE (t.take i);have H:=aq1 (t.take i);simp only[qP];rw[Zf,zC,dn hi,List.take_succ_eq_append_getElem hi];simp only[zG];generalize t[i]=x;generalize J:t.take i=u at*;rw[ae (n:=(i:Int)+1) (by omega)];unfold Uy UA Uz aq9;rw[ae (n:=(Fs u:Int)+1) (by omega),aF4,aw8];by_cases D:rS u<x
   .rw[zB D,zC,Int.max_eq_right (by omega),zF (show¬x<0 by omega),zF (show¬x<0 by omega),aE4 (λh=>by have:=aR5 u h;omega),g];simp only[Nat.add_zero]
    have:(if Fs u=0 then(-1:Int)else(OD (u++[x]):Int))=if Fs u=0 then(-1:Int)else(OD u:Int):=by
     split
     .rfl
     .rw[RW (by omega)]
    rw[this];rfl
   .rw[zA D,zD,Int.max_eq_left (by omega)]
    have C:(if rS u<0 then(0:Int)else(CJ (u++[x]) (rS u):Int))=if rS u<0 then(0:Int)else(CJ u (rS u):Int):=by
     split
     .rfl
     .rw[aE5 (RR (by omega))]
    rw[C];by_cases o:x<0
    .rw[zB o,zC,zE o,zF (show¬Fs u+1=0 by omega)];by_cases B:Fs u=0
     .rw[zE B,Zf,zC,aF9 B o,g];rfl
     .rw[zF B,Ze,zD,RW (by omega)];rfl
    .rw[zA o,zD,zF o];simp only[Nat.add_zero]
     have:(if Fs u=0 then(-1:Int)else(OD (u++[x]):Int))=if Fs u=0 then(-1:Int)else(OD u:Int):=by
      split
      .rfl
      .rw[RW (by omega)]
     rw[this]
     rfl)
  (by
   simp only[qP]
   rw[zA (by simp),zD,List.take_length])
 rw[List.take_zero]at z;have A:aw (qP (p,q,t,p,q,t,e)) gv (0,p,q,t,p,q,t,e,-1,0,0,-1)=_:=z;rw[A];rfl
theorem UB (h: ¬rS t<0):UA t=(CJ t (rS t):Int):=zF h
theorem aG0 (h: ¬Fs t=0):aq9 t=(OD t:Int):=zF h
def aV5 :Option (Int×Int)->Int×Int×Bool
 |none=>(0,0,Zb)
 |some a=>(a.1,a.2,Za)
section
variable {c:Cx}
theorem aI6 (h:c.Ok)(g:c.mode≠3)(hi:Inv c s):dp c.fixed c.tp c.sl c.ns c.mode c.R c.Q c.len c.words s.L s.p s.q s.c0 s.c1 s.c2 s.c3 s.z c.X c.T c.l c.k c.P c.tk (c.off 8:Int) c.ns (c.X.length:Int) s.lv s.pk c.words s.W=O (s.p,s.q,rm c s.W):=by
 unfold dp;rw[RN h g hi.w λk e=>by have:=hi.tag k e;have:=hi.L;omega];rfl
def tL (c:Cx)(s:Dy):Mc:=⟨s.L,s.p,s.q,rm c s.W⟩
theorem VA (h:c.Ok)(K:c.mode≠3)(hn:1<=c.ns)(hi:Inv c s)(g:Int)(en S:Bool):rp g en S c.fixed c.tp c.sl c.ns c.mode c.R c.Q c.len c.words s.L s.p s.q s.c0 s.c1 s.c2 s.c3 s.z c.X c.T c.l c.k c.P c.tk (c.off 8:Int) c.ns (c.X.length:Int) s.lv s.pk c.words s.W=O (aV5 (DO (tL c s))):=by
 have Z:=h.ns;have U:=hi.L;have hp:=hi.p;have N:=hi.q;have J:(rm c s.W).length=c.ns.toNat:=ul;have A:=Om (c:=c) (W:=s.W) hi.tag;have M:=(we h K (k:=0) (by omega)).2.2;unfold rp tg iy nj;simp only[zG];rw[aI6 h K hi];simp only[zG];unfold CW;rw[Iu U hp N (by omega) A];simp only[zG,cv];rw[Zf,Bool.not_true,zD,az2 (by omega)];simp only[zG,re,oo,oj,yf,sr,su,sv,sw,sy,sA,sB,sC,mq,uK,tQ,tR];unfold DO tL Uy Uz;simp only;have hg:=aq1 (rm c s.W)
 have ht:rS (rm c s.W)<=s.L:=by
  rcases(yp (rm c s.W) (-1)).2.2 with k|k
  .unfold rS;omega
  .exact(A _ k).2
 have hf:=WE (rm c s.W);have he:0<=(if s.q<0 then s.L else s.q)/\(if s.q<0 then s.L else s.q)<=s.L:=by split<;>omega
 generalize (if s.q<0 then s.L else s.q)=e at*;have hq':=N;have hsp: ∀x,¬rS (rm c s.W)<s.p->x=rS (rm c s.W)->True:=λ_ _ _=>trivial
 generalize htg:rm c s.W=t at*;rw[ae (n:=e-1) (by omega),ae (n:=e-1-s.p) (by omega),ae (n:=e-rS t) (by omega),ae (n:=(Fs t:Int)+1) (by omega)];by_cases B:0<=s.q/\e<=rS t
 .rw[zE B,zB B.1,zC,zB B.2];simp only[zG,zC];rw[UB (by omega)];rfl
 rw[zF B]
 have r1:(cond (Zc (0<=s.q)) (O (Zc (e<=rS t))) (O Zb):Option Bool)=O Zb:=by
  by_cases k:0<=s.q
  .rw[zB k,zC,zA (λI=>B ⟨k,I⟩)]
  .rw[zA k,zD]
 rw[r1];simp only[zG,zD];by_cases C:s.q=0
 .rw[zE C,zB C,zC];rfl
 rw[zF C,zA C,zD]
 have r3:(cond (!Zc (0<=s.q)) (O (Zc (s.p=s.L))) (O Zb):Option Bool)=O (Zc (s.q<0/\s.p=s.L)):=by
  by_cases k:0<=s.q
  .rw[zB k,Bool.not_true,zD,Ze]
  .rw[zA k,Bool.not_false,zC]
   congr 1
   exact decide_eq_decide.2 (by omega)
 rw[r3];simp only[zG];by_cases D:s.q<0/\s.p=s.L
 .rw[zE D,zB D,zC];rfl
 rw[zF D,zA D,zD];by_cases E:s.p=e-1
 .rw[zE E,zB E,zC];by_cases o:0<=s.q
  .rw[zE o,zB o];rfl
  .rw[zF o,zA o];rfl
 rw[zF E,zA E,zD];by_cases o:rS t<0
 .rw[zE o,zB o,zC];by_cases u:e<=s.p
  .rw[zE u,zB u];rfl
  .rw[zF u,zA u];rfl
 rw[zF o,zA o,zD]
 have r6:(cond (Zc (s.p<rS t)) (O Za) (O (Zc (e<=s.p))):Option Bool)=O (Zc (s.p<rS t∨e<=s.p)):=by
  by_cases k:s.p<rS t
  .rw[zB k,zC,zB (.inl k)]
  .rw[zA k,zD]
   congr 1
   exact decide_eq_decide.2 (by omega)
 rw[r6];simp only[zG];by_cases u:s.p<rS t∨e<=s.p
 .rw[zE u,zB u,zC,UB o];rfl
 rw[zF u,zA u,zD]
 have r7:(cond (Zc (rS t<s.p)) (O (Zc (0<(Fs t:Int)))) (O Zb):Option Bool)=O (Zc (rS t<s.p/\0<Fs t)):=by
  by_cases k:rS t<s.p
  .rw[zB k,zC]
   congr 1
   exact decide_eq_decide.2 (by omega)
  .rw[zA k,zD,zA (λI=>k I.1)]
 rw[r7];simp only[zG];by_cases F:rS t<s.p/\0<Fs t
 .rw[zE F,zB F,zC,aG0 (by omega)];rfl
 rw[zF F,zA F,zD];by_cases H:rS t<s.p
 .rw[zE H,zB H,zC];rfl
 rw[zF H,zA H,zD];have V:e-rS t=(((e-rS t).toNat:Nat):Int):=by omega
 have:=ao8 (n:=(e-rS t).toNat) (c:=Fs t+1) (by omega) (by omega);rw[<-V,show((Fs t+1:Nat):Int)=(Fs t:Int)+1 by omega]at this;rw[this];rfl
end
end
section
open Int renaming lt_irrefl -> bB, tmod_eq_emod_of_nonneg -> cB
open List renaming getElem_of_mem -> aB, getElem_mem -> aD
open Nat renaming pow_succ -> bD, eq_zero_or_pos -> cD
def Bst (P:Int->Prop)(R:Int->Int->Prop)(t:Zd)(i:Nat)(k:Int):Prop:=
 (k= -1/\∀j (h:j<t.length),j<i->¬P t[j])∨∃j,∃h:j<t.length,k=(j:Int)/\j<i/\P t[j]/\(∀e (g:e<t.length),e<i->P t[e]->¬R t[e] t[j])/\∀e (g:e<t.length),e<j->P t[e]->R t[j] t[e]
theorem He {P:Int->Prop}{R:Int->Int->Prop}[DecidablePred P][DecidableRel R]{f:Int×Int->Option ((Int×Int)⊕Int)}{pb:Int->Option Bool}{lb:Int->Int->Option Bool}(S:t.length<1000000000)
  (L: ∀s,f s=cond (Zc (s.1<(((List.length t):Nat):Int))) ((rd t s.1).bind λx=>(pb x).bind λr=>cond r (cond (Zc (s.2<0)) (O (.inl (IntKind.i64.wrap (s.1+1),s.1))) ((rd t s.2).bind λy=>(lb x y).bind λQ=>cond Q (O (.inl (IntKind.i64.wrap (s.1+1),s.1))) (O (.inl (IntKind.i64.wrap (s.1+1),s.2))))) (O (.inl (IntKind.i64.wrap (s.1+1),s.2)))) (O (.inr s.2)))
  (M: ∀x,pb x=O (Zc (P x))) (N: ∀x y,lb x y=O (Zc (R x y))) (J: ∀a,¬R a a) (K: ∀a b e,R a b->¬R e b->R a e) (as: ∀a b,R a b->¬R b a): ∃k,aw f gv (0,-1)=O k/\Bst P R t t.length k:=by
 refine xD (λs=> ∃(i:Nat) (k:Int),s=((i:Int),k)/\i<=t.length/\Bst P R t i k) (λs=>t.length-s.1.toNat) _ ⟨0,-1,rfl,by omega, .inl ⟨rfl,λj h E=>by omega⟩⟩ (by simp;omega) ?_;rintro s ⟨i,k,rfl,hi,H⟩;rw[L];simp only;by_cases h:i<t.length
 .left;rw[Zf,zC,dn h];simp only[zG];rw[M,Zi,show(i:Int)+1=((i+1:Nat):Int)by omega];simp only[zG];by_cases C:P t[i]
  .rw[zB C,zC];rcases H with⟨rfl,F⟩|⟨j,E,rfl,I,B,g,u⟩
   .rw[Zf,zC];refine⟨_,rfl,⟨i+1,i,rfl,by omega, .inr ⟨i,h,rfl,by omega,C,λo p A q=> ?_,λo p A q=>absurd q (F o p A)⟩⟩,by simp only;omega⟩;by_cases z:o=i
    .subst z;exact J _
    .exact absurd q (F o p (by omega))
   .rw[Ze,zD,dn E];simp only[zG];rw[N];simp only[zG];by_cases D:R t[i] t[j]
    .rw[zB D,zC];refine⟨_,rfl,⟨i+1,i,rfl,by omega, .inr ⟨i,h,rfl,by omega,C,λo p A q=> ?_,λo p A q=>K _ _ _ D (g o p A q)⟩⟩,by simp only;omega⟩;by_cases z:o=i
     .subst z;exact J _
     .exact as _ _ (K _ _ _ D (g o p (by omega) q))
    .rw[zA D,zD];refine⟨_,rfl,⟨i+1,j,rfl,by omega, .inr ⟨j,E,rfl,by omega,B,λo p A q=> ?_,u⟩⟩,by simp only;omega⟩;by_cases z:o=i
     .subst z;exact D
     .exact g o p (by omega) q
  .rw[zA C,zD];refine⟨_,rfl,⟨i+1,k,rfl,by omega, ?_⟩,by simp only;omega⟩;rcases H with⟨rfl,F⟩|⟨j,E,rfl,I,B,g,u⟩
   .refine .inl ⟨rfl,λj p A=> ?_⟩;by_cases z:j=i
    .subst z;exact C
    .exact F j p (by omega)
   .refine .inr ⟨j,E,rfl,by omega,B,λo p A q=> ?_,u⟩;by_cases z:o=i
    .subst z;exact absurd q C
    .exact g o p (by omega) q
 .right;have:i=t.length:=by omega
  subst this;rw[Ze,zD];exact⟨_,rfl,H⟩
theorem KV (o:j<t.length)(h: ∀e (p:e<t.length),e<j->t[e]≠t[j]):CJ t t[j]=j:=by
 unfold CJ;rw[List.findIdx_eq o];exact⟨zB rfl,λe g=>zA (h e (by omega) g)⟩
theorem ab8 (H:1<=d)(D:t.length<1000000000):yP t (d:Int)=O (match Vz d t with|none=> -1|some x=>(CJ t x:Int)):=by
 unfold yP
 obtain⟨k,e,h⟩:=He (P:=λx=>0<=x/\x % (d:Int)≠0) (R:=λx y=>x<y) (t:=t) (f:=Dr t (d:Int)) (pb:=λx=>uv x (d:Int)) (lb:=rf) D (λs=>rfl) (λx=>by
  unfold uv;by_cases h:0<=x
  .rw[zB h,zC,zB (show(d:Int)≠0 by omega),dh,cB h]
   congr 1
   exact decide_eq_decide.2 ⟨λk=>⟨h,k⟩,λk=>k.2⟩
  .rw[zA h,zD,zA (λk=>h k.1)]) (λx y=>rfl) (λa=>bB a) (λa b e p z=>by omega) (λa b h=>by omega)
 rw[e];rcases h with⟨rfl,E⟩|⟨j,B,rfl,_,A,o,g⟩
 .rw[NQ λy u q=>by
   obtain⟨i,hi,rfl⟩:=aB u;have:=E i hi hi;by_cases k:t[i] % (d:Int)=0
   .exact k
   .exact absurd ⟨q,k⟩ this]
  rfl
 .rw[Tu (x:=t[j]) (aD B) A λy u q p=>by
   obtain⟨i,hi,rfl⟩:=aB u;have:=o i hi hi ⟨q,p⟩
   omega]
  simp only[zG]
  rw[KV B λF C p z=>by
   have:=g F C p (by rw[z];exact A)
   omega]
theorem XO (u:t.length<1000000000): ∃k,vo t x=O k/\(k<0↔x∉t):=by
 unfold vo;obtain⟨k,e,h⟩:=He (P:=λy=>y=x) (R:=λx y=>x<y) (t:=t) (f:=Bt t x) (pb:=λy=>yg y x) (lb:=rf) u (λs=>rfl) (λy=>rfl) (λx y=>rfl) (λa=>bB a) (λa b e B C=>by omega) (λa b h=>by omega);rw[e];refine⟨k,rfl, ?_⟩;rcases h with⟨rfl,z⟩|⟨j,q,rfl,_,p,o,g⟩
 .refine⟨λ_ A=> ?_,λ_=>by omega⟩;obtain⟨i,hi,e⟩:=aB A;exact z i hi hi e
 .exact⟨λh=>by omega,λh=>absurd (p▸aD q) h⟩
theorem ac0 (C:t.length<1000000000)(o: ∀y∈t,-1<=y): ∃k,vp t=O k/\((-1:Int)∈t->k=(CJ t (-1):Int))/\((-1:Int)∉t->k= -1):=by
 unfold vp;obtain⟨k,e,h⟩:=He (P:=λy=>y<0) (R:=λx y=>x<y) (t:=t) (f:=Bu t) (pb:=λy=>yh y) (lb:=rf) C (λs=>rfl) (λy=>rfl) (λx y=>rfl) (λa=>bB a) (λa b e u B=>by omega) (λa b h=>by omega);rw[e];refine⟨k,rfl, ?_⟩;rcases h with⟨rfl,D⟩|⟨j,p,rfl,_,H,z,g⟩
 .refine⟨λE=> ?_,λ_=>rfl⟩;obtain⟨i,hi,e⟩:=aB E;exact absurd (show t[i]<0 by omega) (D i hi hi)
 .have q:t[j]= -1:=by have:=o _ (aD p);omega
  refine⟨λ_=> ?_,λh=>absurd (q▸aD p) h⟩
  rw[<-q,KV p λF A u B=>by
   have:=g F A u (by omega)
   omega]
theorem ab9 (C:t.length<1000000000): ∃k,vq t=O k/\(rS t<0->k= -1)/\(0<=rS t->k=(CJ t (rS t):Int)):=by
 unfold vq;obtain⟨k,e,h⟩:=He (P:=λy=>0<=y) (R:=λx y=>y<x) (t:=t) (f:=Bv t) (pb:=λy=>Bw y) (lb:=yi) C (λs=>rfl) (λy=>rfl) (λx y=>rfl) (λa=>bB a) (λa b e q B=>by omega) (λa b h=>by omega);rw[e];refine⟨k,rfl, ?_⟩;rcases h with⟨rfl,D⟩|⟨j,u,rfl,_,H,o,g⟩
 .refine⟨λ_=>rfl,λp=> ?_⟩;obtain⟨i,hi,e⟩:=aB (RR p);exact absurd (show 0<=t[i]by omega) (D i hi hi)
 .have z:rS t=t[j]:=KY (by omega) (λy E=>by
   obtain⟨i,hi,rfl⟩:=aB E;by_cases p:0<=t[i]
   .have:=o i hi hi p;omega
   .omega) (.inr (aD u))
  refine⟨λh=>by omega,λ_=> ?_⟩
  rw[z,KV u λF A q B=>by
   have:=g F A q (by omega)
   omega]
theorem YT {s:Nat}(z:k<65536)(g:1<=s/\s<=1048576):sW (k:Int) (s:Int)=O ((zT k s:Int),0):=by
 unfold sW;rw[Ze,zD,Ze,zD,Ze,zD,Ze,zD];have p:=yU z g.1
 have o:aw (vz (k:Int) (s:Int)) gv 1=O (zT k s:Int):=by
  refine WT (λa=> ∃e:Nat,a=((2 ^ e:Nat):Int)/\(e=0∨s*2 ^ (e-1)<=k)) (λa=>4294967296-a.toNat) ⟨0,rfl, .inl rfl⟩ (by simp) ?_;rintro a ⟨e,rfl,he⟩
  have u:2 ^ e<=131072:=by
   rcases he with rfl|he
   .simp
   .have:1*2 ^ (e-1)<=s*2 ^ (e-1):=Nat.mul_le_mul_right _ g.1;rcases cD e with rfl|h
    .simp
    .rw[show e=(e-1)+1 by omega,bD];omega
  have B:1<=2 ^ e:=Nat.one_le_two_pow;have A:s*2 ^ e<=1048576*131072:=Nat.mul_le_mul g.2 u;unfold vz;rw[<-Int.natCast_mul,ba0 (by omega)];by_cases h:k<s*2 ^ e
  .right;rw[Zf,zC]
   have:IsStr k s (2 ^ e):=⟨⟨e,rfl⟩,h,by
    rcases he with rfl|he
    .exact .inl rfl
    .rcases cD e with rfl|h
     .exact .inl rfl
     .right
      have q:2 ^ e / 2=2 ^ (e-1):=by
       conv=>lhs;rw[show e=(e-1)+1 by omega,bD]
       exact Nat.mul_div_cancel _ (by omega)
      rw[q]
      exact he⟩
   rw[this.eq p]
  .left;rw[Ze,zD,Zi];refine⟨_,rfl,⟨e+1, ?_, .inr (by rw[Nat.add_sub_cancel];omega)⟩,by omega⟩;rw[bD];omega
 rw[o];rfl
section
variable {c:Cx}
theorem al1 (h:c.Ok)(V:c.mode≠3)(hn:1<=c.ns)(hi:Inv c s)(g:Int)(en fa:Bool):sU g en fa c.fixed c.tp c.sl c.ns c.mode c.R c.Q c.len c.words s.L s.p s.q s.c0 s.c1 s.c2 s.c3 s.z c.X c.T c.l c.k c.P c.tk (c.off 8:Int) c.ns (c.X.length:Int) s.lv s.pk c.words s.W=O (aV5 (uP en (tL c s))):=by
 have hns:=h.ns;have M:=hi.L;have hp:=hi.p;have hq:=hi.q;have U:(rm c s.W).length=c.ns.toNat:=ul;have C:=Om (c:=c) (W:=s.W) hi.tag;have Z:=(we h V (k:=0) (by omega)).2.2;unfold sU th iz nj;simp only[zG];rw[aI6 h V hi];simp only[zG];unfold CY;rw[Iu M hp hq (by omega) C];simp only[zG,cv];rw[Ze,zD];unfold uP tL;simp only;generalize htg:rm c s.W=t at*
 have hd:sW s.L ((t.length:Nat):Int)=O ((zT s.L.toNat t.length:Int),0):=by
  have:=YT (k:=s.L.toNat) (s:=t.length) (by omega) (by omega);rw[Int.toNat_of_nonneg M.1]at this;exact this
 have N:1<=zT s.L.toNat t.length:=(yU (by omega) (by omega)).pos;generalize zT s.L.toNat t.length=d at*;by_cases H:s.q<0
 .rw[zE H,zB H,zC];unfold Bs;rw[hd];simp only[zG,li,kg];by_cases u:s.p<s.L
  .rw[zE u,zB u,zC,Zi];rfl
  rw[zF u,zA u,zD,ab8 N (by omega)];cases ho:Vz d t with
  |some x=>
   simp only[zG];rw[Zf,zC];rfl
  |none=>
   simp only[zG];rw[Ze,zD];obtain⟨k2,e2,F⟩:=XO (t:=t) (x:=s.L) (by omega);obtain⟨S,e3,D,K⟩:=ac0 (t:=t) (by omega) λy hy=>(C y hy).1
   rw[e2,e3];simp only[zG]
   have r1:gd (Zc ((d:Int)≠0)) (cond (Zc ((Int.tmod s.L (d:Int))=0)) (cond (Zc (k2<0)) (O (Zc (0<=S))) (O Zb)) (O Zb))=O (Zc (s.L % (d:Int)=0/\s.L∉t/\(-1:Int)∈t)):=by
    rw[zB (show(d:Int)≠0 by omega),dh,cB M.1];by_cases a1:s.L % (d:Int)=0
    .rw[zB a1,zC];by_cases a2:s.L∉t
     .rw[zB (F.2 a2),zC]
      congr 1
      by_cases a3:(-1:Int)∈t
      .rw[zB (show 0<=S by rw[D a3];omega),zB ⟨a1,a2,a3⟩]
      .rw[zA (show¬0<=S by rw[K a3];omega),zA (λk=>a3 k.2.2)]
     .rw[zA (λk=>a2 (F.1 k)),zD,zA (λk=>a2 k.2.1)]
    .rw[zA a1,zD,zA (λk=>a1 k.1)]
   rw[r1];simp only[zG];by_cases a:s.L % (d:Int)=0/\s.L∉t/\(-1:Int)∈t
   .rw[zE a,zB a,zC,D a.2.2];rfl
   .rw[zF a,zA a,zD];cases en<;>rfl
 rw[zF H,zA H,zD];unfold CZ;obtain⟨k,e,hk0,E⟩:=ab9 (t:=t) (by omega);rw[e];simp only[zG,li,kg]
 have B:0<=rS t->0<=k/\rd t k=O (rS t):=λo=>by
  obtain⟨hs,e⟩:=GU (RR o);rw[E o,dn hs,e];exact⟨by omega,rfl⟩
 have r1:(cond (Zc (0<=k)) ((rd t k).bind λx4=>O (Zc (s.q<=x4))) (O Zb):Option Bool)=O (Zc (0<=rS t/\s.q<=rS t)):=by
  by_cases o:0<=rS t
  .rw[zB (B o).1,zC,(B o).2];simp only[zG]
   congr 1
   exact decide_eq_decide.2 (by omega)
  .rw[zA (by rw[hk0 (by omega)];omega),zD,zA (λk=>o k.1)]
 rw[r1];simp only[zG];by_cases u:0<=rS t/\s.q<=rS t
 .rw[zE u,zB u,zC,E u.1];rfl
 rw[zF u,zA u,zD];by_cases D:s.q=0
 .rw[zE D,zB D];rfl
 rw[zF D,zA D,zD,ae (n:=s.q-1) (by omega)];by_cases I:s.p=s.q-1
 .rw[zE I,zB I];rfl
 rw[zF I,zA I,zD]
 have r2:(cond (Zc (0<=k)) ((rd t k).bind λx9=>cond (Zc (s.p<x9)) (O Za) (O (Zc (s.q<=s.p)))) (O Zb):Option Bool)=O (Zc (0<=rS t/\(s.p<rS t∨s.q<=s.p))):=by
  by_cases o:0<=rS t
  .rw[zB (B o).1,zC,(B o).2];simp only[zG];by_cases A:s.p<rS t
   .rw[zB A,zC,zB ⟨o, .inl A⟩]
   .rw[zA A,zD]
    congr 1
    exact decide_eq_decide.2 (by omega)
  .rw[zA (by rw[hk0 (by omega)];omega),zD,zA (λk=>o k.1)]
 rw[r2];simp only[zG];by_cases A:0<=rS t/\(s.p<rS t∨s.q<=s.p)
 .rw[zE A,zB A,zC,E A.1];rfl
 rw[zF A,zA A,zD];by_cases J:s.p<s.q
 .rw[zE J,zB J,zC,Zi];rfl
 .rw[zF J,zA J];rfl
end
end
section
open Int renaming reduceEq -> aB, toNat_natCast -> aD
open List renaming getElem?_eq_getElem -> bB, getElem_mem -> bD, length_set -> cD, getD_eq_getElem?_getD -> dB, getElem_set -> dD, length_map -> eD, length_replicate -> fB, replicate -> fD, getElem?_eq_none -> iB, getElem_map -> iC, getElem_of_mem -> iD, map_congr_left -> iE
open Nat renaming div_add_mod -> cB, one_dvd -> gD, div_lt_iff_lt_mul -> iF, dvd_of_mod_eq_zero -> iG
open Option renaming getD_some -> iA
theorem Xm (h:x∈t):CJ t x<t.length/\t[CJ t x]?=O x:=by
 obtain⟨g,e⟩:=GU h;exact⟨g,by rw[bB g,e]⟩
def xY (k:Nat)(t:Zd):List (Int×Int)×Zd:=
 if k % zT k t.length=0 then((SY (zT k t.length) k t).1++[(2,(CJ (SY (zT k t.length) k t).2 (-1):Int))],(SY (zT k t.length) k t).2.set (CJ (SY (zT k t.length) k t).2 (-1)) k)
 else SY (zT k t.length) k t
theorem av6 (h:d' ∣ d)(e:j % d=0):j % d'=0:=
 Nat.mod_eq_zero_of_dvd (Nat.dvd_trans h (iG e))
theorem Gd.frd (G:Gd k t d')(F:d' ∣ d):Gd k (frd d k t) d:=by
 refine⟨λx C=> ?_,λj q z=> ?_,λi j hi q e E=> ?_⟩
 .unfold Go.V.frd at C;obtain⟨y,H,rfl⟩:=List.mem_map.1 C;have:=G.ins y H;by_cases h:0<=y/\y<(k:Int)/\y % (d:Int)≠0
  .rw[zE h];exact .inl rfl
  .rw[zF h];rcases this with h1|h1
   .exact .inl h1
   .exact .inr ⟨h1.1,h1.2.1,by
     by_cases B:y % (d:Int)=0
     .exact B
     .exact absurd ⟨h1.1,h1.2.1,B⟩ h⟩
 .exact(WD (by omega)).2 ⟨G.all j q (av6 F z),by omega⟩
 .have p:i<t.length:=by rw[vu]at hi;exact hi
  have u:j<t.length:=by rw[vu]at q;exact q
  have g:=Jk (d:=d) (n:=k) p;have o:=Jk (d:=d) (n:=k) u;rw[bB hi]at g;rw[bB q]at o;injection g with g
  injection o with o
  have A:(Go.V.frd d k t)[i]=t[i]:=by
   by_cases h:0<=t[i]/\t[i]<(k:Int)/\t[i] % (d:Int)≠0
   .rw[zE h]at g;omega
   .rw[zF h]at g;exact g
  have D:(Go.V.frd d k t)[j]=t[j]:=by
   by_cases h:0<=t[j]/\t[j]<(k:Int)/\t[j] % (d:Int)≠0
   .rw[zE h]at o;omega
   .rw[zF h]at o;exact o
  exact G.one i j p u (by rw[<-A,<-D,e]) (by rw[<-A];exact E)
theorem Gd.free (G:Gd k t d)(J:1<=d)(E:k % d=0)(F:k<t.length*d):(-1:Int)∈t:=by
 by_cases h:(-1:Int)∈t
 .exact h
 exfalso
 have g: ∀i (hi:i<t.length),0<=t[i]/\t[i]<k/\t[i] % (d:Int)=0:=λi hi=>by
  rcases G.ins _ (bD hi)with h1|h1
  .exact absurd (h1▸bD hi) h
  .exact h1
 have q:=NP (k / d) (t.map λx=>x.toNat / d) (by
  refine List.pairwise_iff_getElem.2 λi j hi p D e=> ?_
  rw[eD]at hi p;rw[iC,iC]at e;have a:=g i hi;have b:=g j p
  have B:t[i].toNat % d=0:=by
   have:=a.2.2;have o:t[i]=((t[i].toNat:Nat):Int):=by omega
   rw[o]at this;omega
  have C:t[j].toNat % d=0:=by
   have:=b.2.2;have o:t[j]=((t[j].toNat:Nat):Int):=by omega
   rw[o]at this;omega
  have h1:=cB t[i].toNat d;have A:=cB t[j].toNat d;rw[B]at h1;rw[C,<-e]at A;have:=G.one i j hi p (by omega) a.1
  omega) (λy I=>by
  obtain⟨x,H,rfl⟩:=List.mem_map.1 I;obtain⟨i,hi,rfl⟩:=iD H;have a:=g i hi;obtain⟨u,z⟩:=iG E;rw[iF (by omega),z,Nat.mul_div_cancel_left _ (by omega),Nat.mul_comm,<-z]
  omega)
 rw[eD]at q;have:=(iF (x:=k) (y:=t.length) (k:=d) (by omega)).2 F;omega
theorem Gd.store (G:Gd k t d)(I:k % d=0)(D:(-1:Int)∈t):Gd (k+1) (t.set (CJ t (-1)) k) d:=by
 obtain⟨E,H⟩:=GU D;generalize CJ t (-1)=u at*;refine⟨λx F=> ?_,λj p A=> ?_,λi j hi p e q=> ?_⟩
 .rcases Ju F with h|h
  .rcases G.ins x h with h1|h1
   .exact .inl h1
   .exact .inr ⟨h1.1,by omega,h1.2.2⟩
  .exact .inr ⟨by omega,by omega,by rw[h];omega⟩
 .by_cases B:j=k
  .subst B;exact List.mem_set E _
  .obtain⟨i,hi,e⟩:=iD (G.all j (by omega) A);have C:u≠i:=λh=>by subst h;omega
   have z:i<(t.set u (k:Int)).length:=by rw[cD];exact hi
   have:=bD z;rw[List.getElem_set_ne C,e]at this;exact this
 .rw[cD]at hi p;rw[dD,dD]at e;rw[dD]at q;by_cases o:u=i
  .by_cases g:u=j
   .omega
   .rw[zE o,zF g]at e;rcases G.ins _ (bD p)with h1|h1<;>omega
  .rw[zF o]at e q;by_cases g:u=j
   .rw[zE g]at e;rcases G.ins _ (bD hi)with h1|h1<;>omega
   .rw[zF g]at e;exact G.one i j hi p e q
theorem DJ {s:Nat}(M:k<65536)(e:t.length=s)(h1:1<=s)(G:Gd k t d')(L:d' ∣ zT k s):
  Run (uP en) ⟨k,k,-1,t⟩ (xY k t).1 ⟨k,k,-1,(xY k t).2⟩/\Gd (k+1) (xY k t).2 (zT k s)/\(xY k t).2.length=s/\uP en ⟨k,k,-1,(xY k t).2⟩=(if en then O (5,0)else Y)/\(k % zT k s=0->(-1:Int)∈frd (zT k s) k t):=by
 have H:=yU M h1;have u:=H.pos;obtain⟨B,F⟩:=an5 (k:=k) (d:=zT k s) (s:=s) (t:=t) (en:=en) rfl e G.one k;have G1:=G.frd L;unfold xY;rw[e,B];generalize p:zT k s=d at*
 have o: ∀A:Zd,A.length=s->Gd (k+1) A d->uP en ⟨k,k,-1,A⟩=(if en then O (5,0)else Y):=λA N G2=>by
  unfold uP;simp only;rw[Zg,Zh,N,aD,p,NQ λy E K=>by rcases G2.ins y E with h|h;omega;exact h.2.2];simp only;rw[zF];rintro⟨a,b,_⟩;exact b (G2.all k (by omega) (by omega))
 by_cases h:k % d=0
 .have z:=G1.free u h (by rw[vu,e];exact H.gt);have G2:=G1.store h z;obtain⟨D,I⟩:=GU z;rw[zE h];have g:((frd d k t).set (CJ (frd d k t) (-1)) (k:Int)).length=s:=by rw[cD,vu,e]
  refine⟨F.append (.one ?_ ?_),G2,g,o _ g G2,λ_=>z⟩
  .unfold uP;simp only;rw[Zg,Zh,vu,e,aD,p,NQ λy E K=>by rcases G1.ins y E with h|h;omega;exact h.2.2];simp only;rw[zE ⟨by omega,λQ=>by rcases G1.ins _ Q with h|h<;>omega,z⟩]
  .unfold LY;simp only[aB,if_false,if_true,aD];rw[dB,bB D,I];simp only[iA];rw[Zg]
 .rw[zF h]
  have G2:Gd (k+1) (frd d k t) d:=⟨λx S=>by
   rcases G1.ins x S with h1|h1
   .exact .inl h1
   .exact .inr ⟨h1.1,by omega,h1.2.2⟩,λj U q=>by
   by_cases C:j=k
   .subst C;exact absurd q h
   .exact G1.all j (by omega) q,G1.one⟩
  have g:(SY d k t).2.length=s:=by rw[B,vu,e]
  rw[B];refine⟨F,G2,by rw[vu,e],o _ (by rw[vu,e]) G2,λJ=>absurd J h⟩
def ff (s:Nat):Nat->List (Int×Int)×Zd
 |0=>xY 0 (fD s (-1))
 |k+1=>((ff s k).1++[(1,1)]++(xY (k+1) (ff s k).2).1,(xY (k+1) (ff s k).2).2)
theorem Gd.none (s d:Nat):Gd 0 (fD s (-1)) d:=
 ⟨λx p=> .inl (List.eq_of_mem_replicate p),λj o=>by omega,λi j hi o e g=>by rw[List.getElem_replicate]at g;omega⟩
theorem I8 {s:Nat}(e:1<=s): ∀k,k<65536->Gd (k+1) (ff s k).2 (zT k s)/\(ff s k).2.length=s
 |0,h=>by
  obtain⟨_,b,c,_⟩:=DJ (en:=Zb) h (fB) e (Gd.none s 1) (gD _);exact⟨b,c⟩
 |k+1,h=>by
  obtain⟨a1,a2⟩:=I8 e k (by omega);obtain⟨_,b,c,_⟩:=DJ (en:=Zb) h a2 e a1 ((yU (by omega) e).next (yU h e));exact⟨b,c⟩
theorem Wo {s:Nat}(e:1<=s):Run (uP Zb) ⟨0,0,-1,fD s (-1)⟩ (ff s 0).1 ⟨0,0,-1,(ff s 0).2⟩/\uP Zb ⟨0,0,-1,(ff s 0).2⟩=Y:=by
 obtain⟨a,b,c,d,_⟩:=DJ (en:=Zb) (k:=0) (by omega) (fB) e (Gd.none s 1) (gD _);exact⟨a,d⟩
theorem Wp {s:Nat}(e:1<=s)(g:k+1<65536):Run (uP Zb) ⟨(k:Int)+1,k,-1,(ff s k).2⟩ ([(1,1)]++(xY (k+1) (ff s k).2).1) ⟨(k:Int)+1,(k:Int)+1,-1,(ff s (k+1)).2⟩/\uP Zb ⟨(k:Int)+1,(k:Int)+1,-1,(ff s (k+1)).2⟩=Y:=by
 obtain⟨a1,a2⟩:=I8 e k (by omega);obtain⟨a,b,c,d,_⟩:=DJ (en:=Zb) g a2 e a1 ((yU (by omega) e).next (yU g e));refine⟨Run.cons (m':=⟨((k+1:Nat):Int),((k+1:Nat):Int),-1,(ff s k).2⟩) ?_ ?_ a,d⟩
 .unfold uP;simp only;rw[Zg,Zg]
  congr 2
  omega
 .unfold LY;simp only[if_true];rw[Zg];rfl
theorem aa9 {s:Nat}(e:1<=s)(g:k<65536):uP Za ⟨k,k,-1,(ff s k).2⟩=O (5,0):=by
 cases k with
 |zero=>
  obtain⟨a,b,c,d,_⟩:=DJ (en:=Za) (k:=0) (by omega) (fB) e (Gd.none s 1) (gD _);exact d
 |succ k=>
  obtain⟨a1,a2⟩:=I8 e k (by omega);obtain⟨a,b,c,d,_⟩:=DJ (en:=Za) g a2 e a1 ((yU (by omega) e).next (yU g e));exact d
def cut (n:Nat)(t:Zd):Zd:=t.map λx=>if x<(n:Int)then x else-1
def frB (d:Nat)(t:Zd)(i:Nat):List (Int×Int):=if i % d=0 then [(4,(CJ t i:Int))]else []
def bkF (d:Nat)(t:Zd):Nat->List (Int×Int)
 |0=>[]
 |i+1=>(3,(CJ t ((i-i % d:Nat):Int):Int))::((if i % d≠0 then [(1,((i % d:Nat):Int))]else [])++(7,0)::(frB d t i++bkF d t i))
theorem Q4 {n:Nat}:(cut n t).length=t.length:=by unfold cut;rw[eD]
theorem Wx {n:Nat}(hi:i<t.length):(cut n t)[i]?=O (if t[i]<(n:Int)then t[i]else-1):=by
 unfold cut;rw[List.getElem?_map,bB hi];rfl
theorem Jg {n:Nat}(o:0<=x):x∈cut n t↔x∈t/\x<(n:Int):=by
 unfold cut;rw[List.mem_map];constructor
 .rintro⟨y,g,e⟩;by_cases h:y<(n:Int)
  .rw[zE h]at e;subst e;exact⟨g,h⟩
  .rw[zF h]at e;omega
 .rintro⟨g,h⟩;exact⟨x,g,zE h⟩
theorem Wy {n:Nat}(e:0<=x/\x<(n:Int)):CJ (cut n t) x=CJ t x:=by
 unfold CJ cut;rw[List.findIdx_map]
 congr 1
 funext y
 show Zc ((if y<(n:Int)then y else-1)=x)=Zc (y=x);by_cases h:y<(n:Int)
 .rw[zE h]
 .rw[zF h,Ze,Ze]
theorem ad6 (one: ∀i j (hi:i<t.length) (o:j<t.length),t[i]=t[j]->0<=t[i]->i=j)(q:(i:Int)∈t):(cut (i+1) t).set (CJ t i) (-1)=cut i t:=by
 obtain⟨p,e⟩:=GU q;generalize CJ t i=u at*;apply List.ext_getElem?;intro j;by_cases o:j<t.length
 .rw[Wx o,List.getElem?_set];by_cases g:u=j
  .subst g;rw[zE rfl,zE (by rw[Q4];exact p),Zh]
  .rw[zF g,Wx o];have z:t[j]≠(i:Int):=λh=>g (one u j p o (by rw[e,h]) (by omega))
   by_cases h:t[j]<(i:Int)
   .rw[zE h,Zg]
   .rw[zF h,Zh]
 .rw[iB (by rw[cD,Q4];omega),iB (by rw[Q4];omega)]
theorem ad5 (e:(i:Int)∉t):cut (i+1) t=cut i t:=by
 unfold cut;refine iE λx g=> ?_
 have:x≠(i:Int):=λh=>e (h▸g)
 by_cases h:x<(i:Int)
 .rw[zE h,Zg]
 .rw[zF h,Zh]
theorem WB (G:Gd (l+1) t d)(hi:i<=l)(B:1<=d):Run (uP en) ⟨l,i,i,cut (i+1) t⟩ (frB d t i) ⟨l,i,i,cut i t⟩:=by
 unfold frB;by_cases h:i % d=0
 .have o:=G.all i (by omega) h;have e:(i:Int)∈cut (i+1) t:=(Jg (by omega)).2 ⟨o,by omega⟩
  have z:rS (cut (i+1) t)=(i:Int):=KY (by omega) (λy A=>by
   by_cases q:0<=y
   .have:=((Jg q).1 A).2;omega
   .omega) (.inr e)
  have g:=Wy (n:=i+1) (t:=t) (x:=i) (by omega);obtain⟨u,p⟩:=Xm e;rw[g]at u p;rw[zE h];refine .one ?_ ?_
  .unfold uP;simp only[z,g];rw[Zh,Zg]
  .unfold LY;simp only[aB,if_false,if_true,aD];rw[dB,p];simp only[iA];rw[Zg,ad6 G.one o]
 .rw[zF h,ad5 λo=>by rcases G.ins _ o with h1|h1<;>omega];exact .nil _
theorem ac1 {l d:Nat}{t:Zd}{en:Bool}(K:l<65536)(G:Gd (l+1) t d)(B:1<=d): ∀i,i<=l->Run (uP en) ⟨l,i,i,cut i t⟩ (bkF d t i) ⟨l,0,0,cut 0 t⟩
 |0,_=> .nil _
 |i+1,hi=>by
  have C:=Nat.mod_lt i (show d > 0 by omega);have L:=Nat.mod_le i d
  have u:(i-i % d) % d=0:=by
   have:=cB i d;rw[show i-i % d=d*(i / d)by omega];exact Nat.mul_mod_right _ _
  generalize D:i % d=r at*;have M:=G.all (i-r) (by omega) u;have p:((i-r:Nat):Int)∈cut (i+1) t:=(Jg (by omega)).2 ⟨M,by omega⟩
  have z:rS (cut (i+1) t)=((i-r:Nat):Int):=KY (by omega) (λy Q=>by
   by_cases o:0<=y
   .obtain⟨E,S⟩:=(Jg o).1 Q;rcases G.ins y E with h3|h3
    .omega
    .obtain⟨y,rfl⟩:=Int.eq_ofNat_of_zero_le o;have F:y % d=0:=by have:=h3.2.2;omega
     have H:=cB i d;have I:=cB y d;rw[F]at I;rw[D]at H;have J:y / d<=i / d:=Nat.div_le_div_right (by omega);have U:d*(y / d)<=d*(i / d):=Nat.mul_le_mul_left _ J;omega
   .omega) (.inr p)
  have q:=Wy (n:=i+1) (t:=t) (x:=((i-r:Nat):Int)) (by omega);obtain⟨N,A⟩:=Xm p;rw[q]at N A;unfold bkF;rw[D]
  have g:Run (uP en) ⟨l,i,((i+1:Nat):Int),cut (i+1) t⟩ ((7,0)::(frB d t i++bkF d t i)) ⟨l,0,0,cut 0 t⟩:=by
   refine .cons (m':=⟨l,i,i,cut (i+1) t⟩) ?_ ?_ ((WB G (by omega) B).append (ac1 K G B i (by omega)))
   .unfold uP;simp only[z];rw[Zh,Zh,Zh,Zg]
   .unfold LY;simp only[aB,if_false,if_true,true_and];rw[Zg]
  refine .cons (m':=⟨l,((i-r:Nat):Int),((i+1:Nat):Int),cut (i+1) t⟩) ?_ ?_ ?_
  .unfold uP;simp only[z,q];rw[Zh,Zh,Zh,Zh,Zg]
  .unfold LY;simp only[aB,if_false,if_true,aD];rw[dB,A];simp only[iA];rw[Zg]
  .by_cases o:r≠0
   .rw[zE o];refine .cons (m':=⟨l,i,((i+1:Nat):Int),cut (i+1) t⟩) ?_ ?_ g
    .unfold uP;simp only[z];rw[Zh,Zh,Zh,Zh,Zh,Zg]
     congr 2
     omega
    .unfold LY;simp only[if_true];rw[Zg]
     congr 2
     omega
   .rw[zF o,List.nil_append];have e:((i-r:Nat):Int)=(i:Int):=by omega
    rw[e];exact g
def Pg (l:Nat)(t:Zd):List (Int×Int):=(5,0)::(frB (zT l t.length) t l++bkF (zT l t.length) t l)
theorem ab6 {s:Nat}(g:l<65536)(o:1<=s):Run (uP Za) ⟨l,l,-1,(ff s l).2⟩ (Pg l (ff s l).2) ⟨l,0,0,cut 0 (ff s l).2⟩/\uP Za ⟨l,0,0,cut 0 (ff s l).2⟩=Y:=by
 obtain⟨G,e⟩:=I8 o l g;have p:=(yU g o).pos;unfold Pg;rw[e];have z:=aa9 (s:=s) (k:=l) o g;generalize (ff s l).2=t at*
 have u:cut (l+1) t=t:=by
  unfold cut
  conv=>rhs;rw[<-List.map_id t]
  refine iE λx B=> ?_
  rcases G.ins x B with h|h
  .rw[Zg];rfl
  .rw[Zg];rfl
 refine⟨.cons (m':=⟨l,l,l,t⟩) z ?_ (Run.append (m':=⟨l,l,l,cut l t⟩) ?_ (ac1 g G p l (Nat.le_refl _))), ?_⟩
 .unfold LY;simp only[aB,if_false,if_true,true_and]
 .have:=WB (en:=Za) (i:=l) G (Nat.le_refl _) p;rw[u]at this;exact this
 .have A:rS (cut 0 t)= -1:=KY (by omega) (λy C=>by
   by_cases q:0<=y
   .have:=((Jg q).1 C).2;omega
   .omega) (.inl rfl)
  unfold uP;simp only[A];rw[Zh,Zh,zE trivial]
end
section
open List renaming length_append -> aB, length_cons -> aD, length_singleton -> bB
theorem al9 : ∀f,(∀n c k (h:List Bool) e,1<=n->n<=65536->(2<=n->1<=c)->(pt f Zb n c k h e).length+2<=5*n)/\∀n c k (h:List Bool) e,1<=n->n<=65536->1<=c->(pt f Za n c k h e).length+3<=5*n
 |0=>⟨λn c k h e p _ _=>by show 0+2<=_;omega,λn c k h e p _ _=>by show 0+3<=_;omega⟩
 |f+1=>by
  obtain⟨z,o⟩:=al9 f;refine⟨λn c k h e p u q=> ?_,λn c k h e p u q=> ?_⟩
  .unfold pt;by_cases g:n=1
   .rw[zE g];simp;omega
   .rw[zF g,aD];have:=o n c (h.findIdx λb=> !b) (h.set (h.findIdx λb=> !b) Za) e p u (q (by omega));omega
  .unfold pt;by_cases g:n<=1
   .rw[zE g];simp;omega
   .rw[zF g,aD,aB,aD];obtain⟨B,D,C,_⟩:=ao7 (n:=n) (c:=c) (by omega) q u
    have a:=z (n-spF n c) (c-1) 0 h e (by omega) (by omega) (λh=>by
     by_cases A:c=1
     .have:=C A;omega
     .omega)
    have b:=o (spF n c) c k h Zb B (by omega) q;omega
theorem WC (d:Nat)(t:Zd): ∀n,(SY d n t).1.length<=n
 |0=>Nat.le_refl _
 |n+1=>by
  have:=WC d t n;unfold SY;split
  .rw[aB,bB];omega
  .omega
theorem PC (k:Nat)(t:Zd):(xY k t).1.length<=k+1:=by
 have:=WC (zT k t.length) t k;unfold xY;split
 .rw[aB,bB];omega
 .omega
theorem MS (s:Nat): ∀k,(ff s k).1.length<=(k+1)*(k+2)
 |0=>by have:=PC 0 (List.replicate s (-1));show(xY 0 _).1.length<=_;omega
 |k+1=>by
  have e:=MS s k;have g:=PC (k+1) (ff s k).2;show((ff s k).1++[(1,1)]++(xY (k+1) (ff s k).2).1).length<=_;rw[aB,aB,bB]
  have:(k+1+1)*(k+1+2)=(k+1)*(k+2)+2*(k+2):=by
   rw[show(k+1+1)=k+2 by omega,show k+1+2=(k+1)+2 by omega,Nat.mul_add,Nat.mul_comm (k+2) (k+1),Nat.mul_comm (k+2) 2]
  omega
theorem Wr (d:Nat)(t:Zd): ∀i,(bkF d t i).length<=4*i
 |0=>Nat.le_refl _
 |i+1=>by
  have:=Wr d t i;unfold bkF frB;rw[aD,aB,aD,aB]
  repeat' split
  all_goals simp;omega
end
section
open List renaming getElem?_eq_none -> aB, length_cons -> aD
theorem TW {n:Int}(h:1<=n/\n<=65535):px 1 n=Za:=by
 unfold px;rw[Zh,Zh,zE rfl,Zf]
theorem DS {n:Int}(e:2<=a/\a<=4)(h:0<=n/\n<1048576):px a n=Za:=by
 unfold px;rw[Zh,Zh,Zh,zE e.2,zB h]
theorem DR {n:Int}(e:5<=a/\a<=9)(h:n=0):px a n=Za:=by
 unfold px;rw[Zh,Zh,Zh,Zh,zB h]
section
variable {c:Cx}
theorem DZ {W':Zd}(e:dz c W W'):rm c W'=rm c W:=by
 unfold rm;refine List.map_congr_left λk _=> ?_
 rw[e.tag]
theorem Ur (q:k<c.ns.toNat)(e:sp c k+w.length<=W.length)(p:w.length=c.X.length+1):rm c (put W (sp c k) w)=(rm c W).set k (w.getD 0 0-1):=by
 apply List.ext_getElem?;intro j;by_cases o:j<c.ns.toNat
 .rw[GZ o,List.getElem?_set];by_cases g:k=j
  .subst g;rw[zE rfl,zE (by rw[ul];exact q),A5 e p]
  .rw[zF g,GZ o,Mv e p (λh=>g h.symm)]
 .rw[aB (by rw[ul];omega),aB (by rw[List.length_set,ul];omega)]
theorem Bi (e:k<c.ns.toNat):(rm c W).getD k 0=mb c W k-1:=by
 rw[List.getD_eq_getElem?_getD,GZ e];rfl
theorem Mh (h:c.Ok)(A:c.mode≠3)(hi:Inv c s){a:Int×Int}(e:LY a (tL c s)=O m'):(Fp c a.1 a.2 s).1=0/\tL c (Fp c a.1 a.2 s).2=m':=by
 obtain⟨a,n⟩:=a;have u:=hi.w;have hL:=hi.L;have hp:=hi.p;have hq:=hi.q;have U:=h.ns;have J:(seg s.W (c.off 1) c.X.length).length=c.X.length:=dw (u.in' h (i:=1) (by omega));unfold LY tL at e;simp only[ul]at e;show(Fp c a n s).1=0/\tL c (Fp c a n s).2=m';by_cases B:a=1
 .subst B;rw[zE rfl]at e;by_cases g:1<=n/\n<=65535/\s.p+n<=s.L
  .rw[zE g]at e;injection e with e
   unfold Fp;rw[zF (by rw[TW (by omega)];simp),Zh,zE rfl,Zh];refine⟨rfl, ?_⟩;rw[<-e];unfold tL;simp only[DZ (Mk h u s.p n.toNat)]
  .rw[zF g]at e;cases e
 rw[zF B]at e;by_cases C:a=2
 .subst C;rw[zE rfl]at e;by_cases g:0<=n/\n<(c.ns.toNat:Int)/\(rm c s.W).getD n.toNat 0<0
  .rw[zE g]at e;injection e with e
   have o:n.toNat<c.ns.toNat:=by omega
   obtain⟨K,M,N⟩:=we h A o;obtain⟨Q,S⟩:=u.tk h;have z:=Bi (c:=c) (W:=s.W) o;unfold Fp;rw[zF (by rw[DS (by omega) (by omega)];simp),Zh,Zh,zE rfl,Zh];refine⟨rfl, ?_⟩;rw[<-e];unfold tL;simp only;rw[Ur o (by rw[aD];omega) (by rw[aD,J])]
   have V:(IntKind.u64.wrap (IntKind.i64.wrap (s.p+1))::seg s.W (c.off 1) c.X.length).getD 0 0=s.p+1:=by
    show IntKind.u64.wrap (IntKind.i64.wrap (s.p+1))=_;rw[Zi,Zj]
   rw[V,show s.p+1-1=s.p by omega]
  .rw[zF g]at e;cases e
 rw[zF C]at e;by_cases D:a=3
 .subst D;rw[zE rfl]at e;by_cases g:0<=n/\n<(c.ns.toNat:Int)/\0<=(rm c s.W).getD n.toNat 0
  .rw[zE g]at e;injection e with e
   have o:n.toNat<c.ns.toNat:=by omega
   obtain⟨K,M,N⟩:=we h A o;obtain⟨Q,S⟩:=u.tk h;have z:=Bi (c:=c) (W:=s.W) o;have Z:(seg s.W (sp c n.toNat+1) c.X.length).length=c.X.length:=dw (by omega);unfold Fp;rw[zF (by rw[DS (by omega) (by omega)];simp),Zh,Zh,Zh,zE rfl,Zh];refine⟨rfl, ?_⟩;rw[<-e];unfold tL;simp only;rw[DZ (dz.put h (dz.refl s.W) u (i:=1) (by omega) (by rw[Z];exact Nat.le_refl _)),z]
  .rw[zF g]at e;cases e
 rw[zF D]at e;by_cases E:a=4
 .subst E;rw[zE rfl]at e;by_cases g:0<=n/\n<(c.ns.toNat:Int)/\0<=(rm c s.W).getD n.toNat 0
  .rw[zE g]at e;injection e with e
   have o:n.toNat<c.ns.toNat:=by omega
   obtain⟨K,M,N⟩:=we h A o;obtain⟨Q,S⟩:=u.tk h;have z:=Bi (c:=c) (W:=s.W) o;unfold Fp;rw[zF (by rw[DS (by omega) (by omega)];simp),Zh,Zh,Zh,Zh,zE rfl,Zh];refine⟨rfl, ?_⟩;rw[<-e];unfold tL;simp only;rw[Ur o (by rw[cg];omega) (cg _)];rfl
  .rw[zF g]at e;cases e
 rw[zF E]at e;by_cases F:a=5
 .subst F;rw[zE rfl]at e;by_cases g:n=0/\s.q= -1/\s.p=s.L
  .rw[zE g]at e;injection e with e
   unfold Fp;rw[zF (by rw[DR (by omega) g.1];simp),Zh,Zh,Zh,Zh,Zh,zE rfl,Zh,Zh];refine⟨rfl, ?_⟩;rw[<-e];unfold tL;simp only[DZ (Jq h u J)]
  .rw[zF g]at e;cases e
 rw[zF F]at e;by_cases H:a=6
 .subst H;rw[zE rfl]at e;by_cases g:n=0/\s.q= -1/\s.p=s.L-1
  .rw[zE g]at e;injection e with e
   unfold Fp;rw[zF (by rw[DR (by omega) g.1];simp),Zh,Zh,Zh,Zh,Zh,Zh,zE rfl,Zh,Zh];refine⟨rfl, ?_⟩;rw[<-e];unfold tL;simp only[DZ (Jp h u s.p).1]
  .rw[zF g]at e;cases e
 rw[zF H]at e;by_cases I:a=7
 .subst I;rw[zE rfl]at e;by_cases g:n=0/\0<s.q/\s.p=s.q-1
  .rw[zE g]at e;injection e with e
   unfold Fp;rw[zF (by rw[DR (by omega) g.1];simp),Zh,Zh,Zh,Zh,Zh,Zh,Zh,Zh,Zh];refine⟨rfl, ?_⟩;rw[<-e];unfold tL;simp only[DZ (Ml h u s.p).1]
  .rw[zF g]at e;cases e
 rw[zF I]at e;cases e
theorem me {α β:Type}{x:Option α}{a:α}{f:α->Option β}{r:Option β}(h:x=O a)(e:f a=r):x.bind f=r:=by rw[h];exact e
end
end
section
open List renaming replicate -> aB, eq_of_mem_replicate -> aD, getElem?_eq_none -> bB
section
variable {a0:Int} {a1 a2:Zd} {a3:Int} {a4:List bg} {a5:Int} {a6:List bg} {a7 a8 a9:Int}
theorem SW {R:Int}{l:List bg}(h:4096<l.length)(e:l.length<=3518437208780):fp R l=O 6:=by
 unfold fp;obtain⟨m,g⟩:=ER e;rw[g];simp only[zG,BN];rw[Zf,zC];rfl
theorem al4 (e:a4.length<=3518437208780)(g:a6.length<=3518437208780)(h:4096<a4.length∨4096<a6.length):uq a3 a4 a5 a6=O 6:=by
 unfold uq;by_cases c:4096<a4.length
 .rw[SW c e];rfl
 .rw[EJ (by omega),SW (by omega) g];simp only[zG];split<;>rfl
theorem XW (p:a4.length<=3518437208780)(q:a6.length<=3518437208780)(h:4096<a4.length∨4096<a6.length): ∃e,e≠0/\qd a0 a1 a2 a3 a4 a5 a6 a7 a8=O e:=by
 have g:gz a0 a1 a2 a3 a4 a5 a6 a7 a8 0=O (if hk0 a0≠0 then .inr (.inl (hk0 a0))else .inl 1):=by
  show((kc a0 a1 a2 a3 a4 a5 a6 a7 a8).bind λr=>cond (Zc (r≠0)) _ _)=_;rw[af1];simp only[zG,ak];split<;>rfl
 have o:gz a0 a1 a2 a3 a4 a5 a6 a7 a8 1=O (.inr (.inl 6)):=by
  show((ej a0 a1 a2 a3 a4 a5 a6 a7 a8).bind λr=>cond (Zc (r≠0)) _ _)=_;unfold ej;rw[al4 p q h];rfl
 unfold qd;have u:gv=18446744073709551614+1+1:=rfl;rw[u,da,g];simp only[zG];by_cases c:hk0 a0≠0
 .rw[zE c];exact⟨_,c,rfl⟩
 .rw[zF c];simp only[bz];rw[da,o];exact⟨6,by omega,rfl⟩
theorem ah5 (o:a4.length<=3518437208780)(p:a6.length<=3518437208780)(h:4096<a4.length∨4096<a6.length): ∃r,r.2.2.2.2≠0/\pV a0 a1 a2 a3 a4 a5 a6 a7 a8=O r:=by
 obtain⟨e,g,q⟩:=XW (a0:=a0) (a1:=a1) (a2:=a2) (a3:=a3) (a5:=a5) (a7:=a7) (a8:=a8) o p h;refine⟨(0,0,0,0,e),g, ?_⟩;unfold pV;rw[q];simp only[zG];rw[zB g,zC]
theorem aE8 (e: ∀o∈a4,NR o)(g: ∀o∈a6,NR o): ∃b,rc a0 a1 a2 a3 a4 a5 a6 a7 a8=O b/\(b=Za->a7<=40∨65535<a7):=by
 rcases aE7 (a0:=a0) (a1:=a1) (a2:=a2) (a3:=a3) (a5:=a5) (a7:=a7) (a8:=a8) e g with h|⟨h,_⟩
 .exact⟨Zb,h,λk=>by cases k⟩
 .refine⟨Za,h,λ_=> ?_⟩;by_cases c1:a7<=40
  .exact .inl c1
  by_cases c2:65535<a7
  .exact .inr c2
  exfalso;unfold rc at h;obtain⟨r,z,h⟩:=ag h;cases r with
  |false=>cases h
  |true=>
   rw[Bool.not_true,zD]at h;obtain⟨q,u,h⟩:=ag h;rw[zA c1,zA c2]at h;cases p:Zc (IntKind.i64.wrap (q.1+q.2)<=300)<;>rw[p]at h<;>cases h
end
section
variable {c:Cx}
theorem Vx (h:c.Ok)(g:c.mode≠3)(e:pm c.mode c.X.length c.T.length c.R c.l c.Q c.k c.len c.words=(c.fixed,c.tp,c.sl,c.ns,0)):1<=c.ns:=by
 have n:=h.num;have o:=n.sl;rw[zF g]at o;unfold pm at e;rw[zF (by rw[h.hc];simp)]at e;by_cases c1:c.words<xM c.X.length c.T.length c.R c.Q+tK c.mode c.l c.k+least c.mode c.len*rY c.mode c.X.length c.R c.l
 .rw[zE c1]at e;injection e with _ e
  injection e with _ e
  injection e with _ e
  injection e with _ e
  cases e
 .rw[zF c1,zF g]at e;injection e with _ e
  injection e with _ e
  injection e with _ e
  injection e with e _
  unfold least at c1;rw[zF g]at c1;have p:rY c.mode c.X.length c.R c.l=c.sl:=h.sl.symm;rw[p]at e c1;rw[<-e];exact(Int.le_ediv_iff_mul_le (by omega)).2 (by omega)
theorem ap4 (h:c.Ok)(g:c.mode≠3):rm c (new2 c).W=aB c.ns.toNat (-1):=by
 apply List.ext_getElem?;intro k;by_cases e:k<c.ns.toNat
 .rw[GZ e,Jv h g e,List.getElem?_replicate,zE e];rfl
 .rw[bB (by rw[ul];omega),bB (by rw[List.length_replicate];omega)]
theorem ah7 (h:c.Ok)(e:c.mode≠3):tL c (new2 c)=⟨c.len,0,-1,aB c.ns.toNat (-1)⟩:=by
 unfold tL;rw[ap4 h e];rfl
theorem ax8 (s:Nat):hld (aB s (-1))=aB s Zb:=by
 unfold hld;rw[List.map_replicate];rfl
theorem aE0 {s:Nat}(z:l<=400)(u:1<=s): ∃m',Run DO ⟨l,0,-1,aB s (-1)⟩ (if l=0 then [(5,0)]else pt (2*l) Zb l s 0 (aB s Zb) Za) m'/\DO m'=Y/\m'.q=0/\(if l=0 then [((5:Int),(0:Int))]else pt (2*l) Zb l s 0 (aB s Zb) Za).length<=2000:=by
 have g:rS (aB s (-1))= -1:=KY (by omega) (λy o=>by rw[aD o];exact Int.le_refl _) (.inl rfl)
 have e: ∀L:Int,DO ⟨L,0,0,aB s (-1)⟩=Y:=λL=>by
  unfold DO;simp only[g];rw[zF (show¬(0:Int)<0 by omega),Zh,zE trivial]
 by_cases p:l=0
 .subst p;rw[zE rfl];refine⟨⟨0,0,0,aB s (-1)⟩, .one ?_ ?_,e 0,rfl,by simp⟩
  .unfold DO;simp only[g];rw[zE (show(-1:Int)<0 by omega),Zh,Zh,Zg]
  .unfold LY;simp only[Int.reduceEq,if_false,if_true,true_and];rfl
 .rw[zF p];refine⟨⟨l,0,0,aB s (-1)⟩, ?_,e l,rfl,by have:=(al9 (2*l)).1 l s 0 (aB s Zb) Za (by omega) (by omega) (λ_=>u);omega⟩;have:=(an6 (2*l)).1 l s 0 (aB s (-1)) Za l (-1) 0 (Nat.le_refl _) ⟨by omega,by omega,by rw[Zg];omega,λ_=>rfl,(λh=>by cases h),by omega⟩ (λy o=>by rw[aD o];omega) (λy o=>by rw[aD o];omega) (by unfold Fs;rw[List.countP_replicate];simp) (λ_=>u);rw[ax8]at this;exact this
theorem aW6 (h:c.Ok)(g:c.mode=1)(e:pm c.mode c.X.length c.T.length c.R c.l c.Q c.k c.len c.words=(c.fixed,c.tp,c.sl,c.ns,0)):pu c.mode c.X c.T c.R c.l c.Q c.k c.len c.words=O (.inr (.inr (.inl (c.mode,Zb,Zb,c.fixed,c.tp,c.sl,c.ns,c.mode,c.R,c.Q,c.len,c.words,c.len,c.X,c.T,c.l,c.k,c.P,c.tk,(c.off 8:Int),c.ns,(c.X.length:Int),c.fixed,c.fixed,c.words,(new2 c).W)))):=by
 unfold pu;refine me (aV2 h (by omega) e) ?_
 refine me (show ta _ _ _ _ _ _ _ _ _ _ _ _ _ _ _ _ _ _ _ _ _ _ _ _ _ _ _ _ _ _ _ _ _ _ _ _ _ _ _=O (.inl (c.mode,Zb,Zb))from by
  unfold ta;rw[show ix c.mode 4=O 1 from by rw[g];rfl]
  rfl) ?_
 rfl
theorem aW7 (h:c.Ok)(g:c.mode=2)(e:pm c.mode c.X.length c.T.length c.R c.l c.Q c.k c.len c.words=(c.fixed,c.tp,c.sl,c.ns,0)):pu c.mode c.X c.T c.R c.l c.Q c.k c.len c.words=O (.inr (.inr (.inr (c.mode,Zb,Zb,c.fixed,c.tp,c.sl,c.ns,c.mode,c.R,c.Q,c.len,c.words,c.len,c.X,c.T,c.l,c.k,c.P,c.tk,(c.off 8:Int),c.ns,(c.X.length:Int),c.fixed,c.fixed,c.words,(new2 c).W)))):=by
 unfold pu;refine me (aV2 h (by omega) e) ?_
 refine me (show ta _ _ _ _ _ _ _ _ _ _ _ _ _ _ _ _ _ _ _ _ _ _ _ _ _ _ _ _ _ _ _ _ _ _ _ _ _ _ _=O (.inr (c.mode,Zb,Zb))from by
  unfold ta;rw[show ix c.mode 4=O 2 from by rw[g];rfl]
  rfl) ?_
 rfl
theorem MT {s:Nat}(e:1<=s)(g:k<65536):uP Zb ⟨k,k,-1,(ff s k).2⟩=Y:=by
 cases k with
 |zero=>exact(Wo e).2
 |succ k=>exact(Wp e g).2
end
end
section
open List renaming length_cons -> aB
def qX (c:Cx)(i:Nat):Zd:=IK c 0 c.X i
def uA (c:Cx)(L:Nat):Nat->Zd×Zd
 |0=>((zO c (qX c L)).take c.X.length,BJ c.X.length (cq c.T.length) (zO c (qX c L)))
 |k+1=>((ve c ((L-(k+1):Nat):Int) (qX c (L-(k+1))) (uA c L k).1).take c.X.length,BJ c.X.length (uA c L k).2 (ve c ((L-(k+1):Nat):Int) (qX c (L-(k+1))) (uA c L k).1))
section
variable {c:Cx} (h:c.Ok) (wT:ck c.T) (wX:ck c.X)
theorem GV (i:Nat):qX c (i+1)=ya c (i:Int) (qX c i):=by
 show ya c (0+(i:Int)) _=_;rw[Int.zero_add];rfl
theorem Xp (i:Nat): ∀k,IK c (i:Int) (qX c i) k=qX c (i+k)
 |0=>rfl
 |k+1=>by
  show ya c ((i:Int)+(k:Int)) (IK c (i:Int) (qX c i) k)=_;rw[Xp i k,<-Nat.add_assoc,GV]
  congr 1
def at7 (c:Cx)(s:Dy):Zd×Zd:=uA c s.L.toNat (s.L-s.q).toNat
structure Jn (c:Cx)(s:Dy)(ax at':Zd):Prop where
 has:Has c s.W (qX c s.p.toNat) ax at'
 ini:s.q<0->at'=cq c.T.length
 adj:0<=s.q->(ax,at')=at7 c s/\s.z=lossV c (qX c s.L.toNat)
def Sls (c:Cx)(s:Dy):Prop:= ∀k,k<c.ns.toNat->0<mb c s.W k->seg s.W (sp c k+1) c.X.length=qX c (mb c s.W k-1).toNat
include h wT wX
theorem wh (i:Nat):(qX c i).length=c.X.length/\ck (qX c i):=E5 h wT rfl wX i
omit wT wX in
theorem Sls.kept (S:Sls c s)(e:dz c s.W s'.W):Sls c s':=λk o g=>by
 rw[e.tag]at g⊢;rw[e.seg (by unfold sp;omega)];exact S k o g
omit wT wX in
theorem Sls.put (z:c.mode≠3)(S:Sls c s)(C:Wd c s.W)(D:k<c.ns.toNat){x:Zd}(F:x.length=c.X.length)(e:s'.W=put s.W (sp c k) (v::x))(E:0<v->x=qX c (v-1).toNat):Sls c s':=λj u p=>by
 obtain⟨H,I,J⟩:=we h z D;obtain⟨K,_,_⟩:=we h z u;obtain⟨L,M⟩:=C.tk h;have q:(v::x).length=c.X.length+1:=by rw[aB,F]
 have g:sp c k+(v::x).length<=s.W.length:=by rw[q];omega
 rw[e]at p⊢;by_cases o:j=k
 .subst o;rw[A5 g q]at p⊢;have p:0<v:=p
  have A:seg (Go.V.put s.W (sp c j) (v::x)) (sp c j+1) c.X.length=x:=by
   have:=II (n:=(v::x).length) g (Nat.le_refl _);rw[List.take_length,q]at this
   have B:seg (Go.V.put s.W (sp c j) (v::x)) (sp c j+1) c.X.length=(seg (Go.V.put s.W (sp c j) (v::x)) (sp c j) (c.X.length+1)).drop 1:=by
    unfold seg;rw[List.drop_take,List.drop_drop];rfl
   rw[B,this];rfl
  rw[A];exact E p
 .rw[Mv g q (Ne.symm (Ne.symm o))]at p⊢
  rw[sR g (by
   rw[q];rcases Nat.lt_or_gt_of_ne o with h1|h1
   .have:=Xn (c:=c) h1;omega
   .have:=Xn (c:=c) h1
    omega)]
  exact S j u p
omit h wT wX in
theorem MR {L q:Int}(u:0<q)(p:q<=L):uA c L.toNat (L-(q-1)).toNat=((ve c (q-1) (qX c (q-1).toNat) (uA c L.toNat (L-q).toNat).1).take c.X.length,BJ c.X.length (uA c L.toNat (L-q).toNat).2 (ve c (q-1) (qX c (q-1).toNat) (uA c L.toNat (L-q).toNat).1)):=by
 have e:(L-(q-1)).toNat=(L-q).toNat+1:=by omega
 have g:L.toNat-((L-q).toNat+1)=(q-1).toNat:=by omega
 have o:(((q-1).toNat:Nat):Int)=q-1:=by omega
 rw[e];show(_,_)=_;rw[g,o]
omit wT wX in
theorem Has.put8' (H:Has c W st ax at'){o:Nat}(u:c.off 8<=o)(g:o+w.length<=c.off 9)(p:ck w):Has c (Go.V.put W o w) st ax at':=by
 have q:=H.wd.tk h;have z:=ai9 (c:=c) (i:=7) (j:=8) (by omega);have e:o+w.length<=W.length:=by omega
 have a1:=i7 (c:=c) (i:=1) (j:=7) (by omega);have a5:=i7 (c:=c) (i:=5) (j:=7) (by omega);have a6:=i7 (c:=c) (i:=6) (j:=7) (by omega);have a0:=i7 (c:=c) (i:=0) (j:=7) (by omega);refine⟨H.wd.put h g,H.w.put p _, ?_, ?_, ?_, ?_⟩
 .rw[sR e (.inl (show 0+c.T.length<=o by have:c.off 0+c.sz 0=0+c.T.length:=rfl;omega))];exact H.t
 .rw[sR e (.inl (show c.off 1+c.X.length<=o by have:c.sz 1=c.X.length:=rfl;omega))];exact H.s
 .rw[sR e (.inl (show c.off 5+c.X.length<=o by have:c.sz 5=c.X.length:=rfl;omega))];exact H.x
 .rw[sR e (.inl (show c.off 6+c.T.length<=o by have:c.sz 6=c.T.length:=rfl;omega))];exact H.a
theorem aX6 (C:c.mode≠3)(hi:Inv c s)(J:Jn c s ax at')(S:Sls c s){a:Int×Int}(e:LY a (tL c s)=O m'): ∃B u,Jn c (Fp c a.1 a.2 s).2 B u/\Sls c (Fp c a.1 a.2 s).2:=by
 obtain⟨a,n⟩:=a;have A:=hi.w;have hL:=hi.L;have hp:=hi.p;have hq:=hi.q;have hns:=h.ns;have H:=J.has;obtain⟨M,N⟩:=wh h wT wX s.p.toNat;have F:(seg s.W (c.off 1) c.X.length).length=c.X.length:=dw (A.in' h (i:=1) (by omega));unfold LY tL at e;simp only[ul]at e;show∃B u,Jn c (Fp c a n s).2 B u/\Sls c (Fp c a n s).2
 by_cases Q:a=1
 .subst Q;rw[zE rfl]at e;by_cases g:1<=n/\n<=65535/\s.p+n<=s.L
  .unfold Fp;rw[zF (by rw[TW (by omega)];simp),Zh,zE rfl,Zh];refine⟨ax,at',⟨?_,J.ini,J.adj⟩,S.kept h (Mk h A s.p n.toNat)⟩;have:=H.advW h wT s.p n.toNat;have I:=Xp (c:=c) s.p.toNat n.toNat;rw[show((s.p.toNat:Nat):Int)=s.p by omega]at I;rw[I]at this;show Has c (advW c s.W s.p n.toNat) (qX c (s.p+n).toNat) ax at';rw[show(s.p+n).toNat=s.p.toNat+n.toNat by omega];exact this
  .rw[zF g]at e;cases e
 rw[zF Q]at e;by_cases U:a=2
 .subst U;rw[zE rfl]at e;by_cases g:0<=n/\n<(c.ns.toNat:Int)/\(rm c s.W).getD n.toNat 0<0
  .have z:n.toNat<c.ns.toNat:=by omega
   obtain⟨D,s2,s3⟩:=we h C z;have hg:=Bi (c:=c) (W:=s.W) z;unfold Fp;rw[zF (by rw[DS (by omega) (by omega)];simp),Zh,Zh,zE rfl,Zh];have hv:IntKind.u64.wrap (IntKind.i64.wrap (s.p+1))=s.p+1:=by rw[Zi,Zj]
   refine⟨ax,at',⟨?_,J.ini,J.adj⟩, ?_⟩
   .refine H.put8' h (by unfold sp;omega) (by rw[aB,F];exact D) ?_;intro v hv';rcases List.mem_cons.1 hv' with rfl|hv'
    .exact RX _
    .exact H.w.seg _ _ v hv'
   .refine S.put h C A z F rfl λ_=> ?_
    rw[hv,H.s]
    congr 1
    omega
  .rw[zF g]at e;cases e
 rw[zF U]at e;by_cases V:a=3
 .subst V;rw[zE rfl]at e;by_cases g:0<=n/\n<(c.ns.toNat:Int)/\0<=(rm c s.W).getD n.toNat 0
  .have z:n.toNat<c.ns.toNat:=by omega
   obtain⟨D,s2,s3⟩:=we h C z;obtain⟨t1,t2⟩:=A.tk h;have hg:=Bi (c:=c) (W:=s.W) z;have l2:(seg s.W (sp c n.toNat+1) c.X.length).length=c.X.length:=dw (by omega);unfold Fp;rw[zF (by rw[DS (by omega) (by omega)];simp),Zh,Zh,Zh,zE rfl,Zh];refine⟨ax,at',⟨?_,J.ini,J.adj⟩,S.kept h (dz.put h (dz.refl s.W) A (i:=1) (by omega) (by rw[l2];exact Nat.le_refl _))⟩;have hs:=S n.toNat z (by omega);have:=H.put1 h l2 (H.w.seg _ _);rw[hs]at this⊢;exact this
  .rw[zF g]at e;cases e
 rw[zF V]at e;by_cases Z:a=4
 .subst Z;rw[zE rfl]at e;by_cases g:0<=n/\n<(c.ns.toNat:Int)/\0<=(rm c s.W).getD n.toNat 0
  .have z:n.toNat<c.ns.toNat:=by omega
   obtain⟨D,s2,s3⟩:=we h C z;have hg:=Bi (c:=c) (W:=s.W) z;unfold Fp;rw[zF (by rw[DS (by omega) (by omega)];simp),Zh,Zh,Zh,Zh,zE rfl,Zh];refine⟨ax,at',⟨?_,J.ini,J.adj⟩, ?_⟩
   .exact H.put8' h (by unfold sp;omega) (by rw[cg];exact D) (ck.rep _)
   .exact S.put h C A z (cg _) (show _=put s.W (sp c n.toNat) (0::cq c.X.length)from rfl) λo=>by omega
  .rw[zF g]at e;cases e
 rw[zF Z]at e;by_cases h5:a=5
 .subst h5;rw[zE rfl]at e;by_cases g:n=0/\s.q= -1/\s.p=s.L
  .unfold Fp;rw[zF (by rw[DR (by omega) g.1];simp),Zh,Zh,Zh,Zh,Zh,zE rfl,Zh,Zh];have H2:=H.endd h wT M N;have E:=J.ini (by omega);refine⟨(zO c (qX c s.p.toNat)).take c.X.length,BJ c.X.length at' (zO c (qX c s.p.toNat)),⟨?_,λo=> ?_,λo=>⟨?_, ?_⟩⟩,S.kept h (Jq h A F)⟩
   .show Has c (Kp c s.W (seg s.W (c.off 1) c.X.length)) (qX c s.p.toNat) _ _;rw[H.s];exact H2
   .exfalso;have o:s.p<0:=o;omega
   .show _=uA c s.L.toNat (s.L-s.p).toNat;rw[show(s.L-s.p).toNat=0 by omega,E,g.2.2];rfl
   .show rg (lossR c s.W (seg s.W (c.off 1) c.X.length)).1 0=_;rw[H.s,H.lossV h wT,g.2.2]
  .rw[zF g]at e;cases e
 rw[zF h5]at e;by_cases h6:a=6
 .subst h6;rw[zE rfl]at e;by_cases g:n=0/\s.q= -1/\s.p=s.L-1
  .unfold Fp;rw[zF (by rw[DR (by omega) g.1];simp),Zh,Zh,Zh,Zh,Zh,Zh,zE rfl,Zh,Zh];have H2:=H.both h wT s.p;have E:=J.ini (by omega)
   have K:ya c s.p (qX c s.p.toNat)=qX c s.L.toNat:=by
    have:=GV (c:=c) s.p.toNat;rw[show((s.p.toNat:Nat):Int)=s.p by omega,show s.p.toNat+1=s.L.toNat by omega]at this;exact this.symm
   rw[K]at H2;refine⟨_,_,⟨H2,λo=> ?_,λo=>⟨?_, ?_⟩⟩,S.kept h (Jp h A s.p).1⟩
   .exfalso;have o:s.p<0:=o;omega
   .show _=uA c s.L.toNat (s.L-s.p).toNat;have:=MR (c:=c) (L:=s.L) (q:=s.L) (by omega) (Int.le_refl _);rw[g.2.2,this,show(s.L-s.L).toNat=0 by omega,E];rfl
   .show rg (lossR c (put s.W (c.off 2) (stepR c s.W s.p).1) ((stepR c s.W s.p).1.take c.X.length)).1 0=_;have H3:=H.taped h wT s.p;rw[H3.lossV h wT,H.stepR h,(B1 h wT (t:=s.p) M N).2.2.2.2,K]
  .rw[zF g]at e;cases e
 rw[zF h6]at e;by_cases h7:a=7
 .subst h7;rw[zE rfl]at e;by_cases g:n=0/\0<s.q/\s.p=s.q-1
  .unfold Fp;rw[zF (by rw[DR (by omega) g.1];simp),Zh,Zh,Zh,Zh,Zh,Zh,Zh,Zh,Zh];have H2:=H.rev h wT s.p;obtain⟨i1,i2⟩:=J.adj (by omega);unfold at7 at i1;refine⟨_,_,⟨H2,λo=> ?_,λo=>⟨?_,i2⟩⟩,S.kept h (Ml h A s.p).1⟩
   .exfalso;have o:s.p<0:=o;omega
   .show _=uA c s.L.toNat (s.L-s.p).toNat;have:=MR (c:=c) (L:=s.L) (q:=s.q) (by omega) (by omega);rw[g.2.2,this,<-i1]
  .rw[zF g]at e;cases e
 rw[zF h7]at e;cases e
omit wX in
theorem aP9 (J:Jn c s ax at')(g:s.q=0)(p:0<=s.L):ID c s=(lossV c (qX c s.L.toNat),0,(uA c s.L.toNat s.L.toNat).1,(uA c s.L.toNat s.L.toNat).2):=by
 obtain⟨e,o⟩:=J.adj (by omega);unfold at7 at e;rw[g,Int.sub_zero]at e;unfold ID;rw[Zh,o,J.has.x,J.has.a,<-e]
end
end
section
open Int renaming toNat_natCast -> bB
open List renaming length_append -> aB, length_singleton -> aD, getD_eq_getElem?_getD -> bD
theorem KO {l:Zd}(h:j≠i):rg (l.set j v) (i:Int)=rg l (i:Int):=by
 unfold rg;rw[bB,bD,bD,List.getElem?_set_ne h]
theorem GM {l:Zd}(h:j<l.length):rg (l.set j v) (j:Int)=v:=by
 unfold rg;rw[bB,bD,List.getElem?_set_self h];rfl
theorem Pm (t:Zd): ∀(l:List bg) (r a e:Zd) (n:Nat),(EH (tx t) l (r,a,n)).1=(EH (tx t) l (r,e,n)).1/\(EH (tx t) l (r,a,n)).2.2=(EH (tx t) l (r,e,n)).2.2
 |[],_,_,_,_=>⟨rfl,rfl⟩
 |o::l,r,a,e,n=>by
  obtain⟨p,g⟩:=Pm t l r a e n;refine⟨?_, ?_⟩
  .show(EH (tx t) l (r,a,n)).1.set o.2.1.toNat (rg t (((EH (tx t) l (r,a,n)).2.2-1:Nat):Int))=_;rw[p,g];rfl
  .show(EH (tx t) l (r,a,n)).2.2-1=_;rw[g];rfl
theorem ac7 (t:Zd)(l:List bg)(r a e:Zd)(n:Nat):(EH (tx t) l (r,a,n)).1=(EH (tx t) l (r,e,n)).1:=(Pm t l r a e n).1
theorem aZ9 {a:Zd}: ∀(n:Nat) (l:List bg),l.length=n->∀(r g t:Zd),(∀o∈l,OB r.length o)->l.length<=g.length->(∀i,i<l.length->rg t (i:Int)=rg (FJ vh l (r,g,0)).2.1 (i:Int))->(EH (tx t) l ((FJ vh l (r,g,0)).1,a,l.length)).1=r
 |0,l,A,r,g,t,_,_,_=>by
  have:=List.length_eq_zero_iff.1 A;subst this;rfl
 |n+1,l,A,r,g,t,L,Q,C=>by
  obtain⟨e,o,rfl⟩: ∃e o,l=e++[o]:=⟨l.take n,l[n]'(by omega),by
   rw[<-List.take_succ_eq_append_getElem (by omega),List.take_of_length_le (by omega)]⟩
  rw[aB,aD]at A Q;have B:e.length=n:=by omega
  obtain⟨H,I,q⟩:=S6 e (r,g,0);rw[QV];have S:FJ vh (e++[o]) (r,g,0)=vh o (FJ vh e (r,g,0)):=by rw[Rh];rfl
  rw[S]at C⊢;have Z:=aZ9 (a:=a) n e B r g t (λx V=>L x (by simp[V])) (by omega);have u: ∀F,(EH (tx t) e ((FJ vh e (r,g,0)).1,F,e.length)).1=(EH (tx t) e ((FJ vh e (r,g,0)).1,a,e.length)).1:=λF=>ac7 t e _ _ _ _
  have z:=L o (by simp);generalize FJ vh e (r,g,0)=s at*;have H:s.1.length=r.length:=H;have I:s.2.1.length=g.length:=I;have q:s.2.2=e.length:=by rw[q];simp
  obtain⟨kd,ka,kb,M,q2,q3,g1,g2,g3⟩:=vw z;have U:=C e.length (by rw[aB,aD];omega)
  have D: ∀i,i<e.length->rg t (i:Int)=rg s.2.1 (i:Int):=λi hi=>by
   rw[C i (by rw[aB,aD];omega)];show rg (s.2.1.set s.2.2 (rg s.1 o.2.1)) (i:Int)=_;exact KO (by omega)
  have E:rg t ((e.length:Nat):Int)=rg s.1 (kd:Int):=by
   rw[U];show rg (s.2.1.set s.2.2 (rg s.1 o.2.1)) ((e.length:Nat):Int)=_;rw[q,M];exact GM (by omega)
  have p:(EH (tx t) [o] ((vh o s).1,a,(e++[o]).length)).1=s.1/\(EH (tx t) [o] ((vh o s).1,a,(e++[o]).length)).2.2=e.length:=by
   rw[aB,aD];refine⟨?_,by show e.length+1-1=_;omega⟩;show((s.1.set o.2.1.toNat _).set o.2.1.toNat (rg t ((e.length+1-1:Nat):Int)))=s.1;rw[M,bB,List.set_set,Nat.add_sub_cancel,E,IJ (by omega)]
  generalize hb:EH (tx t) [o] ((vh o s).1,a,(e++[o]).length)=b at*;obtain⟨b1,N,b3⟩:=b;obtain⟨J,K⟩:=p;simp only at J K;subst J K;rw[u N];exact Z D
section
variable {c:Cx} (h:c.Ok) (wT:ck c.T) (wX:ck c.X)
def Kps (c:Cx)(s:Dy):Prop:= ∀i:Nat,(i:Int)<sX s->CH c s.W i=(oc c (i:Int) (qX c i)).1/\zU c s.W i=(oc c (i:Int) (qX c i)).2.1
include h
theorem Kps.kept (K:Kps c s)(e:dz c s.W s'.W)(g:sX s'<=sX s):Kps c s':=λi hi=>by
 unfold CH zU;rw[e.seg (by unfold ob;omega),e.seg (by unfold ob;omega)];exact K i (by omega)
include wT wX
theorem UW (J:c.mode=3)(hi:InvB c s)(K:Kps c s)(L:0<s.q):(AE c s.W (s.q-1).toNat).1.take c.X.length=qX c (s.q-1).toNat/\True:=by
 refine⟨?_,trivial⟩;obtain⟨⟨M,N⟩,F,E,x1,x2,Q⟩:=h.lens;obtain⟨B,C⟩:=K (s.q-1).toNat (by unfold sX;rw[Zh];omega);generalize (s.q-1).toNat=i at*;obtain⟨g,D⟩:=wh h wT wX i;have H:=BL (c:=c) (i:Int) g;have p:=h.pl.ulen;have z:=h.pl.goodU;unfold AE;rw[B,C];have e:(fill c.R (xL c (i:Int) (qX c i))).length=c.R.toNat:=ja (by omega);have:=aZ9 (a:=fill c.R (seg s.W (c.off 5) c.X.length)) c.fl.n c.fl.unroll p.1 (fill c.R (xL c (i:Int) (qX c i))) (cq c.fl.n) (oc c (i:Int) (qX c i)).2.1 (λo A=>by rw[e];exact(z o A).1) (by rw[cg];omega) (λj I=>rfl);rw[p.1]at this;show((EH (tx (oc c (i:Int) (qX c i)).2.1) c.fl.unroll ((oc c (i:Int) (qX c i)).1,fill c.R (seg s.W (c.off 5) c.X.length),c.fl.n)).1).take c.X.length=_;have u:(oc c (i:Int) (qX c i)).1=(FJ vh c.fl.unroll (fill c.R (xL c (i:Int) (qX c i)),cq c.fl.n,0)).1:=rfl;rw[u,this];unfold fill xL;rw[List.append_assoc,List.take_left' g]
theorem aX7 (hm:c.mode=3)(hi:InvB c s)(J:Jn c s ax at')(K:Kps c s)(a n:Int): ∃N A,Jn c (HA c a n s).2 N A/\Kps c (HA c a n s).2:=by
 have C:=hi.w;have hp:=hi.p;have hq:=hi.q;have hLc:=hi.L;have nm:=h.num;have hns:=h.ns;have hb:=h.base hm;have H:=J.has;obtain⟨U,V⟩:=wh h wT wX s.p.toNat;have E:((s.p.toNat:Nat):Int)=s.p:=by omega
 have l1:(seg s.W (c.off 1) c.X.length).length=c.X.length:=dw (C.in' h (i:=1) (by omega));unfold HA;by_cases h8:a=8
 .rw[zE h8];by_cases c1:n≠0
  .rw[zE c1];exact⟨ax,at',J,K⟩
  rw[zF c1];by_cases c2:0<=s.q
  .rw[zE c2];exact⟨ax,at',J,K⟩
  rw[zF c2];by_cases c3:s.p=s.L
  .rw[zE c3];exact⟨ax,at',J,K⟩
  rw[zF c3];obtain⟨s1,s2,s3,s4⟩:=DX h hm (i:=s.p.toNat) (by omega);obtain⟨t1,t2⟩:=C.tk h;obtain⟨Q,f2,S,M,B⟩:=B1 h wT (t:=s.p) U V;have H2:=H.taped h wT s.p;rw[H.stepR h]at H2⊢;have e:((oc c s.p (qX c s.p.toNat)).2.1++(oc c s.p (qX c s.p.toNat)).1).length=c.sl.toNat:=by rw[aB,S,M,s1]
  have ww:ck ((oc c s.p (qX c s.p.toNat)).2.1++(oc c s.p (qX c s.p.toNat)).1):=f2.app Q;have H3:=H2.put8' h (o:=ob c s.p.toNat) s4 (by rw[e];exact s3) ww
  have eS:qX c (s.p+1).toNat=ya c s.p (qX c s.p.toNat):=by
   have:=GV (c:=c) s.p.toNat;rw[E]at this;rw[show(s.p+1).toNat=s.p.toNat+1 by omega,this]
  have lt:((oc c s.p (qX c s.p.toNat)).1.take c.X.length).length=c.X.length:=by rw[B,(CK h wT U V).1]
  have H4:=H3.put1 h lt (Q.take _);rw[B]at H4 lt;refine⟨ax,at',⟨?_,J.ini,J.adj⟩,λi z=> ?_⟩
  .show Has c (put (put (put s.W (c.off 2) (oc c s.p (qX c s.p.toNat)).1) (ob c s.p.toNat) ((oc c s.p (qX c s.p.toNat)).2.1++(oc c s.p (qX c s.p.toNat)).1)) (c.off 1) ((oc c s.p (qX c s.p.toNat)).1.take c.X.length)) (qX c (s.p+1).toNat) ax at';rw[B,eS];exact H4
  .have z:(i:Int)<if s.q<0 then s.p+1 else s.q:=z
   rw[Zg]at z;have Z:Wd c (put s.W (c.off 2) (oc c s.p (qX c s.p.toNat)).1):=H2.wd;have hW3:=H3.wd
   have kK:dz c (put (put s.W (c.off 2) (oc c s.p (qX c s.p.toNat)).1) (ob c s.p.toNat) ((oc c s.p (qX c s.p.toNat)).2.1++(oc c s.p (qX c s.p.toNat)).1)) (put (put (put s.W (c.off 2) (oc c s.p (qX c s.p.toNat)).1) (ob c s.p.toNat) ((oc c s.p (qX c s.p.toNat)).2.1++(oc c s.p (qX c s.p.toNat)).1)) (c.off 1) ((oc c s.p (qX c s.p.toNat)).1.take c.X.length)):=
    dz.put h (dz.refl _) hW3 (i:=1) (by omega) (by rw[B,lt];exact Nat.le_refl _)
   have F:dz c s.W (put s.W (c.off 2) (oc c s.p (qX c s.p.toNat)).1):=dz.put h (dz.refl _) C (i:=2) (by omega) (Nat.le_of_eq S);obtain⟨u1,u2⟩:=Z.tk h;have g:ob c s.p.toNat+((oc c s.p (qX c s.p.toNat)).2.1++(oc c s.p (qX c s.p.toNat)).1).length<=(put s.W (c.off 2) (oc c s.p (qX c s.p.toNat)).1).length:=by rw[e];omega
   show seg (put (put (put s.W (c.off 2) (oc c s.p (qX c s.p.toNat)).1) (ob c s.p.toNat) ((oc c s.p (qX c s.p.toNat)).2.1++(oc c s.p (qX c s.p.toNat)).1)) (c.off 1) ((oc c s.p (qX c s.p.toNat)).1.take c.X.length)) (ob c i+c.fl.n) c.R.toNat=_/\seg (put (put (put s.W (c.off 2) (oc c s.p (qX c s.p.toNat)).1) (ob c s.p.toNat) ((oc c s.p (qX c s.p.toNat)).2.1++(oc c s.p (qX c s.p.toNat)).1)) (c.off 1) ((oc c s.p (qX c s.p.toNat)).1.take c.X.length)) (ob c i) c.fl.n=_;rw[kK.seg (by unfold ob;omega),kK.seg (by unfold ob;omega)];by_cases hip:i=s.p.toNat
   .subst hip;rw[E];have e0:=xF g;rw[e]at e0;constructor
    .have e1:seg (put (put s.W (c.off 2) (oc c s.p (qX c s.p.toNat)).1) (ob c s.p.toNat) ((oc c s.p (qX c s.p.toNat)).2.1++(oc c s.p (qX c s.p.toNat)).1)) (ob c s.p.toNat+c.fl.n) c.R.toNat=(seg (put (put s.W (c.off 2) (oc c s.p (qX c s.p.toNat)).1) (ob c s.p.toNat) ((oc c s.p (qX c s.p.toNat)).2.1++(oc c s.p (qX c s.p.toNat)).1)) (ob c s.p.toNat) c.sl.toNat).drop c.fl.n:=by
      unfold seg;rw[List.drop_take,List.drop_drop,s1,show c.fl.n+c.R.toNat-c.fl.n=c.R.toNat by omega]
     rw[e1,e0,<-M,List.drop_left]
    .rw[II g (by rw[e];omega),<-M,List.take_left]
   .have hne:i<s.p.toNat:=by omega
    have hsh:ob c i+c.sl.toNat<=ob c s.p.toNat:=by
     unfold ob;have:(i+1)*c.sl.toNat<=s.p.toNat*c.sl.toNat:=Nat.mul_le_mul_right _ hne;rw[Nat.succ_mul]at this;omega
    rw[sR g (.inl (by omega)),sR g (.inl (by omega)),F.seg (by unfold ob;omega),F.seg (by unfold ob;omega)];exact K i (by unfold sX;rw[Zg];omega)
 rw[zF h8];by_cases h5:a=5
 .rw[zE h5];by_cases c1:n≠0
  .rw[zE c1];exact⟨ax,at',J,K⟩
  rw[zF c1];by_cases c2:0<=s.q
  .rw[zE c2];exact⟨ax,at',J,K⟩
  rw[zF c2];by_cases c3:s.p≠s.L
  .rw[zE c3];exact⟨ax,at',J,K⟩
  rw[zF c3];have H2:=H.endd h wT U V;have i0:=J.ini (by omega);have D:s.p=s.L:=by omega
  refine⟨(zO c (qX c s.p.toNat)).take c.X.length,BJ c.X.length at' (zO c (qX c s.p.toNat)),⟨?_,λu=> ?_,λu=>⟨?_, ?_⟩⟩,K.kept h (Jq h C l1) ?_⟩
  .show Has c (Kp c s.W (seg s.W (c.off 1) c.X.length)) (qX c s.p.toNat) _ _;rw[H.s];exact H2
  .exfalso;have u:s.L<0:=u;omega
  .show _=uA c s.L.toNat (s.L-s.L).toNat;rw[show(s.L-s.L).toNat=0 by omega,i0,D];rfl
  .show rg (lossR c s.W (seg s.W (c.off 1) c.X.length)).1 0=_;rw[H.s,H.lossV h wT,D]
  .show(if s.L<0 then s.p else s.L)<=if s.q<0 then s.p else s.q
   rw[Zh,Zg];omega
 rw[zF h5];by_cases h9:a=9
 .rw[zE h9];by_cases c1:n≠0
  .rw[zE c1];exact⟨ax,at',J,K⟩
  rw[zF c1];by_cases c2:s.q<1
  .rw[zE c2];exact⟨ax,at',J,K⟩
  rw[zF c2];have hqp:=hi.qp (by omega);obtain⟨i1,i2⟩:=J.adj (by omega);unfold at7 at i1;obtain⟨G1,G2⟩:=wh h wT wX (s.q-1).toNat;have hqq:(((s.q-1).toNat:Nat):Int)=s.q-1:=by omega
  obtain⟨k1,F⟩:=K (s.q-1).toNat (by unfold sX;rw[Zh];omega);rw[hqq]at k1 F;obtain⟨hl1,hl2,hl3,hl4,hl5,hl6⟩:=H.lens h wT;obtain⟨Q,f2,S,M,B⟩:=B1 h wT (t:=s.q-1) G1 G2
  have eB:(AE c s.W (s.q-1).toNat).2.1=ve c (s.q-1) (qX c (s.q-1).toNat) ax:=by
   unfold AE;rw[k1,F,H.x];rfl
  obtain⟨⟨q1,q2⟩,hR,hQ,x1,x2,t2⟩:=h.lens;obtain⟨p1,p2⟩:=GK h wT (t:=s.q-1) G1 G2 hl2 hl5;have H2:=H.back h (a:=ve c (s.q-1) (qX c (s.q-1).toNat) ax) (by omega) (by omega) p2;obtain⟨I,b2⟩:=UW h wT wX hm hi K (by omega);have H3:=H2.put1 h (w:=(AE c s.W (s.q-1).toNat).1.take c.X.length) (by rw[I,G1]) (by rw[I];exact G2);have hb9:=NB h (a:=ve c (s.q-1) (qX c (s.q-1).toNat) ax) C (by omega) (by omega);refine⟨(ve c (s.q-1) (qX c (s.q-1).toNat) ax).take c.X.length,BJ c.X.length at' (ve c (s.q-1) (qX c (s.q-1).toNat) ax),⟨?_,λu=> ?_,λu=>⟨?_,i2⟩⟩,K.kept h ?_ ?_⟩
  .show Has c (put (BK c s.W (AE c s.W (s.q-1).toNat).2.1) (c.off 1) ((AE c s.W (s.q-1).toNat).1.take c.X.length)) (qX c (s.q-1).toNat) _ _;rw[I]at H3⊢;rw[eB];exact H3
  .exfalso;have u:s.q-1<0:=u;omega
  .show _=uA c s.L.toNat (s.L-(s.q-1)).toNat;rw[MR (c:=c) (L:=s.L) (q:=s.q) (by omega) (by omega),<-i1]
  .show dz c s.W (put (BK c s.W (AE c s.W (s.q-1).toNat).2.1) (c.off 1) ((AE c s.W (s.q-1).toNat).1.take c.X.length));rw[eB];exact dz.put h hb9 H2.wd (i:=1) (by omega) (by rw[I,G1];exact Nat.le_refl _)
  .show(if s.q-1<0 then s.q-1 else s.q-1)<=if s.q<0 then s.p else s.q
   rw[Zh,Zh];omega
 rw[zF h9];exact⟨ax,at',J,K⟩
end
end
section
inductive Ev where
 |act (a:Int×Int)
 |more
 |stop
def BI :List Ev->List (Int×Int)
 |[]=>[]
 | .act a::r=>a::BI r
 |_::r=>BI r
theorem Dz : ∀a b:List Ev,BI (a++b)=BI a++BI b
 |[],b=>rfl
 | .act x::r,b=>congrArg (x:: ·) (Dz r b)
 | .more::r,b=>Dz r b
 | .stop::r,b=>Dz r b
theorem Gk : ∀l:List (Int×Int),BI (l.map .act)=l
 |[]=>rfl
 |x::r=>congrArg (x:: ·) (Gk r)
def nxB (s:Dy):Option (Int×Int):=if s.q<0 then(if s.p<s.L then O (8,0)else O (5,0))else if 0<s.q then O (9,0)else Y
def vx (c:Cx)(en:Bool)(s:Dy):Option (Int×Int):=if c.mode=3 then nxB s else if c.mode=2 then uP en (tL c s)else DO (tL c s)
def wk (c:Cx)(a:Int×Int)(s:Dy):Dy:=if c.mode=3 then(HA c a.1 a.2 s).2 else(Fp c a.1 a.2 s).2
def Ae (c:Cx)(a:Int×Int)(s:Dy):Prop:=if c.mode=3 then(HA c a.1 a.2 s).1=0 else∃m',LY a (tL c s)=O m'
def HQ (s:Dy):Dy:={s with L:=s.L+1}
inductive Way (c:Cx)(l:Nat):Nat->Bool->Dy->List Ev->Nat->Bool->Dy->Prop
 |nil (f:Nat) (en:Bool) (s:Dy):Way c l f en s [] f en s
 |act {f:Nat} {en:Bool} {s:Dy} {a:Int×Int} {es:List Ev} {f':Nat} {en':Bool} {s':Dy}:vx c en s=O a->Ae c a s->Way c l f en (wk c a s) es f' en' s'->Way c l f en s (.act a::es) f' en' s'
 |more {f:Nat} {s:Dy} {es:List Ev} {f':Nat} {en':Bool} {s':Dy}:c.mode=2->vx c Zb s=Y->s.q= -1->s.L<65535->f<l->Way c l (f+1) Zb (HQ s) es f' en' s'->Way c l f Zb s (.more::es) f' en' s'
 |stop {f:Nat} {s:Dy} {es:List Ev} {f':Nat} {en':Bool} {s':Dy}:c.mode=2->vx c Zb s=Y->s.q= -1->f=l->Way c l (f+1) Za s es f' en' s'->Way c l f Zb s (.stop::es) f' en' s'
theorem Way.app {c:Cx}{es:List Ev}{u:Nat}{g:Bool}{A:Dy}(h:Way c l f en s es u g A): ∀{p:List Ev} {z:Nat} {o:Bool} {B:Dy},Way c l u g A p z o B->Way c l f en s (es++p) z o B:=by
 induction h with
 |nil=>exact λh=>h
 |act a b _ q=>exact λh=> .act a b (q h)
 |more a b c d e _ q=>exact λh=> .more a b c d e (q h)
 |stop a b c d _ q=>exact λh=> .stop a b c d (q h)
def dg (c:Cx)(i:Nat)(s:Dy):Prop:=if c.mode=3 then Well1 c i s else Well2 c i s
def JE (c:Cx)(s:Dy):Prop:=(∃ax at',Jn c s ax at')/\if c.mode=3 then Kps c s else Sls c s
section
variable {c:Cx} (h:c.Ok)
include h
theorem yD (w:dg c i s){a:Int×Int}(e:vx c en s=O a)(m:Ae c a s):dg c (i+1) (wk c a s):=by
 unfold dg wk Ae at*;by_cases g:c.mode=3
 .simp only[zE g]at w m⊢;have:=w.act h g a;unfold at5 at this
  have p:a.1≠0:=λo=>by
   unfold HA at m;rw[o]at m;simp at m
  rw[zF p]at this;exact this
 .simp only[zF g]at w m⊢;have:=w.act h g a;unfold aa5 at this
  have p:a.1≠0:=λo=>by
   obtain⟨m',m⟩:=m;unfold LY at m;rw[o]at m;simp at m
  rw[zF p]at this;exact this
theorem Fa (w:dg c i s)(g:c.mode=2)(o:s.q= -1)(e:s.L<65535):dg c (i+1) (HQ s):=by
 unfold dg at*;rw[Zh]at*;have:=w.act h (by omega) (0,0);unfold aa5 AG at this;rw[zE rfl,Zh,Zh,Zh]at this;exact this
theorem UC (p:i<=j)(w:dg c i s):dg c j s:=by
 have o:IS (65536*i) s->IS (65536*j) s:=λk=>by
  obtain⟨a,b,d,e⟩:=k;unfold IS;omega
 unfold dg at*;split
 .rename_i g;rw[zE g]at w;exact⟨w.inv,o w.cnt⟩
 .rename_i g;rw[zF g]at w;exact⟨w.inv,o w.cnt,w.len⟩
theorem Way.well {es:List Ev}{u:Nat}{q:Bool}(H:Way c l f en s es u q s'): ∀{i:Nat},dg c i s->dg c (i+es.length) s':=by
 have o: ∀(i:Nat) (e:Ev) (es:List Ev),i+(e::es).length=i+1+es.length:=λi e es=>by
  rw[List.length_cons];omega
 induction H with
 |nil=>exact λw=>w
 |act a b _ p=>
  intro i w;rw[o];exact p (yD h w a b)
 |more a b d e g _ p=>
  intro i w;rw[o];exact p (Fa h w a d e)
 |stop a b d e _ p=>
  intro i w;rw[o];exact p (UC h (Nat.le_succ i) w)
theorem aN5 (wT:ck c.T)(wX:ck c.X)(w:dg c i s)(J:JE c s){a:Int×Int}(m:Ae c a s):JE c (wk c a s):=by
 unfold dg JE wk Ae at*;obtain⟨⟨ax,at',J⟩,K⟩:=J;by_cases g:c.mode=3
 .simp only[zE g]at w m K⊢;obtain⟨o,e,p,q⟩:=aX7 h wT wX g w.inv J K a.1 a.2;exact⟨⟨_,_,p⟩,q⟩
 .simp only[zF g]at w m K⊢;obtain⟨m',m⟩:=m;obtain⟨o,e,p,q⟩:=aX6 h wT wX g w.inv J K m;exact⟨⟨_,_,p⟩,q⟩
omit h in
theorem ay4 (J:JE c s)(g:c.mode=2)(o:s.q= -1):JE c (HQ s):=by
 obtain⟨⟨ax,at',J⟩,K⟩:=J;unfold JE;rw[Zh]at*;exact⟨⟨ax,at',J.has,J.ini,λe=>by have e:0<=s.q:=e;omega⟩,K⟩
theorem Way.je (wT:ck c.T)(wX:ck c.X){es:List Ev}{q:Nat}{p:Bool}(H:Way c l f en s es q p s'): ∀{i:Nat},dg c i s->JE c s->JE c s':=by
 induction H with
 |nil=>exact λ_ J=>J
 |act a b _ o=>exact λw J=>o (yD h w a b) (aN5 h wT wX w J b)
 |more a b d e g _ o=>exact λw J=>o (Fa h w a d e) (ay4 J a d)
 |stop a b d e _ o=>exact λw J=>o w J
theorem Mx (g:c.mode≠3){A:Mc->Option (Int×Int)}(o: ∀s,vx c en s=A (tL c s)){m:Mc}{k:List (Int×Int)}(R:Run A m k m'): ∀{i:Nat} (s:Dy),tL c s=m->dg c i s->∃s',Way c l f en s (k.map .act) f en s'/\tL c s'=m':=by
 induction R with
 |nil=>exact λs e _=>⟨s, .nil _ _ _,e⟩
 | @cons H I J a k B q _ D=>
  intro i s e w;subst e;have u:vx c en s=O a:=(o s).trans B
  have z:Ae c a s:=by
   unfold Ae;rw[zF g];exact⟨_,q⟩
  have p:=w;unfold dg at p;rw[zF g]at p;have C:=(Mh h g p.inv q).2;obtain⟨s',E,F⟩:=D (wk c a s) (by unfold wk;rw[zF g];exact C) (yD h w u z);exact⟨s', .act u z E,F⟩
def A1 (c:Cx):Dy:=if c.mode=3 then new1 c else new2 c
theorem tf :dg c 0 (A1 c):=by
 unfold dg A1;split
 .rename_i e;exact Qn h e [] 0
 .rename_i e;exact Qo h e [] 0
theorem Pj {l:Nat}{f:Nat}(e:c.mode=3): ∀(n:Nat) {i:Nat} (s:Dy),dg c i s->s.q= -1->s.L-s.p=n->∃s',Way c l f Zb s (List.replicate n (.act (8,0))) f Zb s'/\s'.q= -1/\s'.p=s.L/\s'.L=s.L
 |0,i,s,w,u,B=>⟨s, .nil _ _ _,u,by omega,rfl⟩
 |n+1,i,s,w,u,B=>by
  have o:vx c Zb s=O (8,0):=by
   unfold vx nxB;rw[zE e,Zg,Zg]
  have A:HA c 8 0 s=(0,(HA c 8 0 s).2):=by
   unfold HA;rw[zE rfl,Zh,Zh,Zh]
  have H:(HA c 8 0 s).2.q=s.q/\(HA c 8 0 s).2.p=s.p+1/\(HA c 8 0 s).2.L=s.L:=by
   unfold HA;rw[zE rfl,Zh,Zh,Zh];exact⟨rfl,rfl,rfl⟩
  have z:Ae c (8,0) s:=by
   unfold Ae;rw[zE e];exact congrArg Prod.fst A
  have g:wk c (8,0) s=(HA c 8 0 s).2:=by unfold wk;rw[zE e]
  obtain⟨s',C,D,E,F⟩:=Pj e n (wk c (8,0) s) (yD h w o z) (by rw[g];omega) (by rw[g];omega);rw[g]at E F;exact⟨s', .act o z C,D,by omega,by omega⟩
theorem Ph {l:Nat}{f:Nat}(e:c.mode=3): ∀(n:Nat) {i:Nat} (s:Dy),dg c i s->s.q=n->∃s',Way c l f Zb s (List.replicate n (.act (9,0))) f Zb s'/\s'.q=0/\s'.L=s.L
 |0,i,s,w,z=>⟨s, .nil _ _ _,by omega,rfl⟩
 |n+1,i,s,w,z=>by
  have g:vx c Zb s=O (9,0):=by
   unfold vx nxB;rw[zE e,Zh,Zg]
  have u:(HA c 9 0 s).1=0/\(HA c 9 0 s).2.q=s.q-1/\(HA c 9 0 s).2.L=s.L:=by
   unfold HA;rw[Zh,Zh,zE rfl,Zh,Zh];exact⟨rfl,rfl,rfl⟩
  have p:Ae c (9,0) s:=by
   unfold Ae;rw[zE e];exact u.1
  have o:wk c (9,0) s=(HA c 9 0 s).2:=by unfold wk;rw[zE e]
  obtain⟨s',A,B,C⟩:=Ph e n (wk c (9,0) s) (yD h w g p) (by rw[o];omega);rw[o]at C;exact⟨s', .act g p A,B,by omega⟩
end
end
end Go.V
