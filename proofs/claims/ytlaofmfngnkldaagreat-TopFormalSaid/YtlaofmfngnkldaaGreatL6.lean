/- A part of the proof. No condition. -/
import Derived.Test.YtlaofmfngnkldaaGreatL5
set_option linter.all false
namespace Go.V
open Go.Ab
open Option renaming some->O,none->Z
open Bool renaming true->Za,false->Zb
open Decidable renaming decide->Zc
open List renaming length_eq_zero_iff->aK
open List renaming mem_append->aF
open List renaming mem_cons->aA
open List renaming mem_map->aE
open List renaming mem_range->aH
open List renaming mem_singleton->aI
open List renaming length->b8
open Int renaming toNat->b9
variable {s s':Dy}{en en':Bool}{N f f' i l v:Nat}{x y:Int}{d e:Zd}{a:Int×Int}{o:cg}{M:List<|Zd×Int}
set_option maxRecDepth 100000
section
inductive Ev where
 |act (a:Int×Int)
 |more
 |stop
def yd :List Ev->List (Int×Int)
 |[]=>[]
 | .act a::r=>a::yd r
 |_::r=>yd r
def AO : ∀a b:List Ev,yd (a++b)=yd a++yd b
 |[],b=>rfl
 | .act x::r,b=>congrArg (x:: ·) (AO r b)
 | .more::r,b=>AO r b
 | .stop::r,b=>AO r b
def DQ : ∀l:List<|Int×Int,yd (l.map .act)=l
 |[]=>rfl
 |x::r=>congrArg (x:: ·)<|DQ r
def nxB (s:Dy):Option<|Int×Int:=if s.q<0 then(if s.p<s.L then O (8,0)else O (5,0))else if 0<s.q then O (9,0)else Z
def rj (c:Cx)(en:Bool)(s:Dy):Option<|Int×Int:=if c.mode=3 then nxB s else if c.mode=2 then qC en (po c s)else Bc<|po c s
def si (c:Cx)(a:Int×Int)(s:Dy):Dy:=if c.mode=3 then(EZ c a.1 a.2 s).2 else(CU c a.1 a.2 s).2
def wo (c:Cx)(a:Int×Int)(s:Dy):Prop:=if c.mode=3 then(EZ c a.1 a.2 s).1=0 else∃b,Kg a (po c s)=O b
def Fp (s:Dy):Dy:={s with L:=s.L+1}
inductive Way (c:Cx)(l:Nat):Nat->Bool->Dy->List Ev->Nat->Bool->Dy->Prop
 |nil (f:Nat) (en:Bool) (s:Dy):Way c l f en s [] f en s
 |act {f:Nat} {en:Bool} {s:Dy} {a:Int×Int} {es:List Ev} {f':Nat} {en':Bool} {s':Dy}:rj c en s=O a->wo c a s->Way c l f en (si c a s) es f' en' s'->Way c l f en s (.act a::es) f' en' s'
 |more {f:Nat} {s:Dy} {es:List Ev} {f':Nat} {en':Bool} {s':Dy}:c.mode=2->rj c Zb s=Z->s.q= -1->s.L<65535->f<l->Way c l (f+1) Zb (Fp s) es f' en' s'->Way c l f Zb s (.more::es) f' en' s'
 |stop {f:Nat} {s:Dy} {es:List Ev} {f':Nat} {en':Bool} {s':Dy}:c.mode=2->rj c Zb s=Z->s.q= -1->f=l->Way c l (f+1) Za s es f' en' s'->Way c l f Zb s (.stop::es) f' en' s'
def Way.app {c:Cx}{es:List Ev}{m:Nat}{g:Bool}{q:Dy}(h:Way c l f en s es m g q): ∀{es':List Ev} {p:Nat} {j:Bool} {r:Dy},Way c l m g q es' p j r->Way c l f en s (es++es') p j r:=by
 induction h with
 |nil=>exact λh=>h
 |act a b _ k=>exact λh=> .act a b (k h)
 |more a b c d e _ k=>exact λh=> .more a b c d e (k h)
 |stop a b c d _ k=>exact λh=> .stop a b c d<|k h
def dw (c:Cx)(i:Nat)(s:Dy):Prop:=if c.mode=3 then Well1 c i s else Well2 c i s
def JE (c:Cx)(s:Dy):Prop:=(∃g b,Jn c s g b)/\if c.mode=3 then Kps c s else Sls c s
section
variable {c:Cx} (h:c.Ok)
include h
theorem uJ (w:dw c i s)(e:rj c en s=O a)(m:wo c a s):dw c (i+1)<|si c a s:=by
 unfold dw si wo at*;by_cases b:c.mode=3
 .simp only[zE b]at w m⊢;have:=w.act h b a;unfold at0 at this
  have j:a.1≠0:=λg=>by
   unfold EZ at m;rw[g]at m;simp at m
  rw[zF j]at this;exact this
 simp only[zF b]at w m⊢;have:=w.act h b a;unfold YH at this
 have j:a.1≠0:=λg=>by
  obtain⟨k,m⟩:=m;unfold Kg at m;rw[g]at m;simp at m
 rw[zF j]at this;exact this
theorem CJ (w:dw c i s)(g:c.mode=2)(j:s.q= -1)(b:s.L<65535):dw c (i+1)<|Fp s:=by
 unfold dw at*;rw[Zh]at*;have:=w.act h V1 (0,0);unfold YH wP at this;rw[zE rfl,Zh,Zh,Zh]at this;exact this
theorem Tt {j:Nat}(m:i<=j)(w:dw c i s):dw c j s:=by
 have g:Gq (65536*i) s->Gq (65536*j) s:=λk=>by
  have⟨a,b,d,e⟩:=k;unfold Gq;omega
 unfold dw at*;split
 .rename_i hm;rw[zE hm]at w;exact⟨w.inv,g w.cnt⟩
 rename_i hm;rw[zF hm]at w;exact⟨w.inv,g w.cnt,w.len⟩
theorem Way.well {es:List Ev}(H:Way c l f en s es f' en' s'): ∀{i:Nat},dw c i s->dw c (i+es.length) s':=by
 have j: ∀(i:Nat) (e:Ev) (es:List Ev),i+(e::es).length=i+1+es.length:=λi e es=>by
  rw[List.length_cons];omega
 induction H with
 |nil=>exact λw=>w
 |act a b _ k=>
  intro i w;rw[j];exact k (uJ h w a b)
 |more a b d e g _ k=>
  intro i w;rw[j];exact k (CJ h w a d e)
 |stop a b d e _ k=>
  intro i w;rw[j];exact k<|Tt h (Nat.le_succ i) w
theorem aP3 (wT:ci c.T)(wX:ci c.X)(w:dw c i s)(J:JE c s)(m:wo c a s):JE c<|si c a s:=by
 unfold dw JE si wo at*;obtain⟨⟨r,q,J⟩,K⟩:=J;by_cases g:c.mode=3
 .simp only[zE g]at w m K⊢;have⟨j,b,k,p⟩:=ba7 h wT wX g w.inv J K a.1 a.2;exact⟨⟨_,_,k⟩,p⟩
 simp only[zF g]at w m K⊢;obtain⟨t,m⟩:=m;have⟨j,b,k,p⟩:=ba6 h wT wX g w.inv J K m;exact⟨⟨_,_,k⟩,p⟩
omit h in
theorem ay8 (J:JE c s)(k:c.mode=2)(m:s.q= -1):JE c<|Fp s:=by
 obtain⟨⟨j,b,J⟩,K⟩:=J;unfold JE;rw[Zh]at*;exact⟨⟨j,b,J.has,J.ini,λg=>by have g:0<=s.q:=g;omega⟩,K⟩
theorem Way.je (wT:ci c.T)(wX:ci c.X){es:List Ev}(H:Way c l f en s es f' en' s'): ∀{i:Nat},dw c i s->JE c s->JE c s':=by
 induction H with
 |nil=>exact λ_ J=>J
 |act a b _ j=>exact λw J=>j (uJ h w a b) (aP3 h wT wX w J b)
 |more a b d e g _ j=>exact λw J=>j (CJ h w a d e) (ay8 J a d)
 |stop a b d e _ j=>exact λw J=>j w J
theorem Kq (b:c.mode≠3){t:Mc->Option (Int×Int)}(g: ∀s,rj c en s=t (po c s)){m m':Mc}{k:List<|Int×Int}(R:Run t m k m'): ∀{i:Nat} (s:Dy),po c s=m->dw c i s->∃s',Way c l f en s (k.map .act) f en s'/\po c s'=m':=by
 induction R with
 |nil=>exact λs e _=>⟨s, .nil _ _ _,e⟩
 | @cons D E F a k u p _ A=>
  intro i s e w;subst e;have q:rj c en s=O a:=(g s).trans u
  have r:wo c a s:=by
   unfold wo;rw[zF b];exact⟨_,p⟩
  have j:=w;unfold dw at j;rw[zF b]at j;have z:=(J4 h b j.inv p).2;have⟨s',B,C⟩:=A (si c a s) (by unfold si;rw[zF b];exact z)<|uJ h w q r;exact⟨s', .act q r B,C⟩
def xj (c:Cx):Dy:=if c.mode=3 then new1 c else new2 c
theorem oK :dw c 0<|xj c:=by
 unfold dw xj;split
 .rename_i hm;exact O0 h hm [] 0
 rename_i hm;exact O1 h hm [] 0
theorem NH {l:Nat}{f:Nat}(j:c.mode=3): ∀(n:Nat) {i:Nat} (s:Dy),dw c i s->s.q= -1->s.L-s.p=n->∃s',Way c l f Zb s (List.replicate n<|.act (8,0)) f Zb s'/\s'.q= -1/\s'.p=s.L/\s'.L=s.L
 |0,i,s,w,k,r=>⟨s, .nil _ _ _,k,V1,rfl⟩
 |n+1,i,s,w,k,r=>by
  have g:rj c Zb s=O (8,0):=by
   unfold rj nxB
   grind
  have B:EZ c 8 0 s=(0,(EZ c 8 0 s).2):=by
   unfold EZ
   grind
  have C:(EZ c 8 0 s).2.q=s.q/\(EZ c 8 0 s).2.p=s.p+1/\(EZ c 8 0 s).2.L=s.L:=by
   unfold EZ
   grind
  have m:wo c (8,0) s:=by
   unfold wo
   grind
  have b:si c (8,0) s=(EZ c 8 0 s).2:=by unfold si;rw[zE j]
  obtain⟨s',t,u,z,A⟩:=NH j n (si c (8,0) s) (uJ h w g m) (by rw[b];omega) (by rw[b];omega);rw[b]at z A;exact⟨s', .act g m t,u,V1,V1⟩
theorem NG {l:Nat}{f:Nat}(b:c.mode=3): ∀(n:Nat) {i:Nat} (s:Dy),dw c i s->s.q=n->∃s',Way c l f Zb s (List.replicate n<|.act (9,0)) f Zb s'/\s'.q=0/\s'.L=s.L
 |0,i,s,w,p=>⟨s, .nil _ _ _,V1,rfl⟩
 |n+1,i,s,w,p=>by
  have g:rj c Zb s=O (9,0):=by
   unfold rj nxB
   grind
  have m:(EZ c 9 0 s).1=0/\(EZ c 9 0 s).2.q=s.q-1/\(EZ c 9 0 s).2.L=s.L:=by
   unfold EZ
   grind
  have k:wo c (9,0) s:=by
   unfold wo;rw[zE b];exact m.1
  have j:si c (9,0) s=(EZ c 9 0 s).2:=by unfold si;rw[zE b]
  obtain⟨s',r,t,u⟩:=NG b n (si c (9,0) s) (uJ h w g k) (by rw[j];omega);rw[j]at u;exact⟨s', .act g k r,t,V1⟩
end
end
variable {es:List Ev}
section
open List renaming length_append->aB,length_map->bB,length_cons->bD,length_replicate->cB,replicate->cD,replicate_append_replicate->cV
open Nat renaming le_refl->aD
section
variable {c:Cx}
theorem OQ {o n:Nat}(h:o+n<=N):seg (zeros N) o n=zeros n:=by
 unfold seg zeros
 grind
def Ya {o n:Nat}(h:o+n<=N):put (zeros N) o (zeros n)=zeros N:=by
 unfold put zeros;rw[List.take_replicate,List.drop_replicate,cB,cV,cV,Nat.min_eq_left V1]
 congr 1
 omega
def ay3 (h:c.Ok)(wT:ci c.T)(wX:ci c.X):Has c (P5 c<|zeros<|b9 c.words) c.X (zeros<|b8 c.X)<|zeros<|b8 c.T:=by
 have b:Wd c<|zeros<|b9 c.words:=bw _;have g:=b.tk h;rw[bw]at g;have q:=gS (c:=c) (show 5<9 by omega);have r:=gS (c:=c) (show 6<9 by omega);have p:=gS (c:=c) (show 0<9 by omega);have k:b8 c.T<=c.sz 0:=aD _;have m:=b.put h (o:=c.off 0) (w:=c.T) (by have:c.sz 0=b8 c.T:=rfl;omega);unfold P5
 have H0:Has c (put (zeros<|b9 c.words) (c.off 0) c.T) (seg (put (zeros<|b9 c.words) (c.off 0) c.T) (c.off 1)<|b8 c.X) (zeros<|b8 c.X)<|zeros<|b8 c.T:=by
  refine⟨m,(ci.rep _).put wT _, ?_,rfl, ?_, ?_⟩
  .exact tK (OU h b V1 k)
  .rw[yC h b (n:=b8 c.X) (i:=0) (j:=5) V1 V1 V1 (aD _) k];exact OQ (by have:c.sz 5=b8 c.X:=rfl;omega)
  rw[yC h b (n:=b8 c.T) (i:=0) (j:=6) V1 V1 V1 (aD _) k];exact OQ (by have:c.sz 6=b8 c.T:=rfl;omega)
 exact H0.put1 h rfl wX
end
section
variable {c:Cx} (h:c.Ok)
include h
theorem ai7 (m:c.mode=2)(K:1<=c.ns)(z:c.len=0){l:Nat}(J:l<=40): ∀k,k<=l->∃s es,Way c l 0 Zb (new2 c) es k Zb s/\po c s=⟨k,k,-1,(fT (b9 c.ns) k).2⟩/\b8 es=b8 (fT (b9 c.ns) k).1+k/\b8 (yd es)=b8 (fT (b9 c.ns) k).1
 |0,I=>by
  have r:=ag1 h V1;rw[z]at r;have w0:=oK h;unfold xj at w0;rw[Zh]at w0;have b: ∀s,rj c Zb s=qC Zb (po c s):=λs=>by unfold rj;rw[Zh,zE m]
  obtain⟨s,u,j⟩:=Kq h (l:=l) (f:=0) V1 b (Vp (s:=b9 c.ns) V1).1 (new2 c) r w0;exact⟨s,_,u,j,by rw[bB,Nat.add_zero],by rw[DQ]⟩
 |k+1,I=>by
  have⟨s,es,u,j,A,B⟩:=ai7 m K z J k V1;have b: ∀s,rj c Zb s=qC Zb (po c s):=λs=>by unfold rj;rw[Zh,zE m]
  have g:b8 (fT (b9 c.ns)<|k+1).1=b8 (fT (b9 c.ns) k).1+b8 ([(1,1)]++(ui (k+1) (fT (b9 c.ns) k).2).1):=by
   show(b8<|(fT (b9 c.ns) k).1++[(1,1)]++(ui (k+1) (fT (b9 c.ns) k).2).1)=_
   grind
  have hx:=KU (s:=b9 c.ns) (k:=k) V1 V1;rw[<-j]at hx;have w:s.q= -1:=congrArg Mc.q j;have C:s.L=(k:Int):=congrArg Mc.L j;have D:s.p=(k:Int):=congrArg Mc.p j;have E:mz c s.W=(fT (b9 c.ns) k).2:=congrArg Mc.t j;have w0:=oK h;unfold xj at w0;rw[Zh]at w0;have U:=u.well h w0;have V:=CJ h U m w V1
  have F:po c (Fp s)=⟨(k:Int)+1,k,-1,(fT (b9 c.ns) k).2⟩:=by
   show Mc.mk (s.L+1) s.p s.q (mz c s.W)=_;rw[C,D,w,E]
  have⟨S,Q,H⟩:=Kq h (l:=l) (f:=k+1) V1 b (Vq (s:=b9 c.ns) (k:=k) V1 V1).1 (Fp s) F V;refine⟨S,es++ .more::([(1,1)]++(ui (k+1) (fT (b9 c.ns) k).2).1).map .act,u.app<|.more m ((b s).trans hx) w V1 V1 Q,H, ?_, ?_⟩
  .rw[aB,bD,bB,A,g];omega
  .rw[AO];show(b8<|yd es++yd (([(1,1)]++(ui (k+1) (fT (b9 c.ns) k).2).1).map .act))=_;rw[DQ,aB,B,g]
theorem aP8 (g:c.mode=2):c.len=0:=by
 have hc:=h.hc;have b:=h.num.len;unfold Ax at hc;split at hc
 .rename_i k;exact absurd hc k
 split at hc
 .rename_i k;exact absurd hc k
 split at hc
 .rename_i k;exact absurd hc k
 split at hc
 .rename_i k;exact absurd hc k
 rename_i k;unfold hk3 at k;omega
structure Fin (c:Cx)(l:Nat)(f:Nat)(en:Bool)(s:Dy)(es:List Ev):Prop where
 no:rj c en s=Z
 q:s.q=0
 L:s.L=l
 len:b8 es<=6000
 one:1<=b8 (yd es)
 en:c.mode=2->en=Za
theorem QF (e:ng c.mode c.X.length c.T.length c.R c.l c.Q c.k c.len c.words=(c.fixed,c.tp,c.sl,c.ns,0))(hl:l<=40)(j:c.mode≠2->c.len=l): ∃es f en s,Way c l 0 Zb (xj c) es f en s/\Fin c l f en s es:=by
 have nm:=h.num.mode;have w0:=oK h;have hns:=h.ns;by_cases b:c.mode=3
 .have H:=j V1;have E:xj c=new1 c:=by unfold xj;rw[zE b]
  rw[E]at w0⊢;obtain⟨g,m,q1,V,L1⟩:=NH h (l:=l) (f:=0) b l (new1 c) w0 rfl (by show c.len-0=_;omega);have L1:g.L=c.len:=L1;have V:g.p=c.len:=V;have z:=m.well h w0
  have B:rj c Zb g=O (5,0):=by
   unfold rj nxB
   grind
  have K:(EZ c 5 0 g).1=0/\(EZ c 5 0 g).2.q=g.L/\(EZ c 5 0 g).2.L=g.L:=by
   unfold EZ
   grind
  have U:wo c (5,0) g:=by
   unfold wo;rw[zE b];exact K.1
  have S:si c (5,0) g=(EZ c 5 0 g).2:=by unfold si;rw[zE b]
  have A:=uJ h z B U;obtain⟨D,r2,q2,L2⟩:=NG h (l:=l) (f:=0) b l (si c (5,0) g) A (by rw[S];omega);rw[S]at L2;refine⟨_,_,_,D,m.app<|.act B U r2, ?_,q2,V1, ?_, ?_,λk=>by omega⟩
  .unfold rj nxB
   grind
  .rw[aB,bD,cB,cB];omega
  rw[AO,aB];show 1<=_+(yd<|cD l<|Ev.act (9,0)).length.succ;omega
 have hn:=UF h b e;have E:xj c=new2 c:=by unfold xj;rw[zF b]
 rw[E]at w0⊢;by_cases h1:c.mode=1
 .have H:=j V1;have w: ∀s,rj c Zb s=Bc (po c s):=λs=>by unfold rj;rw[zF b,Zh]
  obtain⟨m',R,I,hq,hR⟩:=aE3 (l:=l) (s:=c.ns.toNat) V1 V1;have u:=ag1 h b;rw[H]at u;obtain⟨s,m,t⟩:=Kq h (l:=l) (f:=0) b w R (new2 c) u w0;have z:=m.well h w0;refine⟨_,_,_,s,m,(w s).trans (by rw[t];exact I), ?_, ?_,by rw[bB];omega, ?_,λk=>by omega⟩
  .rw[<-hq,<-t];rfl
  .have A:=z;unfold dw at A;rw[zF b]at A;exact(A.len V1).trans H
  rw[DQ];by_cases J:l=0
  .rw[zE J];exact aD _
  rw[zF J]at R⊢;generalize pt (2*l) Zb l c.ns.toNat 0 (cD c.ns.toNat Zb) Za=k at R⊢;cases k with
  |nil=>
   exfalso;generalize hM:(⟨(l:Int),0,-1,cD c.ns.toNat<|-1⟩:Mc)=M at R;cases R
   grind
  |cons _ _=>exact Nat.succ_le_succ (Nat.zero_le _)
 have C:c.mode=2:=by omega
 have r: ∀en s,rj c en s=qC en (po c s):=λen s=>by unfold rj;rw[zF b,zE C]
 have hal:=KT c.ns.toNat l;have hbd:(l+1)*(l+2)<=41*42:=Nat.mul_le_mul V1 V1;have hbk:=Vt (vY l (fT c.ns.toNat l).2.length) (fT c.ns.toNat l).2 l
 have hbl:(NE l (fT c.ns.toNat l).2).length<=4*l+2/\1<=(NE l (fT c.ns.toNat l).2).length:=by
  unfold NE frB
  grind
 obtain⟨s,es,m,t,B,K⟩:=ai7 h C hn (aP8 h C) hl l<|aD _;have hx:=KU (s:=c.ns.toNat) (k:=l) V1 V1;rw[<-t]at hx;obtain⟨W,Y⟩:=YU (l:=l) (s:=c.ns.toNat) V1 V1;have z:=m.well h w0;obtain⟨D,r3,F⟩:=Kq h (l:=l) (f:=l+1) b (r Za) W s t z;refine⟨_,_,_,D,m.app<|.stop C ((r Zb s).trans hx) (congrArg Mc.q t) rfl r3,(r Za D).trans (by rw[F];exact Y),congrArg Mc.q F,congrArg Mc.L F, ?_, ?_,λ_=>rfl⟩
 .rw[aB,bD,bB,B];omega
 rw[AO,aB];show 1<=_+(yd<|(NE l (fT c.ns.toNat l).2).map .act).length;rw[DQ];omega
theorem aP4 (wT:ci c.T)(wX:ci c.X):JE c<|xj c:=by
 have q:Wd c<|zeros<|b9 c.words:=bw _;have j:=q.tk h;rw[bw]at j;have H:=ay3 h wT wX;unfold JE xj;by_cases g:c.mode=3
 .simp only[zE g];exact⟨⟨_,_,H,λ_=>rfl,λb=>by have b:(0:Int)<= -1:=b;omega⟩,λi hi=>by have hi:(i:Int)<0:=hi;omega⟩
 simp only[zF g];have e:put (zeros<|b9 c.words) (c.off 8) (zeros<|b9<|c.sl*c.ns)=zeros (b9 c.words):=Ya (by have:=Sr (c:=c);omega)
 have m:(new2 c).W=P5 c (zeros<|b9 c.words):=by
  show P5 c (put (zeros<|b9 c.words) (c.off 8)<|zeros<|b9<|c.sl*c.ns)=_;rw[e]
 refine⟨⟨zeros<|b8 c.X,zeros<|b8 c.T,by rw[m];exact H,λ_=>rfl,λb=>by have b:(0:Int)<= -1:=b;omega⟩,λk p ht=> ?_⟩;rw[Hh h g p]at ht;omega
end
end
section
section
variable {c:Cx}
def aM8 (s:Dy)(m:Int)(a b:Bool):lL m a b c.fixed c.tp c.sl c.ns c.mode c.R c.Q c.len c.words s.L s.p s.q s.c0 s.c1 s.c2 s.c3 s.z c.X c.T c.l c.k c.P c.tk s.lv s.pk c.words s.W=O (s.p,s.q):=rfl
def WN (h:c.Ok)(g:c.mode≠3)(s:Dy)(b:Wd c s.W)(ht: ∀k,k<b9 c.ns->0<=jg c s.W k/\jg c s.W k<=65536):fR c.fixed c.tp c.sl c.ns c.mode c.R c.Q c.len c.words s.L s.p s.q s.c0 s.c1 s.c2 s.c3 s.z c.X c.T c.l c.k c.P c.tk (c.off 8:Int) c.ns (b8 c.X:Int) s.lv s.pk c.words s.W=O (s.p,s.q,mz c s.W):=by
 unfold fR;rw[Qt h g b ht];rfl
def aM9 (h:c.Ok)(j:c.mode≠3)(s:Dy)(hi:Inv c s)(m:Int)(a b:Bool):cj m a b c.fixed c.tp c.sl c.ns c.mode c.R c.Q c.len c.words s.L s.p s.q s.c0 s.c1 s.c2 s.c3 s.z c.X c.T c.l c.k c.P c.tk (c.off 8:Int) c.ns (b8 c.X:Int) s.lv s.pk c.words s.W=O (s.p,s.q,mz c s.W):=by
 unfold cj;exact mZ (WN h j s hi.w λk g=>by have:=hi.tag k g;have:=hi.L;omega) rfl
def aN0 (h:c.Ok)(j:c.mode≠3)(s:Dy)(hi:Inv c s)(m:Int)(a b:Bool):cj m a b c.fixed c.tp c.sl c.ns c.mode c.R c.Q c.len c.words s.L s.p s.q s.c0 s.c1 s.c2 s.c3 s.z c.X c.T c.l c.k c.P c.tk (c.off 8:Int) c.ns (b8 c.X:Int) s.lv s.pk c.words s.W=O (s.p,s.q,mz c s.W):=by
 unfold cj;exact mZ (WN h j s hi.w λk g=>by have:=hi.tag k g;have:=hi.L;omega) rfl
end
end
section
open Bool renaming not_true->aB
section
variable {c:Cx} (h:c.Ok)
def QE (c:Cx)(en:Bool)(s:Dy):Prop:=(c.mode≠2->en=Zb)/\(0<=s.q->c.mode=2->en=Za)
def UO :QE c Zb<|xj c:=⟨λ_=>rfl,λb _=>by
 have:(xj c).q= -1:=by unfold xj;split<;>rfl
 omega⟩
include h
theorem aS5 (w:dw c i s)(Q:QE c en s)(e:rj c en s=O a)(m:wo c a s):QE c en<|si c a s:=by
 refine⟨Q.1,λb g=> ?_⟩;by_cases t:0<=s.q
 .exact Q.2 t g
 have j: ¬c.mode=3:=by omega
 unfold rj at e;unfold wo at m;unfold si at b;unfold dw at w;rw[zF j]at e m b w;rw[zE g]at e;obtain⟨p,m⟩:=m;have f:=(J4 h j w.inv m).2;have z:(CU c a.1 a.2 s).2.q=p.q:=congrArg Mc.q f
 have u:a.1=1∨a.1=2∨a.1=4∨en=Za:=by
  unfold qC at e;simp only at e;rw[zE (show(po c s).q<0 by show s.q<0;omega)]at e
  grind
 have r:a.1=1∨a.1=2∨a.1=4->p.q=s.q:=λk=>by
  unfold Kg at m;rcases k with k|k|k
  all_goals
   rw[k]at m;simp only[Int.reduceEq,if_false,if_true]at m;split at m
   .injection m with m;subst m;rfl
   cases m
 grind
theorem TY (s:Dy)(g:Int)(en b:Bool):lM g en b c.fixed c.tp c.sl c.ns c.mode c.R c.Q c.len c.words s.L s.p s.q s.c0 s.c1 s.c2 s.c3 s.z c.X c.T c.l c.k c.P c.tk s.lv s.pk c.words s.W=O (match nxB s with|some a=>(a.1,Za)|none=>(0,Zb)):=by
 unfold lM;refine mZ (aM8 s g en b) ?_;rw[show qx g en b c.fixed c.tp c.sl c.ns c.mode c.R c.Q c.len c.words s.L s.p s.q s.c0 s.c1 s.c2 s.c3 s.z c.X c.T c.l c.k c.P c.tk s.lv s.pk c.words s.W=O s.L from rfl];unfold nxB
 grind
omit h in
theorem aJ5 (e:nxB s=O a):a.2=0:=by
 unfold nxB at e
 grind
omit h in
theorem aA9 (b:c.mode=3)(en:Bool)(s:Dy):rj c en s=nxB s:=by unfold rj;rw[zE b]
theorem bo3 (b:c.mode=3)(t:i<=1000000)(w:dw c i s)(e:rj c en s=O a)(m:wo c a s):
  gH c.mode en Zb c.fixed c.tp c.sl c.ns c.mode c.R c.Q c.len c.words s.L s.p s.q s.c0 s.c1 s.c2 s.c3 s.z c.X c.T c.l c.k c.P c.tk s.lv s.pk c.words s.W=O (a.1,Za,0,c.fixed,c.tp,c.sl,c.ns,c.mode,c.R,c.Q,c.len,c.words,(si c a s).L,(si c a s).p,(si c a s).q,(si c a s).c0,(si c a s).c1,(si c a s).c2,(si c a s).c3,(si c a s).z,(si c a s).lv,(si c a s).pk,c.words,(si c a s).W):=by
 have g:=w;unfold dw at g;rw[zE b]at g;rw[aA9 b]at e;have j:=aJ5 e;unfold wo at m;rw[zE b,j]at m;have r:si c a s=(EZ c a.1 0 s).2:=by unfold si;rw[zE b,j]
 unfold gH;rw[zD];refine mZ (TY h s c.mode en Zb) ?_;rw[e];show cond (!Za) _ _=_;rw[aB,zD];refine mZ (do1 h b g.inv g.cnt V1) ?_;show cond (Zc<|(EZ c a.1 0 s).1≠0) _ _=_;rw[m,r];rfl
theorem bo1 (b:c.mode=3)(w:dw c i s)(e:rj c en s=Z):
  gH c.mode en Zb c.fixed c.tp c.sl c.ns c.mode c.R c.Q c.len c.words s.L s.p s.q s.c0 s.c1 s.c2 s.c3 s.z c.X c.T c.l c.k c.P c.tk s.lv s.pk c.words s.W=O (0,Zb,0,c.fixed,c.tp,c.sl,c.ns,c.mode,c.R,c.Q,c.len,c.words,s.L,s.p,s.q,s.c0,s.c1,s.c2,s.c3,s.z,s.lv,s.pk,c.words,s.W):=by
 have g:=w;unfold dw at g;rw[zE b]at g;rw[aA9 b]at e;unfold gH;rw[zD];refine mZ (TY h s c.mode en Zb) ?_;rw[e];rfl
theorem bc4 (b:c.mode=3)(w:dw c i s):
  jm c.mode en Zb c.fixed c.tp c.sl c.ns c.mode c.R c.Q c.len c.words s.L s.p s.q s.c0 s.c1 s.c2 s.c3 s.z c.X c.T c.l c.k c.P c.tk s.lv s.pk c.words s.W=O (rj c en s).isNone:=by
 have g:=w;unfold dw at g;rw[zE b]at g;rw[aA9 b];unfold jm;rw[zD];refine mZ (TY h s c.mode en Zb) ?_;cases nxB s<;>rfl
theorem bo8 (b:c.mode=3)(w:dw c i s):
  jl c.mode en Zb c.fixed c.tp c.sl c.ns c.mode c.R c.Q c.len c.words s.L s.p s.q s.c0 s.c1 s.c2 s.c3 s.z c.X c.T c.l c.k c.P c.tk s.lv s.pk c.words s.W=O ((rj c en s).isNone&&(Zc (c.mode=2)&& !en)):=by
 unfold jl;refine mZ (bc4 h b w) ?_;cases(rj c en s).isNone<;>cases Zc (c.mode=2)<;>cases en<;>rfl
theorem bl7 (b:c.mode=3)(w:dw c i s):
  jE c.mode en Zb c.fixed c.tp c.sl c.ns c.mode c.R c.Q c.len c.words s.L s.p s.q s.c0 s.c1 s.c2 s.c3 s.z c.X c.T c.l c.k c.P c.tk s.lv s.pk c.words s.W=O ((rj c en s).isNone&&Zc (s.q=0)):=by
 have g:=w;unfold dw at g;rw[zE b]at g;unfold jE;refine mZ (bc4 h b w) ?_;cases(rj c en s).isNone with
 |false=>rfl
 |true=>
  rfl
omit h in
theorem aQ8 (b:c.mode=1)(en:Bool)(s:Dy):rj c en s=Bc (po c s):=by unfold rj;rw[Zh,Zh]
theorem bo4 (t:c.mode=1)(u:1<=c.ns)(r:i<=1000000)(w:dw c i s)(e:rj c en s=O a)(m:wo c a s):
  gj c.mode en Zb c.fixed c.tp c.sl c.ns c.mode c.R c.Q c.len c.words s.L s.p s.q s.c0 s.c1 s.c2 s.c3 s.z c.X c.T c.l c.k c.P c.tk (c.off 8:Int) c.ns (b8 c.X:Int) s.lv s.pk c.words s.W=O (a.1,a.2,Za,0,c.fixed,c.tp,c.sl,c.ns,c.mode,c.R,c.Q,c.len,c.words,(si c a s).L,(si c a s).p,(si c a s).q,(si c a s).c0,(si c a s).c1,(si c a s).c2,(si c a s).c3,(si c a s).z,(si c a s).lv,(si c a s).pk,c.words,(si c a s).W):=by
 have b:=w;unfold dw at b;rw[Zh]at b;rw[aQ8 t]at e;unfold wo at m;rw[Zh]at m;obtain⟨A,m⟩:=m;have j:=(J4 h V1 b.inv m).1;have g:si c a s=(CU c a.1 a.2 s).2:=by unfold si;rw[Zh]
 unfold gj;rw[zD];refine mZ (UH h V1 u b.inv c.mode en Zb) ?_;rw[e];show cond (!Za) _ _=_;rw[aB,zD];refine mZ (do2 h V1 b.inv b.cnt V1) ?_;show cond (Zc<|(CU c a.1 a.2 s).1≠0) _ _=_;rw[j,g];rfl
theorem bo2 (g:c.mode=1)(j:1<=c.ns)(w:dw c i s)(e:rj c en s=Z):
  gj c.mode en Zb c.fixed c.tp c.sl c.ns c.mode c.R c.Q c.len c.words s.L s.p s.q s.c0 s.c1 s.c2 s.c3 s.z c.X c.T c.l c.k c.P c.tk (c.off 8:Int) c.ns (b8 c.X:Int) s.lv s.pk c.words s.W=O (0,0,Zb,0,c.fixed,c.tp,c.sl,c.ns,c.mode,c.R,c.Q,c.len,c.words,s.L,s.p,s.q,s.c0,s.c1,s.c2,s.c3,s.z,s.lv,s.pk,c.words,s.W):=by
 have b:=w;unfold dw at b;rw[Zh]at b;rw[aQ8 g]at e;unfold gj;rw[zD];refine mZ (UH h V1 j b.inv c.mode en Zb) ?_;rw[e];rfl
theorem bc5 (g:c.mode=1)(j:1<=c.ns)(w:dw c i s):
  iv c.mode en Zb c.fixed c.tp c.sl c.ns c.mode c.R c.Q c.len c.words s.L s.p s.q s.c0 s.c1 s.c2 s.c3 s.z c.X c.T c.l c.k c.P c.tk (c.off 8:Int) c.ns (b8 c.X:Int) s.lv s.pk c.words s.W=O (rj c en s).isNone:=by
 have b:=w;unfold dw at b;rw[Zh]at b;rw[aQ8 g];unfold iv;rw[zD];refine mZ (UH h V1 j b.inv c.mode en Zb) ?_;cases Bc (po c s)<;>rfl
theorem bo9 (b:c.mode=1)(g:1<=c.ns)(w:dw c i s):
  iq c.mode en Zb c.fixed c.tp c.sl c.ns c.mode c.R c.Q c.len c.words s.L s.p s.q s.c0 s.c1 s.c2 s.c3 s.z c.X c.T c.l c.k c.P c.tk (c.off 8:Int) c.ns (b8 c.X:Int) s.lv s.pk c.words s.W=O ((rj c en s).isNone&&(Zc (c.mode=2)&& !en)):=by
 unfold iq;refine mZ (bc5 h b g w) ?_;cases(rj c en s).isNone<;>cases Zc (c.mode=2)<;>cases en<;>rfl
theorem bl8 (g:c.mode=1)(j:1<=c.ns)(w:dw c i s):
  iN c.mode en Zb c.fixed c.tp c.sl c.ns c.mode c.R c.Q c.len c.words s.L s.p s.q s.c0 s.c1 s.c2 s.c3 s.z c.X c.T c.l c.k c.P c.tk (c.off 8:Int) c.ns (b8 c.X:Int) s.lv s.pk c.words s.W=O ((rj c en s).isNone&&Zc (s.q=0)):=by
 have b:=w;unfold dw at b;rw[Zh]at b;unfold iN;refine mZ (bc5 h g j w) ?_;cases(rj c en s).isNone with
 |false=>rfl
 |true=>
  rw[zC];refine mZ (aM9 h V1 s b.inv c.mode en Zb) ?_;rfl
omit h in
theorem aQ9 (b:c.mode=2)(en:Bool)(s:Dy):rj c en s=qC en (po c s):=by unfold rj;rw[Zh,zE b]
theorem bo5 (t:c.mode=2)(u:1<=c.ns)(r:i<=1000000)(w:dw c i s)(e:rj c en s=O a)(m:wo c a s):
  gm c.mode en Zb c.fixed c.tp c.sl c.ns c.mode c.R c.Q c.len c.words s.L s.p s.q s.c0 s.c1 s.c2 s.c3 s.z c.X c.T c.l c.k c.P c.tk (c.off 8:Int) c.ns (b8 c.X:Int) s.lv s.pk c.words s.W=O (a.1,a.2,Za,0,c.fixed,c.tp,c.sl,c.ns,c.mode,c.R,c.Q,c.len,c.words,(si c a s).L,(si c a s).p,(si c a s).q,(si c a s).c0,(si c a s).c1,(si c a s).c2,(si c a s).c3,(si c a s).z,(si c a s).lv,(si c a s).pk,c.words,(si c a s).W):=by
 have b:=w;unfold dw at b;rw[Zh]at b;rw[aQ9 t]at e;unfold wo at m;rw[Zh]at m;obtain⟨A,m⟩:=m;have j:=(J4 h V1 b.inv m).1;have g:si c a s=(CU c a.1 a.2 s).2:=by unfold si;rw[Zh]
 unfold gm;rw[zD];refine mZ (ai6 h V1 u b.inv c.mode en Zb) ?_;rw[e];show cond (!Za) _ _=_;rw[aB,zD];refine mZ (do2 h V1 b.inv b.cnt V1) ?_;show cond (Zc<|(CU c a.1 a.2 s).1≠0) _ _=_;rw[j,g];rfl
theorem aT7 (g:c.mode=2)(j:1<=c.ns)(w:dw c i s)(e:rj c en s=Z):
  gm c.mode en Zb c.fixed c.tp c.sl c.ns c.mode c.R c.Q c.len c.words s.L s.p s.q s.c0 s.c1 s.c2 s.c3 s.z c.X c.T c.l c.k c.P c.tk (c.off 8:Int) c.ns (b8 c.X:Int) s.lv s.pk c.words s.W=O (0,0,Zb,0,c.fixed,c.tp,c.sl,c.ns,c.mode,c.R,c.Q,c.len,c.words,s.L,s.p,s.q,s.c0,s.c1,s.c2,s.c3,s.z,s.lv,s.pk,c.words,s.W):=by
 have b:=w;unfold dw at b;rw[Zh]at b;rw[aQ9 g]at e;unfold gm;rw[zD];refine mZ (ai6 h V1 j b.inv c.mode en Zb) ?_;rw[e];rfl
theorem bc6 (g:c.mode=2)(j:1<=c.ns)(w:dw c i s):
  iw c.mode en Zb c.fixed c.tp c.sl c.ns c.mode c.R c.Q c.len c.words s.L s.p s.q s.c0 s.c1 s.c2 s.c3 s.z c.X c.T c.l c.k c.P c.tk (c.off 8:Int) c.ns (b8 c.X:Int) s.lv s.pk c.words s.W=O (rj c en s).isNone:=by
 have b:=w;unfold dw at b;rw[Zh]at b;rw[aQ9 g];unfold iw;rw[zD];refine mZ (ai6 h V1 j b.inv c.mode en Zb) ?_;cases qC en (po c s)<;>rfl
theorem aq5 (b:c.mode=2)(g:1<=c.ns)(w:dw c i s):
  iu c.mode en Zb c.fixed c.tp c.sl c.ns c.mode c.R c.Q c.len c.words s.L s.p s.q s.c0 s.c1 s.c2 s.c3 s.z c.X c.T c.l c.k c.P c.tk (c.off 8:Int) c.ns (b8 c.X:Int) s.lv s.pk c.words s.W=O ((rj c en s).isNone&&(Zc (c.mode=2)&& !en)):=by
 unfold iu;refine mZ (bc6 h b g w) ?_;cases(rj c en s).isNone<;>cases Zc (c.mode=2)<;>cases en<;>rfl
theorem bl9 (g:c.mode=2)(j:1<=c.ns)(w:dw c i s):
  iO c.mode en Zb c.fixed c.tp c.sl c.ns c.mode c.R c.Q c.len c.words s.L s.p s.q s.c0 s.c1 s.c2 s.c3 s.z c.X c.T c.l c.k c.P c.tk (c.off 8:Int) c.ns (b8 c.X:Int) s.lv s.pk c.words s.W=O ((rj c en s).isNone&&Zc (s.q=0)):=by
 have b:=w;unfold dw at b;rw[Zh]at b;unfold iO;refine mZ (bc6 h g j w) ?_;cases(rj c en s).isNone with
 |false=>rfl
 |true=>
  rw[zC];refine mZ (aN0 h V1 s b.inv c.mode en Zb) ?_;rfl
theorem fdm (j:c.mode=2)(m:1<=c.ns)(w:dw c i s)(e:rj c Zb s=Z)(t:s.q= -1)(r:s.L<65535):
  gO Za c.mode Zb Zb c.fixed c.tp c.sl c.ns c.mode c.R c.Q c.len c.words s.L s.p s.q s.c0 s.c1 s.c2 s.c3 s.z c.X c.T c.l c.k c.P c.tk (c.off 8:Int) c.ns (b8 c.X:Int) s.lv s.pk c.words s.W=O (0,c.mode,Zb,Zb,c.fixed,c.tp,c.sl,c.ns,c.mode,c.R,c.Q,c.len,c.words,(Fp s).L,(Fp s).p,(Fp s).q,(Fp s).c0,(Fp s).c1,(Fp s).c2,(Fp s).c3,(Fp s).z):=by
 have g:=w;unfold dw at g;rw[Zh]at g
 have b:wP c s=(0,Fp s):=by
  unfold wP;rw[Zh,Zh,Zh];rfl
 unfold gO;rw[zD];refine mZ (aq5 h j m w) ?_;rw[e,zB j];show cond (!Za) _ _=_;rw[aB,zD,zD];refine mZ (ba9 g.inv.L) ?_;rw[b];rfl
theorem fds (b:c.mode=2)(g:1<=c.ns)(w:dw c i s)(e:rj c Zb s=Z):
  gO Zb c.mode Zb Zb c.fixed c.tp c.sl c.ns c.mode c.R c.Q c.len c.words s.L s.p s.q s.c0 s.c1 s.c2 s.c3 s.z c.X c.T c.l c.k c.P c.tk (c.off 8:Int) c.ns (b8 c.X:Int) s.lv s.pk c.words s.W=O (0,c.mode,Za,Zb,c.fixed,c.tp,c.sl,c.ns,c.mode,c.R,c.Q,c.len,c.words,s.L,s.p,s.q,s.c0,s.c1,s.c2,s.c3,s.z):=by
 unfold gO;rw[zD];refine mZ (aq5 h b g w) ?_;rw[e,zB b];rfl
end
end
section
open Bool renaming not_false->aD
open List renaming length_cons->aB
open Option renaming isNone->bB
def IV {α γ:Type}{c:Cx}(h:c.Ok){f:α->Option (α⊕γ)}{st:Nat->Nat->Bool->Dy->List (Int×Int)->α}
  (C: ∀(i p:Nat) (en:Bool) (s:Dy) (j:List<|Int×Int) (a:Int×Int),i<20000->b8 j<=100000->dw c i s->QE c en s->rj c en s=O a->wo c a s->f (st i p en s j)=O (.inl<|st (i+1) p en (si c a s)<|j++[a]))
  (D: ∀(i p:Nat) (s:Dy) (j:List<|Int×Int),i<20000->dw c i s->c.mode=2->rj c Zb s=Z->s.q= -1->s.L<65535->p<l->f (st i p Zb s j)=O (.inl<|st (i+1) (p+1) Zb (Fp s) j))
  (E: ∀(i p:Nat) (s:Dy) (j:List<|Int×Int),i<20000->dw c i s->c.mode=2->rj c Zb s=Z->s.q= -1->p=l->f (st i p Zb s j)=O (.inl<|st (i+1) (p+1) Za s j))
  {p:Nat}       (H:Way c l p en s es f' en' s'): ∀(i:Nat) (j:List<|Int×Int),dw c i s->QE c en s->i+b8 es<=20000->b8 j+b8 es<=100000->
   Reach f (b8 es) (st i p en s j) (st (i+b8 es) f' en' s'<|j++yd es)/\QE c en' s':=by
 induction H with
 |nil=>
  intro i j w q _ _;refine⟨?_,q⟩;rw[show yd []=([]:List<|Int×Int)from rfl,List.append_nil];exact Reach.refl
 | @act p en s a es f' en' s' e m _ z=>
  intro i j w q t u;rw[aB]at t u;have⟨r,A⟩:=z (i+1) (j++[a]) (uJ h w e m) (aS5 h w q e m) V1 (by rw[List.length_append,List.length_singleton];omega);refine⟨?_,A⟩;have:=(Reach.one<|C i p en s j a V1 V1 w q e m).trans r;rw[List.append_assoc]at this;rw[aB,show b8 es+1=1+(b8 es) by omega,show i+(1+b8 es)=i+1+(b8 es) by omega];exact this
 | @more p s es f' en' s' a b d e g _ z=>
  intro i j w q t u;rw[aB]at t u;have⟨r,A⟩:=z (i+1) j (CJ h w a d e) ⟨q.1,λB _=>by have B:0<=s.q:=B;omega⟩ V1 V1;refine⟨?_,A⟩;have:=(Reach.one<|D i p s j V1 w a b d e g).trans r;rw[aB,show b8 es+1=1+(b8 es) by omega,show i+(1+b8 es)=i+1+(b8 es) by omega];exact this
 | @stop p s es f' en' s' a b d e _ z=>
  intro i j w q t u;rw[aB]at t u;have⟨r,A⟩:=z (i+1) j (Tt h (Nat.le_succ i) w) ⟨λk=>(k a).elim,λ_ _=>rfl⟩ V1 V1;refine⟨?_,A⟩;have:=(Reach.one<|E i p s j V1 w a b d e).trans r;rw[aB,show b8 es+1=1+(b8 es) by omega,show i+(1+b8 es)=i+1+(b8 es) by omega];exact this
section
variable {c:Cx} (h:c.Ok)
def Km (c:Cx)(i b:Nat)(en:Bool)(s:Dy)(g:List<|Int×Int):=((i:Int),(b:Int),c.mode,en,Zb,c.fixed,c.tp,c.sl,c.ns,c.mode,c.R,c.Q,c.len,c.words,s.L,s.p,s.q,s.c0,s.c1,s.c2,s.c3,s.z,s.lv,s.pk,c.words,s.W,g)
include h
theorem QG (w:dw c i s):Wd c s.W/\b8 s.W<=1048576:=by
 have b:Wd c s.W:=by
  unfold dw at w;split at w
  .exact w.inv.w
  exact w.inv.w
 exact⟨b,(b.tk h).2⟩
theorem al4 (p:c.mode=3)(i g:Nat)(en:Bool)(s:Dy)(b:List<|Int×Int)(a:Int×Int)(hi:i<20000)(t:b8 b<=100000)(w:dw c i s)(q:QE c en s)(e:rj c en s=O a)(m:wo c a s):
  qh (l:Int) c.X c.T c.l c.k c.P c.tk (Km c i g en s b)=O (.inl<|Km c (i+1) g en (si c a s)<|b++[a]):=by
 have r:a=(a.1,0):=by
  have j:=e;rw[aA9 p]at j;have:=aJ5 j;exact Prod.ext rfl this
 unfold Km;simp only[qh];rw[zB (show(i:Int)<20000 by omega),zC];refine mZ (bo3 h p V1 w e m) ?_;show cond (Zc<|(0:Int)≠0) _ _=_;rw[zA V2,zD,zC,bu V1 V1,Zi,r];rfl
theorem al7 (j:c.mode=3)(i g:Nat)(en:Bool)(s:Dy)(b:List<|Int×Int)(hi:i<20000)(w:dw c i s)(e:rj c en s=Z)(r:s.q=0)(t:c.mode=2->en=Za):
  qh (l:Int) c.X c.T c.l c.k c.P c.tk (Km c i g en s b)=O (.inr<|.inr<|.inl (Za,c.mode,en,Zb,c.fixed,c.tp,c.sl,c.ns,c.mode,c.R,c.Q,c.len,c.words,s.L,s.p,s.q,s.c0,s.c1,s.c2,s.c3,s.z,s.lv,s.pk,c.words,s.W,b)):=by
 unfold Km;simp only[qh];rw[zB (show(i:Int)<20000 by omega),zC];refine mZ (bo1 h j w e) ?_;show cond (Zc<|(0:Int)≠0) _ _=_;rw[zA V2,zD,zD];refine mZ (bo8 h j w) ?_
 rw[e,show(bB (Z:Option<|Int×Int)&&(Zc (c.mode=2)&& !en))=Zb from by
  by_cases m:c.mode=2
  .omega
  .rw[zA m];rfl,aD,zC]
 refine mZ (bl7 h j w) ?_;rw[e,zB r];rfl
theorem al5 (j:c.mode=1)(p:1<=c.ns)(i g:Nat)(en:Bool)(s:Dy)(b:List<|Int×Int)(a:Int×Int)(hi:i<20000)(r:b8 b<=100000)(w:dw c i s)(q:QE c en s)(e:rj c en s=O a)(m:wo c a s):
  qi (l:Int) c.X c.T c.l c.k c.P c.tk (c.off 8:Int) c.ns (b8 c.X:Int) (Km c i g en s b)=O (.inl<|Km c (i+1) g en (si c a s)<|b++[a]):=by
 unfold Km;simp only[qi];rw[zB (show(i:Int)<20000 by omega),zC];refine mZ (bo4 h j p V1 w e m) ?_;show cond (Zc<|(0:Int)≠0) _ _=_;rw[zA V2,zD,zC,bu V1 V1,Zi];rfl
theorem al8 (j:c.mode=1)(m:1<=c.ns)(i g:Nat)(en:Bool)(s:Dy)(b:List<|Int×Int)(hi:i<20000)(w:dw c i s)(e:rj c en s=Z)(t:s.q=0)(u:c.mode=2->en=Za):
  qi (l:Int) c.X c.T c.l c.k c.P c.tk (c.off 8:Int) c.ns (b8 c.X:Int) (Km c i g en s b)=O (.inr<|.inr<|.inl (Za,c.mode,en,Zb,c.fixed,c.tp,c.sl,c.ns,c.mode,c.R,c.Q,c.len,c.words,s.L,s.p,s.q,s.c0,s.c1,s.c2,s.c3,s.z,s.lv,s.pk,c.words,s.W,b)):=by
 unfold Km;simp only[qi];rw[zB (show(i:Int)<20000 by omega),zC];refine mZ (bo2 h j m w e) ?_;show cond (Zc<|(0:Int)≠0) _ _=_;rw[zA V2,zD,zD];refine mZ (bo9 h j m w) ?_
 rw[e,show(bB (Z:Option<|Int×Int)&&(Zc (c.mode=2)&& !en))=Zb from by
  by_cases r:c.mode=2
  .omega
  .rw[zA r];rfl,aD,zC]
 refine mZ (bl8 h j m w) ?_;rw[e,zB t];rfl
theorem al6 (j:c.mode=2)(p:1<=c.ns)(i g:Nat)(en:Bool)(s:Dy)(b:List<|Int×Int)(a:Int×Int)(hi:i<20000)(r:b8 b<=100000)(w:dw c i s)(q:QE c en s)(e:rj c en s=O a)(m:wo c a s):
  jx (l:Int) c.X c.T c.l c.k c.P c.tk (c.off 8:Int) c.ns (b8 c.X:Int) (Km c i g en s b)=O (.inl<|Km c (i+1) g en (si c a s)<|b++[a]):=by
 unfold Km;simp only[jx];rw[zB (show(i:Int)<20000 by omega),zC];refine mZ (bo5 h j p V1 w e m) ?_;show cond (Zc<|(0:Int)≠0) _ _=_;rw[zA V2,zD,zC,bu V1 V1,Zi];rfl
theorem al9 (j:c.mode=2)(m:1<=c.ns)(i g:Nat)(en:Bool)(s:Dy)(b:List<|Int×Int)(hi:i<20000)(w:dw c i s)(e:rj c en s=Z)(t:s.q=0)(u:c.mode=2->en=Za):
  jx (l:Int) c.X c.T c.l c.k c.P c.tk (c.off 8:Int) c.ns (b8 c.X:Int) (Km c i g en s b)=O (.inr<|.inr<|.inl (Za,c.mode,en,Zb,c.fixed,c.tp,c.sl,c.ns,c.mode,c.R,c.Q,c.len,c.words,s.L,s.p,s.q,s.c0,s.c1,s.c2,s.c3,s.z,s.lv,s.pk,c.words,s.W,b)):=by
 unfold Km;simp only[jx];rw[zB (show(i:Int)<20000 by omega),zC];refine mZ (aT7 h j m w e) ?_;show cond (Zc<|(0:Int)≠0) _ _=_;rw[zA V2,zD,zD];refine mZ (aq5 h j m w) ?_
 rw[e,show(bB (Z:Option<|Int×Int)&&(Zc (c.mode=2)&& !en))=Zb from by
  by_cases r:c.mode=2
  .grind
  .rw[zA r];rfl,aD,zC]
 refine mZ (bl9 h j m w) ?_;rw[e,zB t];rfl
theorem am0 (j:c.mode=2)(m:1<=c.ns)(u:l<=1000)(i b:Nat)(s:Dy)(g:List<|Int×Int)(hi:i<20000)(w:dw c i s)(e:rj c Zb s=Z)(r:s.q= -1)(p:s.L<65535)(t:b<l):
  jx (l:Int) c.X c.T c.l c.k c.P c.tk (c.off 8:Int) c.ns (b8 c.X:Int) (Km c i b Zb s g)=O (.inl<|Km c (i+1) (b+1) Zb (Fp s) g):=by
 unfold Km;simp only[jx];rw[zB (show(i:Int)<20000 by omega),zC];refine mZ (aT7 h j m w e) ?_;show cond (Zc<|(0:Int)≠0) _ _=_;rw[zA V2,zD,zD];refine mZ (aq5 h j m w) ?_;rw[e,zB j];show cond (!Za) _ _=_;rw[Bool.not_true,zD,ad (n:=(b:Int)+1) V1,zB (show(b:Int)+1<=(l:Int)by omega)];refine mZ (fdm h j m w e r p) ?_;show cond (Zc<|(0:Int)≠0) _ _=_;rw[zA V2,zD,Zi];rfl
theorem am1 (j:c.mode=2)(m:1<=c.ns)(r:l<=1000)(i b:Nat)(s:Dy)(g:List<|Int×Int)(hi:i<20000)(w:dw c i s)(e:rj c Zb s=Z)(t:s.q= -1)(p:b=l):
  jx (l:Int) c.X c.T c.l c.k c.P c.tk (c.off 8:Int) c.ns (b8 c.X:Int) (Km c i b Zb s g)=O (.inl<|Km c (i+1) (b+1) Za s g):=by
 unfold Km;simp only[jx];rw[zB (show(i:Int)<20000 by omega),zC];refine mZ (aT7 h j m w e) ?_;show cond (Zc<|(0:Int)≠0) _ _=_;rw[zA V2,zD,zD];refine mZ (aq5 h j m w) ?_;rw[e,zB j];show cond (!Za) _ _=_;rw[Bool.not_true,zD,ad (n:=(b:Int)+1) V1,zA (show¬(b:Int)+1<=(l:Int)by omega)];refine mZ (fds h j m w e) ?_;show cond (Zc<|(0:Int)≠0) _ _=_;rw[zA V2,zD,Zi];rfl
end
end
section
open List renaming length_nil->aD,nil_append->bB
open Nat renaming zero_add->aB
def IH {α γ:Type}{f:α->Option (α⊕γ)}{k:Nat}{s s':α}{x:γ}(h:Reach f k s s')(b:k<18446744073709551615)(e:f s'=O (.inr x)):aq f fy s=O x:=by
 have:=h<|18446744073709551616-k;rw[show 18446744073709551616-k+k=fy by unfold fy;omega,show 18446744073709551616-k=(18446744073709551615-k)+1 by omega]at this;rw[this,dp,e];rfl
def WS :lX=O Za:=by kernel_rfl
section
variable {c:Cx} (h:c.Ok)
include h
theorem aZ3 (b:c.mode=3)(e:ng c.mode (b8 c.X) (b8 c.T) c.R c.l c.Q c.k c.len c.words=(c.fixed,c.tp,c.sl,c.ns,0)):kE c.mode c.X c.T c.R c.l c.Q c.k c.len c.words=O (.inr<|.inl (c.mode,Zb,Zb,c.fixed,c.tp,c.sl,c.ns,c.mode,c.R,c.Q,c.len,c.words,c.len,c.X,c.T,c.l,c.k,c.P,c.tk,c.fixed,c.fixed,c.words,(new1 c).W)):=by
 unfold kE;refine mZ (bk4 h b e) ?_
 refine mZ (show uQ .. =O (c.mode,Zb,Zb)from by
  unfold uQ;rw[show ix c.mode 4=O 3 from by rw[b];rfl]
  rfl) ?_
 rfl
theorem ap6 (t:c.mode=3)(e0:ng c.mode (b8 c.X) (b8 c.T) c.R c.l c.Q c.k c.len c.words=(c.fixed,c.tp,c.sl,c.ns,0))(E:l<=40)(H:Way c l 0 Zb (xj c) es f en s)(F:Fin c l f en s es):
  mN c.mode c.X c.T c.R c.l c.Q c.k c.len c.words (l:Int)=O (.inr<|.inl (Za,c.mode,en,Zb,yd es,c.fixed,c.tp,c.sl,c.ns,c.mode,c.R,c.Q,c.len,c.words,s.L,s.p,s.q,s.c0,s.c1,s.c2,s.c3,s.z,c.X,c.T,c.l,c.k,c.P,c.tk,s.lv,s.pk,c.words,s.W)):=by
 have w0:=oK h;have B:=H.well h w0;have A:=F.len;have C:xj c=new1 c:=by unfold xj;rw[zE t]
 obtain⟨r,q⟩:=IV h (f:=qh (l:Int) c.X c.T c.l c.k c.P c.tk) (st:=Km c) (λi b en s g a hi D w q e m=>al4 h t i b en s g a hi D w q e m) (λi b s g hi w u=>by omega) (λi b s g hi w u=>by omega) H 0 [] w0 UO V1 Zv;rw[aB,bB]at r;rw[aB]at B;have j:=IH r V1<|al7 h t (b8 es) f en s (yd es) V1 B F.no F.q F.en;rw[C]at j;unfold mN;refine mZ (aZ3 h t e0) ?_;rw[di,ll];refine mZ j ?_;rfl
theorem ap7 (t:c.mode=1)(e0:ng c.mode (b8 c.X) (b8 c.T) c.R c.l c.Q c.k c.len c.words=(c.fixed,c.tp,c.sl,c.ns,0))(I:l<=40)(H:Way c l 0 Zb (xj c) es f en s)(F:Fin c l f en s es):
  mN c.mode c.X c.T c.R c.l c.Q c.k c.len c.words (l:Int)=O (.inr<|.inr<|.inl (Za,c.mode,en,Zb,yd es,c.fixed,c.tp,c.sl,c.ns,c.mode,c.R,c.Q,c.len,c.words,s.L,s.p,s.q,s.c0,s.c1,s.c2,s.c3,s.z,c.X,c.T,c.l,c.k,c.P,c.tk,(c.off 8:Int),c.ns,(b8 c.X:Int),s.lv,s.pk,c.words,s.W)):=by
 have B:=UF h V1 e0;have w0:=oK h;have C:=H.well h w0;have A:=F.len;have D:xj c=new2 c:=by unfold xj;rw[Zh]
 obtain⟨r,q⟩:=IV h (f:=qi (l:Int) c.X c.T c.l c.k c.P c.tk (c.off 8:Int) c.ns (b8 c.X:Int)) (st:=Km c) (λi b en s g a hi E w q e m=>al5 h t B i b en s g a hi E w q e m) (λi b s g hi w u=>by omega) (λi b s g hi w u=>by omega) H 0 [] w0 UO V1 Zv;rw[aB,bB]at r;rw[aB]at C;have j:=IH r V1<|al8 h t B (b8 es) f en s (yd es) V1 C F.no F.q F.en;rw[D]at j;unfold mN;refine mZ (aZ4 h t e0) ?_;rw[di,di,ll];refine mZ j ?_;rfl
theorem ap8 (j:c.mode=2)(e0:ng c.mode (b8 c.X) (b8 c.T) c.R c.l c.Q c.k c.len c.words=(c.fixed,c.tp,c.sl,c.ns,0))(S:l<=40)(H:Way c l 0 Zb (xj c) es f en s)(F:Fin c l f en s es):
  mN c.mode c.X c.T c.R c.l c.Q c.k c.len c.words (l:Int)=O (.inr<|.inr<|.inr (Za,c.mode,en,Zb,yd es,c.fixed,c.tp,c.sl,c.ns,c.mode,c.R,c.Q,c.len,c.words,s.L,s.p,s.q,s.c0,s.c1,s.c2,s.c3,s.z,c.X,c.T,c.l,c.k,c.P,c.tk,(c.off 8:Int),c.ns,(b8 c.X:Int),s.lv,s.pk,c.words,s.W)):=by
 have u:=UF h V1 e0;have w0:=oK h;have E:=H.well h w0;have D:=F.len;have I:xj c=new2 c:=by unfold xj;rw[Zh]
 obtain⟨r,q⟩:=IV h (f:=jx (l:Int) c.X c.T c.l c.k c.P c.tk (c.off 8:Int) c.ns (b8 c.X:Int)) (st:=Km c) (λi b en s g a hi K w q e m=>al6 h j u i b en s g a hi K w q e m) (λi b s g hi w B e C J A=>am0 h j u V1 i b s g hi w e C J A) (λi b s g hi w B e C A=>am1 h j u V1 i b s g hi w e C A) H 0 [] w0 UO V1 Zv;rw[aB,bB]at r;rw[aB]at E;have t:=IH r V1<|al9 h j u (b8 es) f en s (yd es) V1 E F.no F.q F.en;rw[I]at t;unfold mN;refine mZ (aZ5 h j e0) ?_;rw[di,di,di];refine mZ t ?_;rfl
theorem PQ (wT:ci c.T)(wX:ci c.X)(H:Way c l 0 Zb (xj c) es f en s)(F:Fin c l f en s es):
  Gf c s=(lossV c<|jr c l,0,(jP c l l).1,(jP c l l).2):=by
 have⟨⟨j,g,J⟩,_⟩:=H.je h wT wX (oK h)<|aP4 h wT wX;have b:=aS7 h wT J F.q (by rw[F.L];omega);rw[F.L,Int.toNat_natCast]at b;exact b
end
end
section
open Go.IntKind renaming wrap->zH,i64->zI,u64->zJ
open Int renaming mul_comm->aB,toNat_natCast->bD
open List renaming length_append->aD,length_singleton->bB
def Cg (x y:Int):Prop:= ∃k,x=y+18446744073709551616*k
def FV (x:Int):Cg (zH zJ x) x:=⟨-(x / 18446744073709551616),by rw[wU];omega⟩
def Cg.rfl' (x:Int):Cg x x:=⟨0,V1⟩
def Cg.trans {z:Int}(h:Cg x y)(k:Cg y z):Cg x z:=by
 obtain⟨a,rfl⟩:=h;obtain⟨b,rfl⟩:=k;exact⟨a+b,V1⟩
def Cg.symm (h:Cg x y):Cg y x:=by
 obtain⟨a,rfl⟩:=h;exact⟨-a,V1⟩
def Cg.add {u v:Int}(h:Cg x y)(k:Cg u v):Cg (x+u)<|y+v:=by
 obtain⟨a,rfl⟩:=h;obtain⟨b,rfl⟩:=k;exact⟨a+b,V1⟩
theorem Cg.mul (h:Cg x y)(u:Int):Cg (x*u)<|y*u:=by
 obtain⟨a,rfl⟩:=h;exact⟨a*u,by grind⟩
def Cg.mul' (h:Cg x y)(u:Int):Cg (u*x)<|u*y:=by
 rw[aB u x,aB u y];exact h.mul u
def Cg.eq (h:Cg x y)(hx:GJ x)(b:GJ y):x=y:=by
 have⟨a,e⟩:=h;unfold GJ at hx b;omega
def qB :Zd->Zd->Int
 |x::a,y::d=>x*y+qB a d
 |_,_=>0
def EE (a:Zd):qB a []=0:=by cases a<;>rfl
def Bi (x:Int)(a:Zd)(k:Nat):rg (x::a) ((k+1:Nat):Int)=rg a (k:Int):=by
 rfl
theorem GW : ∀(a d:Zd) (k:Nat) (v:Int),k<b8 a->qB (a.set k v) d=qB a d+(v-rg a (k:Int))*rg d (k:Int)
 |[],_,_,_,h=>by simp at h
 |x::a,[],k,v,h=>by rw[EE,EE];unfold rg;simp
 |x::a,y::d,0,v,_=>by
  show v*y+qB a d=x*y+qB a d+(v-x)*y
  grind
 |x::a,y::d,k+1,v,h=>by
  rw[Bi,Bi];show x*y+qB (a.set k v) d=x*y+qB a d+_;rw[GW a d k v (by simp at h;omega)];omega
def AR : ∀(a d:Zd),qB a d=qB d a
 |[],d=>by rw[EE];rfl
 |x::a,[]=>rfl
 |x::a,y::d=>by
  show x*y+qB a d=y*x+qB d a;rw[AR a d,aB]
def ab2 (a d:Zd)(k:Nat)(v:Int)(h:k<b8 d):qB a (d.set k v)=qB a d+rg a (k:Int)*(v-rg d (k:Int)):=by
 rw[AR,GW d a k v h,AR d a,aB]
def J5 : ∀(a a' d b:Zd),b8 a=b8 d->qB (a++a') (d++b)=qB a d+qB a' b
 |[],a',[],b,_=>by show _=0+_;rw[Int.zero_add];rfl
 |[],_,_::_,_,h=>by simp at h
 |_::_,_,[],_,h=>by simp at h
 |x::a,a',y::d,b,h=>by
  show x*y+qB (a++a') (d++b)=x*y+qB a d+_;rw[J5 a a' d b V6];omega
def rS : ∀(a:Zd) (n:Nat),qB a (List.replicate n 0)=0
 |[],_=>rfl
 |_::_,0=>rfl
 |x::a,n+1=>by
  show x*0+qB a (List.replicate n 0)=0;rw[rS a n];omega
def Lo : ∀(a d:Zd),qB a d=qB (a.take<|b8 d) d
 |[],_=>by rw[List.take_nil]
 |_::_,[]=>rfl
 |x::a,y::d=>by
  show x*y+qB a d=x*y+qB (a.take<|b8 d) d;rw[<-Lo a d]
def ab1 : ∀{a a':Zd} (d:Zd),b8 a=b8 a'->(∀i:Nat,i<b8 a->Cg (rg a (i:Int)) (rg a' (i:Int)))->Cg (qB a d) (qB a' d)
 |[],[],d,_,_=> .rfl' _
 |[],_::_,_,h,_=>by simp at h
 |_::_,[],_,h,_=>by simp at h
 |x::a,g::a',[],_,_=> .rfl' _
 |x::a,g::a',y::d,h,k=>by
  have b:=k 0 V2
  have:=ab1 (a:=a) (a':=a') d V6 (λi hi=>by
   have:=k (i+1) V4
   rwa [Bi,Bi]at this)
  exact(Cg.mul b y).add this
def tn (o:cg)(x y dx b:Int):Int:=
 if o.1=1 then zH zJ (dx+b)else if o.1=2 then zH zJ (dx+zH zJ (0-b))else if o.1=3 then zH zJ (zH zJ (x*b)+zH zJ (dx*y))else if o.1=4 then zH zJ (0-dx)else if o.1=5 then 0 else dx
theorem bc8 (g:0<o.1/\o.1<7)(x y dx b:Int):Cg (tn o x y dx b)<|(Wy o x y).1*dx+(Wy o x y).2*b:=by
 have:o.1=1∨o.1=2∨o.1=3∨o.1=4∨o.1=5∨o.1=6:=by omega
 rcases this with h|h|h|h|h|h
 .unfold tn Wy;simp only[h,if_true];exact(FV _).trans ⟨0,V1⟩
 .unfold tn Wy;simp[h];exact(FV _).trans (((Cg.rfl' dx).add<|FV<|-b).trans ⟨-b,V1⟩)
 .unfold tn Wy;simp[h];refine(FV _).trans (((FV _).add<|FV _).trans ⟨0,by grind⟩)
 .unfold tn Wy;simp[h];exact(FV _).trans ⟨-dx,V1⟩
 .unfold tn Wy;simp[h];exact .rfl' _
 unfold tn Wy;simp[h];exact .rfl' _
theorem aj9 (E:0<o.1/\o.1<7){R:Nat}(h:PZ R o){r A a:Zd}{t:Int}(U:b8 a=R)(V:b8 d=R)(F:A.set (b9 o.2.1) t=r):
  Cg (qB (Dk o A a t).2 d) (qB a<|d.set (b9 o.2.1)<|tn o (rg r o.2.2.1) (rg r o.2.2.2.1) (rg d o.2.2.1)<|rg d o.2.2.2.1):=by
 have⟨b,g,k,B,C,D,L,Q,S⟩:=zt h;have T:=bc8 E (rg r o.2.2.1) (rg r o.2.2.2.1) (rg d o.2.2.1)<|rg d o.2.2.2.1;unfold Dk;simp only[F];revert T;rw[B,C,D];simp only[bD];generalize Wy o (rg r (g:Int)) (rg r (k:Int))=q;generalize tn o _ _ _ _=v;intro T;rw[ab2 a d b v V1];generalize j:(a.set b 0).set g _=A2;have W:b8 A2=b8 a:=by rw[<-j];simp
 rw[GW A2 d k _ V1]
 have C2:Cg (qB A2 d)<|qB a d-rg a (b:Int)*rg d (b:Int)+q.1*rg a (b:Int)*rg d (g:Int):=by
  rw[<-j,GW _ d g _ V4,GW a d b 0 V1];generalize rg (a.set b 0) (g:Int)=z;have⟨m,u⟩:=FV<|q.1*rg a (b:Int);have⟨p,w⟩:=FV<|z+zH zJ (q.1*rg a (b:Int));rw[w,u];exact⟨(m+p)*rg d (g:Int),by grind⟩
 generalize rg A2 (k:Int)=z;have⟨m,u⟩:=FV<|q.2*rg a (b:Int);have⟨p,w⟩:=FV<|z+zH zJ (q.2*rg a (b:Int));have⟨H,J⟩:=C2;have⟨I,K⟩:=T;rw[w,u,J,K];exact⟨(m+p)*rg d (k:Int)+H-rg a (b:Int)*I,by grind⟩
def yH (o:cg)(s:Zd×Zd):Zd×Zd:=(s.1.set (b9 o.2.1)<|app o (rg s.1 o.2.2.1)<|rg s.1 o.2.2.2.1,s.2.set (b9 o.2.1)<|tn o (rg s.1 o.2.2.1) (rg s.1 o.2.2.2.1) (rg s.2 o.2.2.1)<|rg s.2 o.2.2.2.1)
def aN8 (l:List cg): ∀(r d t:Zd) (k:Nat),(pn yH l (r,d)).1=(pn iK l (r,t,k)).1:=by
 induction l with
 |nil=>intro r d t k;rfl
 |cons o l b=>intro r d t k;exact b _ _ _ _
def RS (l:List cg): ∀s:Zd×Zd,b8 (pn yH l s).1=b8 s.1/\b8 (pn yH l s).2=b8 s.2:=by
 induction l with
 |nil=>intro s;exact⟨rfl,rfl⟩
 |cons o l j=>
  intro s;have⟨b,g⟩:=j<|yH o s;exact⟨b.trans (by unfold yH;simp),g.trans (by unfold yH;simp)⟩
def bo6 {dx b:Int}(hx:GJ dx):GJ<|tn o x y dx b:=by
 unfold tn
 repeat' split
 all_goals first|exact QD _|exact hx|(unfold GJ;omega)
def aN9 (l:List cg): ∀s:Zd×Zd,ci s.2->ci (pn yH l s).2:=by
 induction l with
 |nil=>intro s h;exact h
 |cons o l b=>
  intro s h;exact b (yH o s)<|h.set (bo6<|JS h _) _
def RE {R:Nat}: ∀(n:Nat) (l:List cg),b8 l=n->∀(r t0 t a d:Zd),(∀o∈l,PZ R o/\0<o.1/\o.1<7)->b8 r=R->b8 a=R->b8 d=R->b8 l<=b8 t0->(∀i,i<b8 l->rg t (i:Int)=rg (pn iK l (r,t0,0)).2.1 (i:Int))->
  Cg (qB (CS (qs t) l ((pn iK l (r,t0,0)).1,a,b8 l)).2.1 d) (qB a (pn yH l (r,d)).2)
 |0,l,q,r,t0,t,a,d,_,_,_,_,_,_=>by
  have:=aK.1 q;subst this;exact .rfl' _
 |n+1,l,q,r,t0,t,a,d,E,F,C,D,K,ht=>by
  obtain⟨b,o,rfl⟩: ∃b o,l=b++[o]:=⟨l.take n,l[n]' V1,by
   rw[<-List.take_succ_eq_append_getElem V1,List.take_of_length_le V1]⟩
  rw[aD,bB]at q K;have u:b8 b=n:=by omega
  have⟨A,B,k⟩:=Lz b (r,t0,0);have m:pn yH (b++[o]) (r,d)=yH o (pn yH b (r,d)):=by rw[EN];rfl
  rw[J1,m];have L:pn iK (b++[o]) (r,t0,0)=iK o (pn iK b (r,t0,0)):=by rw[EN];rfl
  rw[L]at ht⊢;have⟨g,p⟩:=E o V2;have⟨S,Y,kb,I,q2,q3,U,V,W⟩:=zt g;have A:b8 (pn iK b (r,t0,0)).1=R:=A.trans F;have B:b8 (pn iK b (r,t0,0)).2.1=b8 t0:=B;have k:(pn iK b (r,t0,0)).2.2=b8 b:=by rw[k];simp
  have w: ∀i,i<b8 b->rg t (i:Int)=rg (pn iK b (r,t0,0)).2.1 (i:Int):=λi hi=>by
   rw[ht i (by rw[aD,bB];omega)];show rg ((pn iK b (r,t0,0)).2.1.set (pn iK b (r,t0,0)).2.2<|rg (pn iK b (r,t0,0)).1 o.2.1) (i:Int)=_;exact E4 V1
  have z:rg t ((b8 b:Nat):Int)=rg (pn iK b (r,t0,0)).1 (S:Int):=by
   rw[ht (b8 b) (by rw[aD,bB];omega)];show rg ((pn iK b (r,t0,0)).2.1.set (pn iK b (r,t0,0)).2.2<|rg (pn iK b (r,t0,0)).1 o.2.1) ((b8 b:Nat):Int)=_;rw[k,I];exact zQ V1
  have H:(iK o<|pn iK b (r,t0,0)).1.set (b9 o.2.1) (rg t ((b8 b:Nat):Int))=(pn iK b (r,t0,0)).1:=by
   show((pn iK b (r,t0,0)).1.set (b9 o.2.1) _).set (b9 o.2.1) _=_;rw[List.set_set,I,bD,z,an7 V1]
  have j:CS (qs t) [o] ((iK o<|pn iK b (r,t0,0)).1,a,b8<|b++[o])=((pn iK b (r,t0,0)).1,(Dk o (iK o<|pn iK b (r,t0,0)).1 a<|rg t ((b8 b:Nat):Int)).2,b8 b):=by
   rw[aD,bB];show((Dk o (iK o<|pn iK b (r,t0,0)).1 a<|rg t ((b8 b+1-1:Nat):Int)).1,(Dk o (iK o<|pn iK b (r,t0,0)).1 a<|rg t ((b8 b+1-1:Nat):Int)).2,b8 b+1-1)=_;rw[Nat.add_sub_cancel];have:(Dk o (iK o<|pn iK b (r,t0,0)).1 a<|rg t ((b8 b:Nat):Int)).1=(pn iK b (r,t0,0)).1:=H;rw[this]
  rw[j];have J:=(RS b (r,d)).2;have Q:=RE n b u r t0 t (Dk o (iK o<|pn iK b (r,t0,0)).1 a<|rg t ((b8 b:Nat):Int)).2 d (λx hx=>E x (by simp[hx])) F (((Hn o _ a _).2).trans C) D V1 w;refine Q.trans ?_;have P:=aj9 p g (a:=a) (d:=(pn yH b (r,d)).2) (t:=rg t ((b8 b:Nat):Int)) C (J.trans D) H;refine P.trans ?_;unfold yH;rw[<-aN8 b r d t0 0];exact .rfl' _
end
section
open Int renaming add_zero->cD,toNat_natCast->cV,zero_add->cW
open List renaming replicate->aB,length_take->aD,range->bB,take_append_drop->bD,getD_eq_getElem?_getD->cX,append_assoc->cY,length_drop->cZ,range_succ_eq_map->dA
open Nat renaming succ->cB
def Nv (f:Fo)(r d:Zd):Zd:=(pn yH f.unroll (r,d)).2
section
variable {l:List cg} {R:Int} {f:Fo}
def OG (h:Prg R l f){r w:Zd}(m:b8 r<=b9 R)(p:b8 w<=b9 R)(k:b8 d=b9 R):
  Cg (qB (SM R f r w) d) (qB (fill R w)<|Nv f (fill R r) d):=by
 have b:=h.ulen.1
 have D:=RE (R:=b9 R) f.n f.unroll b (fill R r) (aB f.n 0) (sj f (fill R r)<|aB f.n 0).2.1 (fill R w) d (λo g=>by
  have⟨q,j⟩:=uI f h.ok o g
  exact⟨(h.goodU o g).1,j⟩) (iA m) (iA p) k (by rw[List.length_replicate,b];omega) (λ_ _=>rfl)
 rw[b]at D;exact D
def Tl (f:Fo)(r d:Zd):b8 (Nv f r d)=b8 d:=(RS _ _).2
def ao8 (f:Fo)(r:Zd)(h:ci d):ci<|Nv f r d:=aN9 _ _ h
end
def Nj (R:Int)(a z:Zd):qB (fill R a) z=qB a (z.take<|b8 a):=by
 unfold fill;by_cases h:b8 a<=b8 z
 .have e:z=z.take (b8 a)++z.drop (b8 a):=(bD _ _).symm
  conv=>lhs;rw[e]
  rw[J5 _ _ _ _ Z9,AR<|aB _ _,rS,cD]
 rw[List.take_of_length_le V1];have e:a=a.take (b8 z)++a.drop (b8 z):=(bD _ _).symm;rw[Lo<|a++_,Lo a,List.take_append_of_le_length V1]
def Kl (c:Cx)(dx dt:Zd):Nat->Zd
 |0=>dx
 |i+1=>(Nv c.fl (fill c.R<|Ca c (i:Int)<|jr c i)<|fill c.R<|Kl c dx dt i++(dt++[0])).take<|b8 c.X
def Hc (c:Cx)(x dx dt:Zd):Int:=rg (Nv c.fk (fill c.Q<|x++(c.T++[]))<|fill c.Q<|dx++(dt++[])) 0
section
variable {c:Cx} (h:c.Ok) (wT:ci c.T) (wX:ci c.X) {dx dt:Zd} (hx:b8 dx=b8 c.X) (ht:b8 dt=b8 c.T)
include h wT wX
theorem uu {L:Nat}: ∀k,(b8 (jP c L k).1=b8 c.X/\ci (jP c L k).1)/\b8 (jP c L k).2=b8 c.T/\ci (jP c L k).2
 |0=>by
  have⟨⟨z,A⟩,w,u,C,D,B⟩:=h.lens;have⟨j,m⟩:=qr h wT wX L;have⟨b,g⟩:=Ed h wT j m;exact⟨⟨by show(b8<|(vT c<|jr c L).take<|b8 c.X)=_;rw[aD,b];omega,g.take _⟩,by show(b8<|tv _ _ _)=_;rw[pJ,bw],TP _ _ _⟩
 |k+1=>by
  have⟨⟨z,A⟩,w,u,C,D,B⟩:=h.lens;have⟨⟨p,q⟩,r,E⟩:=uu (L:=L) k;have⟨j,m⟩:=qr h wT wX<|L-(k+1);have⟨b,g⟩:=zN h wT (t:=((L-(k+1):Nat):Int)) j m p q;exact⟨⟨by show(b8<|(qu c _ _ _).take<|b8 c.X)=_;rw[aD,b];omega,g.take _⟩,by show(b8<|tv _ _ _)=_;rw[pJ,r],TP _ _ _⟩
omit h wT wX in
theorem Rc {g a d:Zd}{x:Nat}(m:b8 g=b8 d)(w:x+b8 d<=b8 a):Cg (qB (tv x g a) d)<|qB g d+qB ((a.drop x).take<|b8 d) d:=by
 have: ∀(d g a:Zd),b8 g=b8 d->b8 a=b8 d->qB ((bB<|b8 d).map λ(i:Nat)=>rg g (i:Int)+rg a (i:Int)) d=qB g d+qB a d:=by
  intro d;induction d with
  |nil=>intro g a j k;rw[EE,EE,EE];rfl
  |cons y d t=>
   intro g a j k;obtain⟨u,g,rfl⟩: ∃u b,g=u::b:=by cases g with|nil=>simp at j|cons u g=>exact⟨u,g,rfl⟩
   obtain⟨v,a,rfl⟩: ∃u b,a=u::b:=by cases a with|nil=>simp at k|cons u g=>exact⟨u,g,rfl⟩
   rw[List.length_cons,dA,List.map_cons,List.map_map]
   have e:((λ(i:Nat)=>rg (u::g) (i:Int)+rg (v::a) (i:Int))∘cB)=λ(i:Nat)=>rg g (i:Int)+rg a (i:Int):=by
    rfl
   rw[e];show(u+v)*y+qB _ d=u*y+qB g d+(v*y+qB a d);rw[t g a (by simpa using j) (by simpa using k)]
   grind
 have r:b8 ((a.drop x).take<|b8 d)=b8 d:=by rw[aD,cZ];omega
 rw[<-this d g _ m r];refine ab1 d (by rw[pJ,List.length_map,List.length_range,m]) λi hi=> ?_
 rw[pJ]at hi
 have p:rg (tv x g a) (i:Int)=IntKind.u64.wrap (rg g (i:Int)+rg a ((x+i:Nat):Int)):=by
  unfold tv;unfold rg
  simp_all
 have q:rg ((bB<|b8 d).map λ(i:Nat)=>rg g (i:Int)+rg ((a.drop x).take<|b8 d) (i:Int)) (i:Int)=rg g (i:Int)+rg a ((x+i:Nat):Int):=by
  conv=>lhs;unfold rg
  rw[cV,cX,List.getElem?_map,List.getElem?_range V1];show rg g (i:Int)+rg ((a.drop x).take<|b8 d) (i:Int)=_
  congr 1
  unfold rg;rw[cV,cV,cX,cX,List.getElem?_take_of_lt V1,List.getElem?_drop]
 rw[p,q];exact FV _
omit h wT wX in
theorem OD {R:Int}{p dx dt tl:Zd}(u:b8 p=b9 R)(q:b8 dx=b8 c.X)(r:b8 dt=b8 c.T)(t:b8 c.X+b8 c.T<=b9 R)(k: ∀y∈tl,y=(0:Int)):
  qB p (fill R<|dx++(dt++tl))=qB (p.take<|b8 c.X) dx+qB ((p.drop<|b8 c.X).take<|b8 dt) dt:=by
 have j: ∃n,tl=aB n 0:=⟨b8 tl,List.eq_replicate_iff.2 ⟨rfl,k⟩⟩
 obtain⟨n,rfl⟩:=j;unfold fill;generalize b9 R-b8 (dx++(dt++aB n (0:Int)))=m;have b:p=p.take (b8 c.X)++((p.drop<|b8 c.X).take (b8 dt)++(p.drop<|b8 c.X).drop (b8 dt)):=by rw[bD,bD]
 have g:(dx++(dt++aB n (0:Int)))++aB m (0:Int)=dx++(dt++aB (n+m) 0):=by rw[cY,cY,List.replicate_append_replicate]
 rw[g]
 conv=>lhs;rw[b]
 rw[J5 _ _ _ _ Z9,J5 _ _ _ _ (by rw[aD,cZ];omega),rS,cD]
omit wT wX in
theorem Qs (hx:b8 dx=b8 c.X)(ht:b8 dt=b8 c.T): ∀i,b8 (Kl c dx dt i)=b8 c.X
 |0=>hx
 |i+1=>by
  have⟨⟨j,k⟩,g,b,p,q,m⟩:=h.lens;show(b8<|List.take _ _)=_;rw[aD,Tl,iA (by simp[Qs hx ht i,ht];omega)];omega
include hx ht
theorem KQ {L:Nat}: ∀k,k<=L->Cg (qB (jP c L k).1 (Kl c dx dt<|L-k)+qB (jP c L k).2 dt) (Hc c (jr c L) (Kl c dx dt L) dt)
 |0,_=>by
  have⟨⟨K,S⟩,H,F,x1,x2,V⟩:=h.lens;have⟨j,q⟩:=qr h wT wX L;have⟨p,U⟩:=Ed h wT j q;have b:=Qs h hx ht L;have A:=Rc (g:=zeros<|b8 c.T) (a:=vT c<|jr c L) (d:=dt) (x:=b8 c.X) (by rw[bw,ht]) V1;have m:b8 (fill c.Q<|Kl c dx dt L++(dt++[]))=b9 c.Q:=iA (by simp[b,ht];omega);have P:Cg (qB (vT c<|jr c L) _) _:=OG h.pk (r:=jr c L++(c.T++[])) (w:=[1]) (d:=fill c.Q<|Kl c dx dt L++(dt++[])) (by simp[j];omega) V4 m;rw[OD p b ht V1 V2]at P;have I:fill c.Q [1]=1::aB (b9 c.Q-1) 0:=rfl
  have e:qB (fill c.Q [1]) (Nv c.fk (fill c.Q<|jr c L++(c.T++[]))<|fill c.Q<|Kl c dx dt L++(dt++[]))=Hc c (jr c L) (Kl c dx dt L) dt:=by
   unfold Hc;rw[I];have B:=(Tl c.fk (fill c.Q<|jr c L++(c.T++[]))<|fill c.Q<|Kl c dx dt L++(dt++[])).trans m;generalize Nv c.fk _ _=z at B⊢;cases z with
   |nil=>simp at B;omega
   |cons y z=>
    show 1*y+qB (aB _ 0) z=y;rw[AR,rS];omega
  rw[e]at P;have z0:qB (zeros<|b8 c.T) dt=0:=by rw[AR];exact rS _ _
  rw[z0,cW]at A;exact((Cg.rfl' _).add A).trans P
 |k+1,hk=>by
  have⟨⟨K,S⟩,H,F,x1,x2,V⟩:=h.lens;have J:=KQ (L:=L) k V1;have⟨⟨u,C⟩,D,a4⟩:=uu h wT wX (L:=L) k;have⟨j,q⟩:=qr h wT wX<|L-(k+1);have⟨p,U⟩:=zN h wT (t:=((L-(k+1):Nat):Int)) j q u C;have b:=Qs h hx ht<|L-(k+1);have A:=Rc (g:=(jP c L k).2) (a:=qu c ((L-(k+1):Nat):Int) (jr c<|L-(k+1)) (jP c L k).1) (d:=dt) (x:=b8 c.X) (by rw[D,ht]) V1;have m:b8 (fill c.R<|Kl c dx dt (L-(k+1))++(dt++[0]))=b9 c.R:=iA (by simp[b,ht];omega);have P:Cg (qB (qu c ((L-(k+1):Nat):Int) (jr c<|L-(k+1)) (jP c L k).1) _) _:=OG h.pl (r:=Ca c ((L-(k+1):Nat):Int)<|jr c<|L-(k+1)) (w:=(jP c L k).1) (d:=fill c.R<|Kl c dx dt (L-(k+1))++(dt++[0])) (by rw[AP _ j];omega) V1 m;rw[OD p b ht V1 V2]at P;have E:L-k=L-(k+1)+1:=by omega
  have e:qB (fill c.R (jP c L k).1) (Nv c.fl (fill c.R<|Ca c ((L-(k+1):Nat):Int)<|jr c<|L-(k+1))<|fill c.R<|Kl c dx dt (L-(k+1))++(dt++[0]))=qB (jP c L k).1 (Kl c dx dt<|L-k):=by
   rw[E];show _=qB _ (List.take _ _);rw[Nj,u]
  rw[e]at P;show Cg (qB ((qu c _ _ _).take<|b8 c.X) (Kl c dx dt<|L-(k+1))+qB (tv _ _ _) dt) _;have⟨W,w1⟩:=A;have⟨Y,w2⟩:=P;have⟨u3,w3⟩:=J;exact⟨W+Y+u3,V1⟩
end
def one1 (n i:Nat):Zd:=(bB n).map λk=>if k=i then 1 else 0
def Sw (n i:Nat):b8 (one1 n i)=n:=by unfold one1;simp
theorem Ln : ∀(n:Nat) (a:Zd) (i:Nat),b8 a=n->i<n->qB a (one1 n i)=rg a (i:Int)
 |0,_,_,_,h=>by omega
 |n+1,[],_,h,_=>by simp at h
 |n+1,x::a,i,h,hi=>by
  have h:b8 a=n:=by simpa using h
  unfold one1;rw[dA,List.map_cons,List.map_map]
  have z: ∀(n:Nat) (a:Zd),qB a ((bB n).map<|(λk=>if k=0 then(1:Int)else 0)∘cB)=0:=λn a=>by
   rw[show((bB n).map<|(λk=>if k=0 then(1:Int)else 0)∘cB)=aB n 0 from by
    rw[List.eq_replicate_iff]
    exact⟨V2,λy b=>by obtain⟨k,_,rfl⟩:=aE.1 b;simp⟩,rS]
  cases i with
  |zero=>
   show x*1+qB a _=x;rw[z];omega
  |succ i=>
   rw[Bi];show x*(if(0:Nat)=i+1 then 1 else 0)+qB a _=_;rw[Zh,<-Ln n a i h V1]
   have:((λk=>if k=i+1 then(1:Int)else 0)∘cB)=λk=>if k=i then 1 else 0:=by
    grind
   rw[this];show x*0+_=_;rw[Int.mul_zero,cW];rfl
def ci.one1 (n i:Nat):ci<|one1 n i:=λy b=>by
 obtain⟨k,_,rfl⟩:=aE.1 b;unfold GJ;split<;>omega
def ci.zeros (n:Nat):ci<|zeros n:=ci.rep n
section
variable {c:Cx} (h:c.Ok) (wT:ci c.T) (wX:ci c.X)
def ao3 {dx dt:Zd}(b:ci dx)(w2:ci dt): ∀i,ci (Kl c dx dt i)
 |0=>b
 |i+1=>(ao8 _ _ ((ao3 b w2 i).app<|w2.app (λy g=>by rw[aI.1 g];unfold GJ;omega)).fill).take _
def Wi {x dx dt:Zd}(g:ci dx)(w2:ci dt):GJ<|Hc c x dx dt:=JS (ao8 _ _ (g.app (w2.app λy b=>by cases b)).fill) _
include h wT wX
theorem aO6 {L:Nat}(hi:i<b8 c.X):rg (jP c L L).1 (i:Int)=Hc c (jr c L) (Kl c (one1 (b8 c.X) i) (Go.V.zeros<|b8 c.T) L) (Go.V.zeros<|b8 c.T):=by
 have⟨⟨b,g⟩,j,k⟩:=uu h wT wX (L:=L) L;have A:=KQ h wT wX (dx:=one1 (b8 c.X) i) (dt:=Go.V.zeros<|b8 c.T) (Sw _ _) (bw _) (L:=L) L<|Nat.le_refl _;rw[Nat.sub_self,show qB (jP c L L).2 (Go.V.zeros<|b8 c.T)=0 from rS _ _,cD,show Kl c (one1 (b8 c.X) i) (Go.V.zeros<|b8 c.T) 0=one1 (b8 c.X) i from rfl,Ln _ _ _ b hi]at A;exact A.eq (JS g _)<|Wi (ao3 (.one1 _ _) (.zeros _) _)<|.zeros _
theorem aO5 {L j:Nat}(k:j<b8 c.T):rg (jP c L L).2 (j:Int)=Hc c (jr c L) (Kl c (Go.V.zeros<|b8 c.X) (one1 (b8 c.T) j) L) (one1 (b8 c.T) j):=by
 have⟨⟨m,p⟩,b,g⟩:=uu h wT wX (L:=L) L;have A:=KQ h wT wX (dx:=Go.V.zeros<|b8 c.X) (dt:=one1 (b8 c.T) j) (bw _) (Sw _ _) (L:=L) L<|Nat.le_refl _;rw[Nat.sub_self,show Kl c (Go.V.zeros<|b8 c.X) (one1 (b8 c.T) j) 0=Go.V.zeros (b8 c.X) from rfl,show qB (jP c L L).1 (Go.V.zeros<|b8 c.X)=0 from rS _ _,cW,Ln _ _ _ b k]at A;exact A.eq (JS g _)<|Wi (ao3 (.zeros _) (.one1 _ _) _)<|.one1 _ _
end
end
section
open List renaming length_append->aB,length_singleton->aD,map_congr_left->bB
def wz (l:Nat->Int)(d:Nat):Zd:=(List.range d).map l
def qS (l:Nat->Int)(d:Nat):b8 (wz l d)=d:=by unfold wz;simp
def Ba (l:Nat->Int)(d:Nat):wz l (d+1)=wz l d++[l d]:=by unfold wz;rw[List.range_succ,List.map_append];rfl
def Sj (l:Nat->Int)(d:Nat)(v:Int):wz (upd l d v) (d+1)=wz l d++[v]:=by
 rw[Ba,mW]
 congr 1
 unfold wz;exact bB λi hi=>Er (by have:=aH.1 hi;omega)
def XR (l:Nat->Int)(d:Nat)(v:Int):wz (upd l d v) d=wz l d:=by
 unfold wz;exact bB λi hi=>Er (by have:=aH.1 hi;omega)
def stU (a0:Int)(a1:List cg)(code:List tS)(p d:Nat)(l:Nat->Int)(s:List cg):Int×Int×List cg×List tS×Int×List cg×Int×Int×Int×List cg×Int×Int×Int×Bool×Zd×List cg:=
 ((p:Int),a0,a1,code,a0,a1,0,0,a0,a1,0,0,0,Zb,wz l d,s)
def aF5 (o:cg)(s:List cg):List cg:=s++[o]
def VdU (N m:Nat)(s:List cg):Prop:=b8 s+m<=N
theorem bc9 {P:Zd}{v:Int}:(P++[v])[b8 P]?=O v:=by
 grind
theorem bd0 {P:Zd}{v w:Int}:(P++[v]).set (b8 P) w=P++[w]:=by
 grind
theorem Tb {a0:Int}{a1:List cg}{code:List tS}(k:code.length<=8192)(B: ∀(p:Nat) (e:cg) (b:Nat),code[p]?=O (co e b)->b<=8192)(E:N<=1000000){good:cg->Prop}:Runs jp code (stU a0 a1 code) aF5 (VdU N) good where
 op:=by
  intro p d l s m o b h _ j A q;obtain⟨z,g⟩:=jh k h;unfold VdU at q;refine⟨?_,by unfold VdU aF5;rw[aB,aD];omega⟩;unfold stU aF5;simp only[jp];rw[zB (show(p:Int)<((code.length:Nat):Int)by omega),zC,g];simp only[zG];rw[h];simp only[zG,co];rw[zB (show o.1≠7 by omega),zC,zB (show o.1≠0 by omega)];simp only[zG,zC];rw[bu (by omega) (by omega),zA (show¬o.1=7 by omega),zD,zA (show¬o.1=0 by omega),zD,ad (n:=(p:Int)+1) (by omega)];rfl
 rep:=by
  intro p d l s m o b h j A q;obtain⟨z,g⟩:=jh k h;unfold stU;simp only[jp];rw[zB (show(p:Int)<((code.length:Nat):Int)by omega),zC,g];simp only[zG];rw[h];simp only[zG,co];rw[zA (show¬o.1≠7 by omega),zD];simp only[zG,zD];rw[zB j,zC,qS,bu (by omega) (by omega),ad (n:=(p:Int)+1) (by omega),Sj];rfl
 nxt:=by
  intro p d l s m e b h j A C D q;obtain⟨z,g⟩:=jh k h;unfold stU;simp only[jp];rw[zB (show(p:Int)<((code.length:Nat):Int)by omega),zC,g];simp only[zG];rw[h];simp only[zG,co];rw[zB (show e.1≠7 by omega),zC,zA (show¬e.1≠0 by omega)];simp only[zG,zD];rw[zA (show¬e.1=7 by omega),zD,zB j,zC,qS,ad (n:=((d+1:Nat):Int)-1) (by omega),show((d+1:Nat):Int)-1=(d:Int)by omega,bq (show d<d+1 by omega)]
  have r:(wz l<|d+1)[d]?=O (l d):=by
   have:=bc9 (P:=wz l d) (v:=l d);rw[qS]at this;rw[Ba,this]
  have t: ∀v,(wz l<|d+1).set d v=wz l d++[v]:=λv=>by
   have:=bd0 (P:=wz l d) (v:=l d) (w:=v);rw[qS]at this;rw[Ba,this]
  have u: ∀v,(wz l d++[v])[d]?=O v:=λv=>by
   grind
  simp only[zG];rw[r];simp only[zG];rw[gU (n:=l d-1) (by omega),t,aB,qS,aD,bq (show d<d+1 by omega)];simp only[zG];rw[u];simp only[zG];have:=B p e b h;rw[Zf,zC,Sj,ad (n:=(b:Int)-1) (by omega),Zi,show(b:Int)-1+1=b by omega]
 out:=by
  intro p d l s m e b h j A C q;obtain⟨z,g⟩:=jh k h;unfold stU;simp only[jp];rw[zB (show(p:Int)<((code.length:Nat):Int)by omega),zC,g];simp only[zG];rw[h];simp only[zG,co];rw[zB (show e.1≠7 by omega),zC,zA (show¬e.1≠0 by omega)];simp only[zG,zD];rw[zA (show¬e.1=7 by omega),zD,zB j,zC,qS,ad (n:=((d+1:Nat):Int)-1) (by omega),show((d+1:Nat):Int)-1=(d:Int)by omega,bq (show d<d+1 by omega)]
  have r:(wz l<|d+1)[d]?=O (l d):=by
   have:=bc9 (P:=wz l d) (v:=l d);rw[qS]at this;rw[Ba,this]
  have t: ∀v,(wz l<|d+1).set d v=wz l d++[v]:=λv=>by
   have:=bd0 (P:=wz l d) (v:=l d) (w:=v);rw[qS]at this;rw[Ba,this]
  have u: ∀v,(wz l d++[v])[d]?=O v:=λv=>by
   grind
  simp only[zG];rw[r];simp only[zG];rw[gU (n:=l d-1) (by omega),t,aB,qS,aD,bq (show d<d+1 by omega)];simp only[zG];rw[u];simp only[zG];rw[Ze,zD,Zk,dj,ad (n:=(p:Int)+1) (by omega),XR];rw[show((d:Int).toNat-0)=(wz l d).length by rw[qS];omega,List.take_left];rfl
def bm4 (l:List cg): ∀s,pn aF5 l s=s++l:=by
 induction l with
 |nil=>intro s;exact(List.append_nil s).symm
 |cons o l b=>intro s;exact(b _).trans<|List.append_assoc ..
def J3 : ∀(f:Fo) (p:Nat),∀x∈f.code p,x.2.2.2.2.2<=((p+f.len:Nat):Int)
 | .nil,p,x,h=>by cases h
 | .op o r,p,x,h=>by
  simp only[Fo.code,Fo.len]at h⊢;rcases aA.1 h with rfl|h
  .show((0:Nat):Int)<=_;omega
  .have:=J3 r (p+1) x h;omega
 | .rep o b e r,p,x,h=>by
  simp only[Fo.code,Fo.len]at h⊢;rcases aA.1 h with rfl|h
  .show((p+b.len+2:Nat):Int)<=_;omega
  rcases aF.1 h with h|h
  .have:=J3 b (p+1) x h;omega
  rcases aA.1 h with rfl|h
  .show((p+1:Nat):Int)<=_;omega
  .have:=J3 r (p+b.len+2) x h;omega
def RK {R:Int}{l:List cg}{f:Fo}(h:Prg R l f):uR R l=O (0,f.unroll):=by
 have⟨t,_,b,r⟩:=IJ (m:=0) (l:=λ_=>0) (s:=([]:List cg)) (d:=0) (p:=0) (A:=[]) (B:=[]) (Tb (a0:=R) (a1:=l) (N:=65536) (good:=λ_=>True) h.clen (λp e q j=>by have g:=J3 f.bare 0 _<|List.mem_of_getElem? j;have b:=h.clen;rw[Fo.code_len]at b;have g:(q:Int)<=_:=g;omega) V1) f.bare V2 rfl (Fo.bare_ok f h.ok) f.bare_pos h.hi (λo k=>⟨trivial,(h.good o k).2⟩) (by rw[Fo.bare_n];have:=h.n;show 0+(f.n+0)<=_;omega);rw[Fo.bare_unroll,bm4,List.nil_append]at b;unfold uR;refine mZ (AY h) ?_;show cond (Zc<|(0:Int)≠0) _ _=_;rw[zA V2,zD];refine mZ (Bg b h.steps (c:=(R,l,f.bare.code 0,R,l,0,0,R,l,0,0,0,Zb,f.unroll)) ?_) rfl;unfold stU;simp only[jp];rw[zA Zr,zD]
end
section
open List renaming replicate->aB,cons_lt_cons_iff->aD,mem_cons_of_mem->bB,mem_cons_self->bD,replicate_succ->cB
abbrev Du :=Int×Int
abbrev Tm :=Int×Zd
def jz (a b:Du):Du:=(a.1*b.1,a.1*b.2+a.2*b.1)
def iI (a b:Du):Du:=(a.1+b.1,a.2+b.2)
def AU (c:Int)(a:Du):Du:=(c*a.1,c*a.2)
def tV (a:Du):Nat->Du
 |0=>(1,0)
 |n+1=>jz (tV a n) a
def Az :List Du->Zd->Du
 |x::g,n::b=>jz (tV x<|b9 n) (Az g b)
 |_,_=>(1,0)
def ou (xs:List Du):List Tm->Du
 |[]=>(0,0)
 |t::l=>iI (AU t.1<|Az xs t.2)<|ou xs l
def oQ {a b:Du}(h:a.1=b.1)(k:a.2=b.2):a=b:=by cases a;cases b;cases h;cases k;rfl
def Rz (a:Du):jz a (1,0)=a:=oQ (by simp[jz]) (by simp[jz])
def L8 (a:Du):jz (1,0) a=a:=oQ (by simp[jz]) (by simp[jz])
theorem Xr (a b:Du):jz a b=jz b a:=oQ ZS ZS
theorem yk (a b c:Du):jz (jz a b) c=jz a (jz b c):=oQ ZS ZS
theorem ab0 (a b c:Du):jz a (iI b c)=iI (jz a b) (jz a c):=oQ ZL ZL
theorem YI (a b c:Du):jz (iI a b) c=iI (jz a c) (jz b c):=oQ ZL ZL
theorem av9 (c d:Int)(a b:Du):jz (AU c a) (AU d b)=AU (c*d) (jz a b):=oQ (by simp only[jz,AU];grind) (by simp only[jz,AU];grind)
def EC (a:Du):iI a (0,0)=a:=oQ (by simp[iI]) (by simp[iI])
def uM (a:Du):iI (0,0) a=a:=oQ (by simp[iI]) (by simp[iI])
def rA (a b c:Du):iI (iI a b) c=iI a (iI b c):=oQ ZT ZT
def NT (a b:Du):iI a b=iI b a:=oQ ZT ZT
def RA (a:Du)(m:Nat): ∀n,tV a (m+n)=jz (tV a m) (tV a n)
 |0=>(Rz _).symm
 |n+1=>by
  show jz (tV a<|m+n) a=jz (tV a m) (jz (tV a n) a);rw[RA a m n,yk]
def Wn : ∀(xs:List Du) (e f:Zd),b8 e=b8 f->(∀n∈e,0<=n)->(∀n∈f,0<=n)->Az xs (List.zipWith (· + ·) e f)=jz (Az xs e) (Az xs f)
 |[],e,f,_,_,_=>by cases e<;>cases f<;>simp[Az,jz]
 |x::xs,[],f,h,_,_=>by
  have:f=[]:=aK.1 h.symm;subst this;simp[Az,jz]
 |x::xs,a::e,[],h,_,_=>by simp at h
 |x::xs,a::e,b::f,h,j,k=>by
  simp only[List.zipWith_cons_cons,Az];have m:=j a<|bD ..;have p:=k b<|bD ..;rw[Wn xs e f V6 (λn g=>j n<|bB _ g) (λn g=>k n<|bB _ g),Int.toNat_add m p,RA,yk,yk,<-yk (tV x<|b9 b),Xr (tV x<|b9 b)<|Az xs e,yk]
def LY : ∀(xs:List Du) (n:Nat),Az xs (aB n 0)=(1,0)
 |[],n=>by cases n<;>rfl
 |x::xs,0=>rfl
 |x::xs,n+1=>by
  rw[cB];show jz (1,0) (Az xs _)=_;rw[LY xs n,L8]
def Wp : ∀(xs:List Du) (n i:Nat),i<n->n=b8 xs->Az xs ((aB n (0:Int)).set i 1)=xs.getD i (0,0)
 |[],n,i,h,b=>by simp at b;omega
 |x::xs,0,i,h,_=>by omega
 |x::xs,n+1,0,h,b=>by
  rw[cB];show jz (tV x<|b9 (1:Int)) (Az xs<|aB n 0)=x;rw[LY,Rz];show jz (1,0) x=x;rw[L8]
 |x::xs,n+1,i+1,h,b=>by
  rw[cB];show jz (1,0) (Az xs<|(aB n (0:Int)).set i 1)=xs.getD i (0,0);rw[L8];exact Wp xs n i V1 (by simpa using b)
def J6 (xs:List Du): ∀(a b:List Tm),ou xs (a++b)=iI (ou xs a) (ou xs b)
 |[],b=>(uM _).symm
 |t::a,b=>by
  show iI _ (ou xs<|a++b)=_;rw[J6 xs a b,<-rA];rfl
def ac2 (xs:List Du){a b:List Tm}(h:a.Perm b):ou xs a=ou xs b:=by
 induction h with
 |nil=>rfl
 |cons t _ k=>exact congrArg (iI _) k
 |swap s t l=>
  show iI _ (iI _ _)=iI _ (iI _ _);rw[<-rA,<-rA,NT<|AU t.1 _]
 |trans _ _ g j=>exact g.trans j
def yV (a b:Du):Prop:=Cg a.1 b.1/\Cg a.2 b.2
def yV.rfl' (a:Du):yV a a:=⟨.rfl' _, .rfl' _⟩
def yV.of {a b:Du}(h:a=b):yV a b:=h▸ .rfl' a
def yV.trans {a b c:Du}(h:yV a b)(k:yV b c):yV a c:=⟨h.1.trans k.1,h.2.trans k.2⟩
def yV.add {a b c d:Du}(h:yV a b)(k:yV c d):yV (iI a c)<|iI b d:=⟨h.1.add k.1,h.2.add k.2⟩
def Cg.mul2 {u v:Int}(h:Cg x y)(k:Cg u v):Cg (x*u)<|y*v:=(h.mul u).trans<|k.mul' y
def PK {c d:Int}(h:Cg c d)(a:Du):yV (AU c a)<|AU d a:=⟨h.mul _,h.mul _⟩
theorem av8 (c d:Int)(a:Du):AU (c+d) a=iI (AU c a) (AU d a):=oQ (by simp only[AU,iI];grind) (by simp only[AU,iI];grind)
def ab5 (a:Du):AU 0 a=(0,0):=oQ Zw Zw
def mT (e:Zd):Zd:=e.flatMap λn=>[n / 256,n % 256]
def Be :Zd->Zd
 |a::b::r=>(a*256+b)::Be r
 |_=>[]
def Bf : ∀e:Zd,Be (mT e)=e
 |[]=>rfl
 |n::e=>by
  show(n / 256*256+n % 256)::Be (mT e)=_;rw[Bf e]
  congr 1
  omega
theorem VX : ∀{e f:Zd},b8 e=b8 f->(mT e<mT f↔e<f)
 |[],[],_=>by simp[mT]
 |[],_::_,h=>by simp at h
 |_::_,[],h=>by simp at h
 |a::e,b::f,h=>by
  have g:=VX (e:=e) (f:=f) V6;show(a / 256)::(a % 256)::mT e<(b / 256)::(b % 256)::mT f↔_;rw[aD,aD,aD,g]
  grind
def A0 (M:List<|Zd×Int)(k:Zd):Int:=((M.find? λp=>Zc<|p.1=k).map (·.2)).getD 0
def Xx (xs:List Du)(M:List<|Zd×Int):Du:=ou xs<|M.map λp=>(p.2,Be p.1)
theorem VE (xs:List Du)(k:Zd)(c:Int): ∀M:List<|Zd×Int,yV (Xx xs<|lC k (IntKind.u64.wrap<|A0 M k+c) M) (iI (Xx xs M)<|AU c<|Az xs<|Be k)
 |[]=>by
  show yV (iI (AU (IntKind.u64.wrap<|0+c) _) (0,0))<|iI (0,0) _;rw[EC,uM,Int.zero_add];exact PK (FV c) _
 |p::M=>by
  have g:=VE xs k c M;unfold lC;by_cases h:p.1=k
  .have b:A0 (p::M) k=p.2:=by
    unfold A0
    grind
   rw[zE h,b];show yV (iI (AU (IntKind.u64.wrap<|p.2+c)<|Az xs<|Be p.1)<|Xx xs M)<|iI (iI (AU p.2<|Az xs<|Be p.1)<|Xx xs M) _;rw[h];refine((PK (FV<|p.2+c) _).add<|.rfl' _).trans<|.of ?_;rw[av8,rA,rA,NT<|AU c _]
  .have b:A0 (p::M) k=A0 M k:=by
    unfold A0
    grind
   rw[zF h,b];show yV (iI (AU p.2<|Az xs<|Be p.1)<|Xx xs<|lC k _ M)<|iI (iI (AU p.2<|Az xs<|Be p.1)<|Xx xs M) _;rw[rA];exact(yV.rfl' _).add g
def Fy (v:Nat)(e:Zd):Prop:=b8 e=v/\∀n∈e,0<=n/\n<=65535
structure MOk (v:Nat)(M:List<|Zd×Int):Prop where
 nd:(M.map (·.1)).Nodup
 ok: ∀p∈M,(∃e,Fy v e/\p.1=mT e)/\GJ p.2
theorem WB {k:Zd}{c:Int}: ∀{M:List<|Zd×Int} {p:Zd×Int},p∈lC k c M->p∈M∨p=(k,c)
 |[],p,h=> .inr (by simpa[lC]using h)
 |q::M,p,h=>by
  unfold lC at h;split at h
  .rename_i hq
   grind
  .rcases aA.1 h with rfl|h
   .exact .inl (bD ..)
   .exact(WB h).imp (bB _) id
theorem SQ {k:Zd}{c:Int}: ∀{M:List<|Zd×Int},(lC k c M).map (·.1)=if k∈M.map (·.1)then M.map (·.1)else M.map (·.1)++[k]
 |[]=>rfl
 |q::M=>by
  unfold lC;by_cases h:q.1=k
  .rw[zE h,zE (by simp[h])];rfl
  .have b:k≠q.1:=λe=>h e.symm
   rw[zF h,List.map_cons,SQ]
   grind
def MOk.nil (v:Nat):MOk v []:=⟨.nil,λ_ h=>by cases h⟩
theorem MOk.put (h:MOk v M)(j:Fy v e)(c:Int):MOk v<|lC (mT e) (IntKind.u64.wrap c) M:=by
 refine⟨?_,λp g=> ?_⟩
 .rw[SQ];split
  .exact h.nd
  rename_i hk;rw[List.nodup_append];refine⟨h.nd,V2,λa k b m e=>hk ?_⟩
  grind
 rcases WB g with g|rfl
 .exact h.ok p g
 exact⟨⟨e,j,rfl⟩,QD _⟩
def SO {k:Zd}{c:Int}: ∀{M:List<|Zd×Int},b8 (lC k c M)<=b8 M+1
 |[]=>by simp[lC]
 |q::M=>by
  unfold lC;split
  .simp
  .have:=SO (k:=k) (c:=c) (M:=M);simp only[List.length_cons];omega
end
section
open List renaming mergeSort_perm->aB
def TQ (M:List<|Zd×Int):List Tm:=((((M.filter λp=>p.2 !=0).map (·.1)).mergeSort λx y=>Zc<|x<=y).reverse).map λk=>(A0 M k,Be k)
structure TOk (v:Nat)(ts:List Tm):Prop where
 len:b8 ts<=4096
 ok: ∀t∈ts,t.1≠0/\GJ t.1/\Fy v t.2
 dec:ts.Pairwise λs t=>t.2<s.2
theorem LB : ∀{M:List<|Zd×Int} {p:Zd×Int},(M.map (·.1)).Nodup->p∈M->A0 M p.1=p.2
 |q::M,p,b,hp=>by
  rw[List.map_cons,List.nodup_cons]at b;rcases aA.1 hp with rfl|hp
  .unfold A0
   grind
  .have g:q.1≠p.1:=λe=>b.1 (by rw[e];exact aE.2 ⟨p,hp,rfl⟩)
   have:A0 (q::M) p.1=A0 M p.1:=by
    unfold A0
    grind
   rw[this];exact LB b.2 hp
def FZ (xs:List Du): ∀M:List<|Zd×Int,ou xs ((M.filter λp=>p.2 !=0).map λp=>(p.2,Be p.1))=ou xs (M.map λp=>(p.2,Be p.1))
 |[]=>rfl
 |p::M=>by
  rw[List.filter_cons];by_cases h:(p.2 !=0)=Za
  .rw[zE h];show iI _ (ou xs _)=iI _ (ou xs _);rw[FZ xs M]
  .rw[zF h,FZ xs M];have b:p.2=0:=by simpa using h
   show _=iI (AU p.2 _) (ou xs _);rw[b,ab5,uM]
def at5 (xs:List Du)(h:MOk v M):ou xs (TQ M)=Xx xs M:=by
 unfold Xx;rw[<-FZ];refine ac2 xs ?_
 have b:((M.filter λp=>p.2 !=0).map λp=>(p.2,Be p.1))=((M.filter λp=>p.2 !=0).map (·.1)).map λk=>(A0 M k,Be k):=by
  rw[List.map_map];refine List.map_congr_left λp g=> ?_
  show _=(A0 M p.1,Be p.1);rw[LB h.nd (List.mem_filter.1 g).1]
 rw[b];exact((List.reverse_perm _).trans<|aB _ _).map _
theorem az2 {x y:Zd}(h:x<=y)(b:x≠y):x<y:=by
 grind
theorem at6 (h:MOk v M)(H:b8 (M.filter λp=>p.2 !=0)<=4096):TOk v<|TQ M:=by
 have g: ∀k,k∈(((M.filter λp=>p.2 !=0).map (·.1)).mergeSort λx y=>Zc<|x<=y).reverse->∃p∈M,p.1=k/\p.2≠0:=λk z=>by
  rw[List.mem_reverse,List.mem_mergeSort]at z
  grind
 have B:((M.filter λp=>p.2 !=0).map (·.1)).Nodup:=h.nd.sublist<|List.filter_sublist.map _;refine⟨by unfold TQ;simpa using H,λt ht=> ?_, ?_⟩
 .obtain⟨k,z,rfl⟩:=aE.1 ht;obtain⟨p,u,rfl,C⟩:=g k z;have⟨⟨e,w,j⟩,J⟩:=h.ok p u;simp only[LB h.nd u];refine⟨C,J, ?_⟩;rw[j,Bf];exact w
 unfold TQ;rw[List.pairwise_map];have U: ∀a b c:Zd,Zc (a<=b)=Za->Zc (b<=c)=Za->Zc (a<=c)=Za:=λa b c D E=>by simp only[decide_eq_true_eq]at*;exact List.le_trans D E
 have S: ∀a b:Zd,(Zc (a<=b)||Zc (b<=a))=Za:=λa b=>by simp only[Bool.or_eq_true,decide_eq_true_eq];exact List.le_total a b
 have L:=List.pairwise_mergeSort U S ((M.filter λp=>p.2 !=0).map (·.1));have Q:(((M.filter λp=>p.2 !=0).map (·.1)).mergeSort λx y=>Zc<|x<=y).Nodup:=(aB _ _).nodup_iff.2 B;rw[List.pairwise_reverse];refine(L.and Q).imp_of_mem λ{x y} hx K r=> ?_
 obtain⟨p,u,rfl,_⟩:=g x<|List.mem_reverse.2 hx;obtain⟨q,I,rfl,_⟩:=g y<|List.mem_reverse.2 K;have⟨⟨e,w,j⟩,_⟩:=h.ok p u;have⟨⟨f,F,A⟩,_⟩:=h.ok q I;have m:=az2 (of_decide_eq_true r.1) r.2;simp only;rw[j,A]at m⊢;rw[Bf,Bf];exact(VX<|w.1.trans F.1.symm).1 m
end
section
open Int renaming toNat->aD,toNat_natCast->bB
open IntKind renaming bits->aB
open List renaming length_take->bD,replicate->cB,getElem?_eq_getElem->cD,getElem_mem->cV,length_append->cW,take_succ_eq_append_getElem->cX
open Nat renaming mod_eq_of_lt->cY
def rgB (e:Zd):Bool:=e.any λn=>Zc (n<0)||Zc (65535<n)
theorem Nr (e:Zd)(j:b8 e<1000000):gE e=O (rgB e):=by
 unfold gE kg
 rcases uy (f:=gG e) (l:=e) (λn=>Zc (n<0)||Zc (65535<n)) (λi=> .inl (i:Int)) (.inr ()) j (λi hi=>by
  simp only[gG];rw[Zf,zC,cz hi];simp only[zG,xL];by_cases b:e[i]<0
  .rw[zB b,zC,zG,zC];rfl
  .rw[zA b,zD,zG,Bool.false_or,Zi]
   grind) (by
  simp only[gG]
  grind)with⟨b,i,g⟩|⟨b,g⟩
 .rw[g];show O (Zc<|(0:Int)<=(i:Int))=O (e.any _);rw[Zf,b]
 rw[g];show O (Zc<|(0:Int)<= -1)=O (e.any _);rw[b];rfl
theorem Md (b:b8 e<1000000):nA (v:Int) e=O (Zc (b8 e=v)&& !rgB e):=by
 unfold nA;by_cases h:b8 e=v
 .rw[Zf,zC,Nr e b,zB h];rfl
 grind
theorem Yf :rgB e=Zb↔∀n∈e,0<=n/\n<=65535:=by
 unfold rgB
 grind
def OM :(Zc (b8 e=v)&& !rgB e)=Za↔Fy v e:=by
 rw[Bool.and_eq_true,Bool.not_eq_true',Yf];simp[Fy]
def FE (b:v<=64)(h:Fy v e):nA (v:Int) e=O Za:=by
 rw[Md (by have:=h.1;omega),OM.2 h]
theorem NM {n:Int}(h:0<=n/\n<256):yg n=n:=by
 obtain⟨k,rfl⟩: ∃k:Nat,n=k:=⟨n.toNat,by omega⟩
 unfold yg;rw[bB];have:(UInt8.ofNat k).toNat=k:=by simp;omega
 rw[this]
theorem aj5 (z:v<=64)(h:Fy v e):Bw e=O (mT e):=by
 have g:b8 e<=64:=by have:=h.1;omega
 have k:aq (qK e) fy (0,[])=O (mT e):=by
  have:=iW (f:=qK e) (n:=b8 e) (λi=>mT<|e.take i) (c:=mT e) V1 (λi hi=> ?_) ?_
  .exact this
  .have w:=h.2 e[i] (cV hi)
   have u:b8 (mT<|e.take i)<=200:=by
    have: ∀l:Zd,b8 (mT l)=2*b8 l:=λl=>by
     induction l with
     |nil=>rfl
     |cons a l j=>
      show(b8<|[a / 256,a % 256]++mT l)=_;rw[cW,j];simp;omega
    rw[this,bD];omega
   simp only[qK];rw[Zf,zC,cz hi,zG,bu V1 V1,Zi]
   have m:IntKind.u8.wrap (Int.fdiv e[i]<|2 ^ min (aD 8) (aB .i64))=e[i] / 256:=by
    have:Int.fdiv e[i] (2 ^ min (aD 8) (aB .i64))=e[i] / 256:=Int.fdiv_eq_ediv_of_nonneg _ V5;rw[this];show(e[i] / 256) % 256=_;omega
   have p:IntKind.u8.wrap e[i]=e[i] % 256:=rfl;rw[m,p,cX hi];have q: ∀a b:Zd,mT (a++b)=mT a++mT b:=λa b=>List.flatMap_append
   rw[q];rfl
  simp only[qK]
  grind
 unfold Bw;rw[k,zG]
 have:(mT e).map yg=mT e:=by
  have: ∀l:Zd,(∀n∈l,0<=n/\n<=65535)->(mT l).map yg=mT l:=λl=>by
   induction l with
   |nil=>intro _;rfl
   |cons a l j=>
    intro g;have t:=g a<|List.mem_cons_self ..;show yg (a / 256)::yg (a % 256)::(mT l).map yg=a / 256::a % 256::mT l;rw[j λn r=>g n<|List.mem_cons_of_mem _ r,NM V1,NM V1]
  exact this e h.2
 rw[this]
def ad8 (l:Zd):b8 (mT l)=2*b8 l:=by
 induction l with
 |nil=>rfl
 |cons a l b=>
  show(b8<|[a / 256,a % 256]++mT l)=_;rw[cW,b];simp;omega
theorem R5 : ∀(l:Zd) (i:Nat),i<b8 l->(mT l)[2*i]?=O (l.getD i 0 / 256)/\(mT l)[2*i+1]?=O (l.getD i 0 % 256)
 |[],i,h=>by simp at h
 |a::l,0,_=>⟨rfl,rfl⟩
 |a::l,i+1,h=>by
  have⟨b,g⟩:=R5 l i V6;show(a / 256::a % 256::mT l)[2*(i+1)]?=_/\(a / 256::a % 256::mT l)[2*(i+1)+1]?=_
  grind
theorem aC7 {a b:Int}(k:0<=a/\a<256)(m:0<=b/\b<256):ru .i64 (· ||| ·) (a*256) b=a*256+b:=by
 obtain⟨x,rfl⟩: ∃x:Nat,a=x:=⟨a.toNat,by omega⟩
 obtain⟨y,rfl⟩: ∃y:Nat,b=y:=⟨b.toNat,by omega⟩
 unfold ru
 have g:(BitVec.ofInt (aB .i64)<|(x:Int)*256).toNat=x*256:=by
  rw[show((x:Int)*256)=((x*256:Nat):Int)by omega,BitVec.ofInt_natCast,BitVec.toNat_ofNat];exact cY (by show _<2 ^ 64;omega)
 have j:(BitVec.ofInt (aB .i64) (y:Int)).toNat=y:=by
  rw[BitVec.ofInt_natCast,BitVec.toNat_ofNat];exact cY (by show _<2 ^ 64;omega)
 rw[BitVec.toNat_or,g,j]
 have:x*256|||y=x*256+y:=by
  have:=Nat.shiftLeft_add_eq_or_of_lt (b:=y) (i:=8) (by omega) x;rw[Nat.shiftLeft_eq]at this;exact this.symm
 rw[this,Zi];omega
theorem WC {α:Type}{l:List α}{x:α}(h:l[i]?=O x):rd l (i:Int)=O x:=by
 unfold rd
 grind
theorem SK (u:v<=64)(h:Fy v e):qL (mT e)=O e:=by
 have r:b8 e<=64:=by have:=h.1;omega
 have m:IntKind.i64.wrap (Int.tdiv ((b8 (mT e):Nat):Int) 2)=(b8 e:Int):=by
  rw[ad8,Qu V1,Zi];omega
 have g:aq (mH<|mT e) fy (0,cB (b8 e) 0)=O e:=by
  have:=iW (f:=mH<|mT e) (n:=b8 e) (λi=>e.take i++cB (b8 e-i) 0) (c:=e) V1 (λi hi=> ?_) ?_
  .simpa using this
  .have t:=h.2 e[i]<|cV hi;have⟨j,k⟩:=R5 e i hi;have q:e.getD i 0=e[i]:=by rw[List.getD_eq_getElem?_getD,cD hi];rfl
   rw[q]at j k;simp only[mH];rw[m,bB,List.length_replicate,Zf,zC,ad (n:=2*(i:Int)) V1,show 2*(i:Int)=((2*i:Nat):Int)by omega,WC j,zG,ad (n:=((2*i:Nat):Int)+1) V1,show((2*i:Nat):Int)+1=((2*i+1:Nat):Int)by omega,WC k,zG];have b:b8 (e.take i++cB (b8 e-i) 0)=b8 e:=by simp;omega
   rw[b,bq hi,zG,cD V1,zG,ad (n:=(i:Int)+1) V1]
   have p:IntKind.i64.wrap (IntKind.i64.wrap (e[i] / 256)*2 ^ min (aD 8) (aB .i64))=e[i] / 256*256:=by
    rw[ad (n:=e[i] / 256) V1];show IntKind.i64.wrap (e[i] / 256*256)=_;rw[Zi]
   rw[p,ad (n:=e[i] % 256) V1,aC7 V1 V1,show e[i] / 256*256+e[i] % 256=e[i]by omega]
   congr 3
   rw[cX hi,List.set_append,zF (by rw[bD];omega),bD,Nat.min_eq_left V1,Nat.sub_self,show b8 e-i=(b8 e-(i+1))+1 by omega,List.replicate_succ,List.set_cons_zero,List.append_assoc];rfl
  simp only[mH]
  grind
 unfold qL;rw[m,bB,g,Zf,Zf,Zf];rfl
end
section
open List renaming getElem?_eq_none->aB,ext_getElem?->aD,getElem?_eq_getElem->bB,length_set->bD,getElem?_set->cB
def zM {c:Int}{t:Zd}(g:v<=64)(h:Fy v e): ∃b,mh c e t=O b/\gZ b=lC (mT e) (IntKind.u64.wrap<|A0 (gZ t) (mT e)+c) (gZ t):=by
 unfold mh;rw[aj5 g h];refine⟨_,rfl, ?_⟩;unfold yz;rw[Om];rfl
def rvS (l:List Zd)(k:Nat):List<|Zd:=(List.range<|b8 l).map λi=>if i<k∨(b8 l)-k<=i then l.getD (b8 l-1-i) []else l.getD i []
def E7 (l:List Zd)(k:Nat):b8 (rvS l k)=b8 l:=by unfold rvS;simp
theorem E6 (l:List Zd)(k i:Nat)(h:i<b8 l):(rvS l k)[i]?=O (if i<k∨(b8 l)-k<=i then l.getD (b8 l-1-i) []else l.getD i []):=by
 unfold rvS
 grind
theorem MC (l:List Zd)(z:b8 l<1000000):gQ l=O l.reverse:=by
 have p:aq fg fy (0,((b8 l:Int)-1),l)=O l.reverse:=by
  have:=Co (f:=fg) (n:=b8 l / 2) (λk=>((k:Int),((b8 l:Int)-1-k),rvS l k)) (c:=l.reverse) V1 (λk w=> ?_) ?_
  .have t:rvS l 0=l:=by
    refine aD λi=> ?_
    by_cases hi:i<b8 l
    .rw[E6 l 0 i hi,Zh,bB hi,List.getD_eq_getElem?_getD,bB hi];rfl
    rw[aB (by rw[E7];omega),aB V1]
   rw[t]at this;simpa using this
  .have b:k<b8 l:=by omega
   have g:b8 l-1-k<b8 l:=by omega
   have u:(b8 l:Int)-1-k=((b8 l-1-k:Nat):Int):=by omega
   simp only[fg];rw[Zf,zC,u];have q:=E6 l k k b;have j:=E6 l k (b8 l-1-k) g;rw[Zh]at q j;simp only[E7,bD,bq b,bq g,zG,q,j];rw[List.getElem?_set_ne V1,j,zG,Zi,Zi]
   congr 3
   .congr 1
    .omega
    refine aD λi=> ?_
    by_cases hi:i<b8 l
    .rw[E6 l (k+1) i hi,cB,cB];simp only[bD,E7];by_cases r:b8 l-1-k=i
     .rw[zE r,Zg,Zg,show b8 l-1-i=k by omega]
     rw[zF r];by_cases m:k=i
     .rw[zE m,Zg,Zg,m]
     rw[zF m,E6 l k i hi]
     grind
    rw[aB (by simp only[bD,E7];omega),aB (by rw[E7];omega)]
  simp only[fg];rw[Ze,zD]
  congr 2
  refine aD λi=> ?_
  by_cases hi:i<b8 l
  .rw[E6 _ _ i hi,List.getElem?_reverse hi]
   grind
  rw[aB (by rw[E7];omega),aB V4]
 unfold gQ;rw[Zi,p];rfl
theorem SJ {t:Zd}(A:v<=64)(h:MOk v<|gZ t)(B:b8 (gZ t)<=20000000):
  kI (v:Int) t=O (if 4096<b8 ((gZ t).filter λp=>p.2 !=0) then(0,20,(v:Int),t,[])else((v:Int),0,(v:Int),t,TQ<|gZ t)):=by
 unfold kI;rw[bu (by unfold Ot;omega) V1];by_cases m:4096<b8 ((gZ t).filter λp=>p.2 !=0)
 .have:Nat.blt 4096 (tH t)=Za:=Nat.ble_eq_true_of_le m;rw[this,zC,zE m]
 .have:Nat.blt 4096 (tH t)=Zb:=by
   cases u:Nat.blt 4096 (tH t)with
   |false=>rfl
   |true=>exact absurd (Nat.le_of_ble_eq_true u) m
  rw[this,zD,zF m]
  have j:b8 (gu t)<=4096:=by
   unfold gu nzL
   simp_all
  rw[MC _ V1,zG]
  have g: ∀k∈(gu t).reverse,∃e,Fy v e/\k=mT e:=λk b=>by
   rw[List.mem_reverse]at b;unfold gu nzL at b;rw[List.mem_mergeSort]at b;obtain⟨p,q,rfl⟩:=aE.1 b;exact(h.ok p (List.mem_filter.1 q).1).1
  have r:aq (mG (gu t).reverse) fy (0,(v:Int),t,(gu t).reverse,(v:Int),[])=O ((v:Int),t,(gu t).reverse,(v:Int),TQ<|gZ t):=by
   have z:b8 (gu t).reverse<=4096:=by rw[List.length_reverse];exact j
   have:=iW (f:=mG (gu t).reverse) (n:=b8 (gu t).reverse) (λi=>((v:Int),t,(gu t).reverse,(v:Int),((gu t).reverse.take i).map λk=>(A0 (gZ t) k,Be k))) (c:=((v:Int),t,(gu t).reverse,(v:Int),TQ<|gZ t)) V1 (λi hi=> ?_) ?_
   .simpa using this
   .obtain⟨e,w,b⟩:=g _<|List.getElem_mem hi;simp only[mG];rw[Zf,zC,bq hi,zG,bB hi,zG];have q:qL ((gu t).reverse[i])=O e:=by rw[b];exact SK A w
    rw[q,zG,bu (by rw[List.length_map,List.length_take];omega) V1,Zi]
    have:List.map (λk=>(A0 (gZ t) k,Be k)) (List.take (i+1) (gu t).reverse)=List.map (λk=>(A0 (gZ t) k,Be k)) (List.take i (gu t).reverse)++[(Option.getD (Bb t (gu t).reverse[i]) 0,e)]:=by
     rw[List.take_succ_eq_append_getElem hi,List.map_append];have:Be ((gu t).reverse[i])=e:=by rw[b];exact Bf e
     show _++[(A0 (gZ t) _,Be _)]=_;rw[this];rfl
    rw[this];rfl
   .simp only[mG];rw[Ze,zD,List.take_length];rfl
  rw[r];rfl
end
end Go.V
